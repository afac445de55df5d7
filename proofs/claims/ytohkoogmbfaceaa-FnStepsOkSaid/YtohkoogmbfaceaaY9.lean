/- What the laws' walks share: words, plain laws, and the walks of functions, part 9. -/
import Derived.Deep.RegionHeld3
import Derived.Below
import Derived.ChangeSame
import Derived.WalkKit
import Derived.ProofKit
import Derived.Carry
import Derived.Test.YtohkoogmbfaceaaProg
import Derived.Deep.Slices
import Derived.ChangeSlices
import Derived.ChangeArms
import Derived.Test.YtohkoogmbfaceaaY8
namespace Go.Proofs.Ytohkoogmbfaceaa
set_option linter.unusedVariables false
set_option linter.unusedSimpArgs false
open Go.RowKit Go.Maps
set_option maxHeartbeats 400000
def stSmall (s : St) : Prop := flSmall s.flash ∧ s.disk.length ≤ 6
theorem stSmall_of {s : St} (h : stFine s) : stSmall s := ⟨flSmall_of h.1, by rw [h.2.1]; omega⟩
/-- what a draw of a store answers -/
def StorePost (B R m : Nat) (w : World) (e : Ending) (w' : World) : Prop :=
  ∃ (A D : Option Addr) (c d : Nat) (s : St), e = .returned (.agg #[.slice A s.flash.length c, .slice D s.disk.length d]) ∧ stSmall s ∧ OSt w' w.heap.size w'.heap.size A s.flash D s.disk ∧ Rd w' B R (m + 1200) ∧ Agr (· = R) w w'
theorem OSt.putDisk {w w' : World} {lo hi db dO k : Nat} {A : Option Addr} {f : List Bk} {xs : List Int} {v : Int} (h : OSt w lo hi A f (some ⟨db, dO, none⟩) xs) (hk : k < xs.length) (hW : Wrote w w' db (dO + k) [.int .i64 v]) : OSt w' lo hi A f (some ⟨db, dO, none⟩) (xs.set k v) := by
  obtain ⟨hs, h1, h2, h3, h4⟩ := h
  have hd := h4 db (blk_some.2 rfl)
  refine ⟨hs, h1.keep fun b hb hl => hW.block b (fun e => ?_), h2, h3.putInt hk hW, h4⟩
  subst e
  rcases hb with hb | ⟨x, hx, hb⟩
  · exact hd.2.2.1 hb
  · obtain ⟨i, hi'⟩ := List.getElem?_of_mem hx
    exact hd.2.2.2 i x hi' hb
theorem OSt.agr {w w' : World} {lo hi : Nat} {A D : Option Addr} {f : List Bk} {xs : List Int} {S : Nat → Prop} (h : OSt w lo hi A f D xs) (ha : Agr S w w') (hS : ∀ b, lo ≤ b → b < hi → ¬ S b) : OSt w' lo hi A f D xs := h.keep fun b h1 h2 hl => ha.block b hl (hS b h1 h2)
def worn200 (b : Bk) : Bk := { b with worn := 200 }
def wornTo (f : List Bk) (k : Nat) : List Bk := (f.take k).map worn200 ++ f.drop k
theorem wornTo_len (f : List Bk) (k : Nat) : (wornTo f k).length = f.length := by unfold wornTo; rw [List.length_append, List.length_map, List.length_take, List.length_drop]; omega
theorem wornTo_get {f : List Bk} {k : Nat} : (wornTo f k)[k]? = f[k]? := by
  unfold wornTo
  by_cases h : k < f.length
  · rw [List.getElem?_append_right (by simp; omega), List.length_map, List.length_take, List.getElem?_drop]
    congr 1; omega
  · rw [List.getElem?_eq_none (by simp; omega), List.getElem?_eq_none (by omega)]
theorem wornTo_step {f : List Bk} {k : Nat} {b : Bk} (h : f[k]? = some b) : (wornTo f k).set k { b with worn := 200 } = wornTo f (k + 1) := by
  obtain ⟨hl, rfl⟩ := List.getElem?_eq_some_iff.1 h
  unfold wornTo
  rw [List.set_append_right _ _ (by simp; omega), List.length_map, List.length_take, show k - min k f.length = 0 by omega, List.drop_eq_getElem_cons hl, List.set_cons_zero, List.take_succ_eq_append_getElem hl, List.map_append, List.append_assoc]
  rfl
theorem wornTo_small {f : List Bk} (h : flSmall f) (k : Nat) : flSmall (wornTo f k) := by
  refine ⟨by rw [wornTo_len]; exact h.1, by rw [wornTo_len]; exact h.2.1, fun b hb => ?_⟩
  unfold wornTo at hb
  rcases List.mem_append.1 hb with hb | hb
  · obtain ⟨c, hc, rfl⟩ := List.mem_map.1 hb
    have := h.2.2 c (List.mem_of_mem_take hc)
    exact ⟨this.1, ⟨by show (-1 : Int) ≤ 200; omega, by show (200 : Int) ≤ 1000; omega⟩, this.2.2⟩
  · exact h.2.2 b (List.mem_of_mem_drop hb)
/-- the result laid -/
theorem laid_cells {w : World} {N : Nat} {u0 u1 : Value} (q0 : w.cell? ⟨N, 0, none⟩ = some u0) (q1 : w.cell? ⟨N, 1, none⟩ = some u1) (v0 v1 : Value) : Wrote w ((w.setCell ⟨N, 0, none⟩ v0).setCell ⟨N, 1, none⟩ v1) N 0 [v0, v1] :=
  wrote_setRow N [v0, v1] 0 w (fun j hj => by
    match j, hj with
    | 0, _ => exact ⟨_, q0⟩
    | 1, _ => exact ⟨_, q1⟩)
set_option maxHeartbeats 8000000 in
set_option maxRecDepth 100000 in
theorem spec_l71Store (B R m : Nat) (w : World) (hm : m ≤ 790000) (hR : Rd w B R m) :
    Calls Try.prog 74 #[.pointer (some ⟨R, 0, none⟩)] w (StorePost B R m w) := by
  have hRl := hR.lt
  have hR0 := hR.alloc (.cells #[.slice none 0 0, .slice none 0 0] 28)
  have hq := Row.new w #[.slice none 0 0, .slice none 0 0] 28
  obtain ⟨q0, f0⟩ := hq.at0 (j := 0) rfl
  obtain ⟨q1, f1⟩ := hq.at0 (j := 1) rfl
  have hA0 : Agr (· = R) w (w.alloc (.cells #[.slice none 0 0, .slice none 0 0] 28)) := (Agr.refl _ _).alloc _
  have hs0 : (w.alloc (.cells #[.slice none 0 0, .slice none 0 0] 28)).heap.size = w.heap.size + 1 := by simp
  clear hq
  go_enter Try.func74, Try.ntmps74
  go_wp2_with fail
  refine (spec_l71Play B R m _ (by omega) hR0).mono ?_
  rintro e w1 ⟨v, A, D, c, lo, hi, s, xs, rfl, hlo, hhi, hc, hO, hst, _, _, _, hR1, hA1⟩
  rw [hs0] at hlo
  have hs1 := hA1.size
  rw [hs0] at hs1
  replace q0 := (hA1.cell (b := w.heap.size) (by omega) (by omega) 0).trans q0
  replace q1 := (hA1.cell (b := w.heap.size) (by omega) (by omega) 1).trans q1
  replace f0 := (hA1.fz (b := w.heap.size) (by omega) (by omega) 0).trans f0
  replace f1 := (hA1.fz (b := w.heap.size) (by omega) (by omega) 1).trans f1
  replace hA1 := hA0.trans hA1 (fun _ _ h => h)
  obtain ⟨hlF, hlD⟩ : s.flash.length = 4 ∧ s.disk.length = 6 := ⟨hst.1.1, hst.2.1⟩
  have HLF := Lib.hid hlF
  have HLD := Lib.hid hlD
  have hsm := Lib.hid (stSmall_of hst)
  obtain ⟨db, dO, rfl⟩ := hO.disk.addr (ints_ne' (by intro e; rw [e] at hlD; simp at hlD))
  have hdb : lo ≤ db ∧ db < hi := by obtain ⟨_, _, _, _, h4⟩ := hO; have := h4 db (blk_some.2 rfl); exact ⟨this.1, this.2.1⟩
  clear hA0 hs0 hlF hlD hst hR0 hR
  obtain ⟨W, hW⟩ : ∃ W, w1.alloc (.cells #[.slice A 4 c, .slice (some ⟨db, dO, none⟩) 6 6] 28) = W := ⟨_, rfl⟩
  have hBW : Below w1.heap.size w1 W := by rw [← hW]; (repeat (first | (with_reducible exact Below.refl _ _) | (with_reducible assumption) | (refine Below.setCell ?_ (by first | omega | exact hB.size | exact hb.size | (have h := hB.size; simp; omega) | (have h := hb.size; simp; omega) | (simp; omega) | simp) _) | (refine Below.alloc ?_ (by first | omega | exact hB.size | exact hb.size | (have h := hB.size; simp; omega) | (have h := hb.size; simp; omega) | (simp; omega) | simp) _) | (refine Below.drew ?_)))
  have hWs : W.heap.size = w1.heap.size + 1 := by rw [← hW]; simp
  have hM := Row.new w1 #[.slice A 4 c, .slice (some ⟨db, dO, none⟩) 6 6] 28
  rw [hW] at hM
  obtain ⟨b0, g0⟩ := hM.at0 (j := 0) rfl
  obtain ⟨b1, g1⟩ := hM.at0 (j := 1) rfl
  replace q0 := (hBW.cell (p := ⟨w.heap.size, 0, none⟩) (by show w.heap.size < _; omega)).trans q0
  replace q1 := (hBW.cell (p := ⟨w.heap.size, 1, none⟩) (by show w.heap.size < _; omega)).trans q1
  replace f0 := (hBW.frozen (p := ⟨w.heap.size, 0, none⟩) (by show w.heap.size < _; omega)).trans f0
  replace f1 := (hBW.frozen (p := ⟨w.heap.size, 1, none⟩) (by show w.heap.size < _; omega)).trans f1
  replace hR1 := hR1.below hBW (Nat.le_refl _)
  replace hO := hO.below hBW (Nat.le_refl _)
  replace hA1 : Agr (· = R) w W := hA1.trans (Agr.of_below hBW : Agr (fun _ => False) w1 W) (fun _ _ h => h.elim)
  obtain ⟨n1, hn1⟩ : ∃ n1, w1.heap.size = n1 := ⟨_, rfl⟩
  rw [hn1] at hs1 hhi b0 b1 g0 g1 hWs
  have HW := Lib.hid hW
  clear hW hM hBW
  go_wp2_with fail
  (try rw [HW.out])
  (try rw [hn1])
  refine (spec_pickI 30 30 B R (m + 500) _ rfl (by omega) (by omega) (by omega) hR1).mono ?_
  rintro e w2 ⟨k, rfl, hk, hR2, hA2⟩
  (try simp only [hn1])
  have hs2 := hA2.size
  replace q0 := (hA2.cell (b := w.heap.size) (by omega) (by omega) 0).trans q0
  replace q1 := (hA2.cell (b := w.heap.size) (by omega) (by omega) 1).trans q1
  replace f0 := (hA2.fz (b := w.heap.size) (by omega) (by omega) 0).trans f0
  replace f1 := (hA2.fz (b := w.heap.size) (by omega) (by omega) 1).trans f1
  replace b0 := (hA2.cell (b := n1) (by omega) (by omega) 0).trans b0
  replace b1 := (hA2.cell (b := n1) (by omega) (by omega) 1).trans b1
  replace g0 := (hA2.fz (b := n1) (by omega) (by omega) 0).trans g0
  replace g1 := (hA2.fz (b := n1) (by omega) (by omega) 1).trans g1
  replace hO := hO.agr hA2 (fun b h1 h2 h3 => by omega)
  replace hA2 := hA1.trans hA2 (fun _ _ h => h)
  clear hA1 hR1 HW
  have hs2' : n1 < w2.heap.size := by omega
  clear hs2 hWs hn1
  by_cases h0 : k = 0
  · have t0 : ((k : Int) == 0) = true := by subst h0; rfl
    clear h0
    have hR2d := hR2.drew
    have hA2d := hA2.drew
    have hOd := hO.drew
    have P6 := Lib.hid (fun (p : Nat) (X : World) (h : p ≤ 1000000) (hr : Rd X B R p) => spec_pickI 6 6 B R p X rfl (by omega) (by omega) h hr)
    have P4 := Lib.hid (fun (p : Nat) (X : World) (h : p ≤ 1000000) (hr : Rd X B R p) => spec_pickI 4 4 B R p X rfl (by omega) (by omega) h hr)
    have HD := Lib.hid (fun (X : World) (h : Agr (· = R) w2.drew X) => (show X.cell? ⟨n1, 1, none⟩ = some (.slice (some ⟨db, dO, none⟩) 6 6) from (h.cell (b := n1) hs2' (by omega) 1).trans b1))
    have hZ := Lib.hid (fun (X : World) => Row.new X #[.int .i64 (-1), .int .i64 10, .int .i64 0, .int .i64 5] 3)
    have hag0 : Agr (· = R) w2.drew w2.drew := Agr.refl _ _
    have hd2 : w2.drew.heap.size = w2.heap.size := rfl
    go_wp2
    refine wp_region_held_drew (S := fun X => X.cell? ⟨n1, 1, none⟩ = some (.slice (some ⟨db, dO, none⟩) 6 6)) (by kernel_rfl) (HD.out _ hag0) (fun hHeld0 => ?_)
    refine wpAnyH_take (i := 0) (v := ?vz1) rfl (by kernel_rfl) (by kernel_rfl) (by kernel_rfl) (fun _ _ _ h => h) (Or.inl ⟨by kernel_rfl, ?yz1⟩) hHeld0 ?rz1
    case yz1 => (intro w' hS; (try dsimp only at hS); obtain s0 := hS; (try go_simp); (try with_reducible rfl))
    try simp only [Act.put, List.getElem_toArray, List.getElem_cons_zero, List.getElem_cons_succ, List.setIfInBounds_toArray, List.set_cons_zero, List.set_cons_succ]
    refine wpAnyH_take (i := 1) (v := ?vz2) rfl (by kernel_rfl) (by kernel_rfl) (by kernel_rfl) (fun _ _ _ h => h) (Or.inl ⟨by kernel_rfl, ?yz2⟩) hHeld0 ?rz2
    case yz2 => (intro w' hS; (try dsimp only at hS); obtain s0 := hS; (try go_simp); (try with_reducible rfl))
    try simp only [Act.put, List.getElem_toArray, List.getElem_cons_zero, List.getElem_cons_succ, List.setIfInBounds_toArray, List.set_cons_zero, List.set_cons_succ]
    refine wpAnyH_take (i := 2) (v := ?vz3) rfl (by kernel_rfl) (by kernel_rfl) (by kernel_rfl) (fun _ _ _ h => h) (Or.inl ⟨by kernel_rfl, ?yz3⟩) hHeld0 ?rz3
    case yz3 => (intro w' hS; (try dsimp only at hS); obtain s0 := hS; (try go_simp); (try with_reducible rfl))
    try simp only [Act.put, List.getElem_toArray, List.getElem_cons_zero, List.getElem_cons_succ, List.setIfInBounds_toArray, List.set_cons_zero, List.set_cons_succ]
    refine wpAnyH_take (i := 5) (v := ?vz4) rfl (by kernel_rfl) (by kernel_rfl) (by kernel_rfl) (fun _ _ _ h => h) (Or.inl ⟨by kernel_rfl, ?yz4⟩) hHeld0 ?rz4
    case yz4 => (intro w' hS; (try dsimp only at hS); obtain s0 := hS; (try go_simp); (try with_reducible rfl))
    try simp only [Act.put, List.getElem_toArray, List.getElem_cons_zero, List.getElem_cons_succ, List.setIfInBounds_toArray, List.set_cons_zero, List.set_cons_succ]
    refine wpAnyH_ready (rs := [3, 4]) (by kernel_rfl) (by simp) ?_
    refine AllReadyH.cons rfl (fun K hK => ?_) (AllReadyH.cons rfl (fun K hK => ?_) AllReadyH.nil)
    · go_simp
      refine (P6.out ((m + 501)) _ (by omega) hR2d).mono ?_
      rintro e wk3 ⟨k3, rfl, hk3, hRk3, hAk3⟩
      have hk3' : (k3 : Int) < 6 := by omega
      have hagk3 := hag0.trans hAk3 (fun _ _ h => h)
      go_wp2_with fail
      refine hK.out _ _ (HD.out _ hagk3) (fun hHk3 => ?_)
      clear hK K
      try simp only [Act.put, List.getElem_toArray, List.getElem_cons_zero, List.getElem_cons_succ, List.setIfInBounds_toArray, List.set_cons_zero, List.set_cons_succ]
      refine wpAnyH_ready (rs := [4, 6]) (by kernel_rfl) (by simp) ?_
      refine AllReadyH.cons rfl (fun K hK => ?_) (AllReadyH.cons rfl (fun K hK => ?_) AllReadyH.nil)
      · go_simp
        have hagb := hagk3.alloc (.cells #[.int .i64 (-1), .int .i64 10, .int .i64 0, .int .i64 5] 3)
        have hRb := hRk3.alloc (.cells #[.int .i64 (-1), .int .i64 10, .int .i64 0, .int .i64 5] 3)
        have hbxR : R < (wk3).heap.size := by have := hagk3.size; omega
        have hBt := fun (j : Nat) (u : Value) (hu : ([Value.int .i64 (-1), Value.int .i64 10, Value.int .i64 0, Value.int .i64 5])[j]? = some u) => ((hZ.out (wk3)).at0 hu).1
        refine hK.out _ _ (HD.out _ hagb) (fun hHb => ?_)
        clear hK K
        try simp only [Act.put, List.getElem_toArray, List.getElem_cons_zero, List.getElem_cons_succ, List.setIfInBounds_toArray, List.set_cons_zero, List.set_cons_succ]
        refine wpAnyH_ready (rs := [6]) (by kernel_rfl) (by simp) ?_
        refine AllReadyH.cons rfl (fun K hK => ?_) AllReadyH.nil
        go_simp
        refine (P4.out ((m + 501) + 1) _ (by omega) hRb).mono ?_
        rintro e wk4 ⟨k4, rfl, hk4, hRk4, hAk4⟩
        have hk4' : (k4 : Int) < 4 := by omega
        have hagk4 := hagb.trans hAk4 (fun _ _ h => h)
        replace hBt := fun (j : Nat) (u : Value) (hu : ([Value.int .i64 (-1), Value.int .i64 10, Value.int .i64 0, Value.int .i64 5])[j]? = some u) => (hAk4.cell (b := (wk3).heap.size) (by have := lt_of_cell (hBt 0 _ rfl); exact this) (by omega) j).trans (hBt j u hu)
        go_wp2_with fail
        refine hK.out _ _ (HD.out _ hagk4) (fun hHk4 => ?_)
        clear hK K
        try simp only [Act.put, List.getElem_toArray, List.getElem_cons_zero, List.getElem_cons_succ, List.setIfInBounds_toArray, List.set_cons_zero, List.set_cons_succ]
        obtain ⟨v4, hv, hv1, hv2⟩ : ∃ v : Int, ([Value.int .i64 (-1), Value.int .i64 10, Value.int .i64 0, Value.int .i64 5])[k4]? = some (.int .i64 v) ∧ -1 ≤ v ∧ v ≤ 1000 := by
          rcases (by omega : k4 = 0 ∨ k4 = 1 ∨ k4 = 2 ∨ k4 = 3) with rfl | rfl | rfl | rfl <;> exact ⟨_, rfl, by omega, by omega⟩
        have z0 : (wk4).cell? ⟨(wk3).heap.size, k4, none⟩ = some (.int .i64 v4) := hBt _ _ hv
        have hve : ∀ h : k4 < ([Value.int .i64 (-1), Value.int .i64 10, Value.int .i64 0, Value.int .i64 5]).length, ([Value.int .i64 (-1), Value.int .i64 10, Value.int .i64 0, Value.int .i64 5])[k4]'h = .int .i64 v4 := fun h => (List.getElem?_eq_some_iff.1 hv).2
        refine wpAnyH_take (i := 7) (v := ?vz5) rfl (by kernel_rfl) (by kernel_rfl) (by kernel_rfl) (fun _ _ _ h => h) (Or.inl ⟨by kernel_rfl, ?yz5⟩) hHk4 ?rz5
        case yz5 => (intro w' hS; (try dsimp only at hS); obtain s0 := hS; (try go_simp); (try with_reducible rfl))
        try simp only [Act.put, List.getElem_toArray, List.getElem_cons_zero, List.getElem_cons_succ, List.setIfInBounds_toArray, List.set_cons_zero, List.set_cons_succ]
        refine wpAnyH_ready (rs := [8]) (by kernel_rfl) (by simp) ?_
        refine AllReadyH.cons rfl (fun K hK => ?_) AllReadyH.nil
        go_simp
        refine hK.out _ _ (HD.out _ hagk4) (fun hHz => ?_)
        clear hK K
        try simp only [Act.put, List.getElem_toArray, List.getElem_cons_zero, List.getElem_cons_succ, List.setIfInBounds_toArray, List.set_cons_zero, List.set_cons_succ]
        refine wpAnyH_take (i := 9) (v := ?vz6) rfl (by kernel_rfl) (by kernel_rfl) (by kernel_rfl) (fun _ _ _ h => h) (Or.inl ⟨by kernel_rfl, ?yz6⟩) hHz ?rz6
        case yz6 => (intro w' hS; (try dsimp only at hS); obtain s0 := hS; (try go_simp); (try with_reducible rfl))
        try simp only [Act.put, List.getElem_toArray, List.getElem_cons_zero, List.getElem_cons_succ, List.setIfInBounds_toArray, List.set_cons_zero, List.set_cons_succ]
        have hOe := hOd.agr hagk4 (fun b h1 h2 h3 => by omega)
        obtain ⟨q5, hq5⟩ := get_some (l := s.disk) (k := k3) (by rw [HLD.out]; exact hk3)
        obtain ⟨d0, d1⟩ := hOe.disk.int_ hq5
        have hWd := wrote_one d0 (.int .i64 v4)
        have hOg := hOe.putDisk (k := k3) (v := v4) (by rw [HLD.out]; exact hk3) hWd
        have hAg2 := (hA2d.trans hagk4 (fun _ _ h => h)).trans (S' := (· = db)) hWd.agr (fun b hb e => by have := hdb; omega)
        have hRg := (hRk4.agr hWd.agr (by omega) (fun b hb e => by have := hRk4.le; omega))
        have hsX := hagk4.size
        have hsY := hWd.size
        refine wpAnyH_ready (rs := [10]) (by kernel_rfl) (by simp) ?_
        refine AllReadyH.cons rfl (fun K hK => ?_) AllReadyH.nil
        go_simp
        refine hK.out _ _ (by first | exact (hWd.agr.cell (b := n1) (by have := hagk4.size; omega) (by omega) 1).trans (HD.out _ hagk4)) (fun hHy => ?_)
        clear hK K
        try simp only [Act.put, List.getElem_toArray, List.getElem_cons_zero, List.getElem_cons_succ, List.setIfInBounds_toArray, List.set_cons_zero, List.set_cons_succ]
        replace q0 := (hWd.agr.cell (b := w.heap.size) (by omega) (by omega) 0).trans ((hagk4.cell (b := w.heap.size) (by show _ < w2.heap.size; omega) (by omega) 0).trans q0)
        replace q1 := (hWd.agr.cell (b := w.heap.size) (by omega) (by omega) 1).trans ((hagk4.cell (b := w.heap.size) (by show _ < w2.heap.size; omega) (by omega) 1).trans q1)
        replace f0 := (hWd.agr.fz (b := w.heap.size) (by omega) (by omega) 0).trans ((hagk4.fz (b := w.heap.size) (by show _ < w2.heap.size; omega) (by omega) 0).trans f0)
        replace f1 := (hWd.agr.fz (b := w.heap.size) (by omega) (by omega) 1).trans ((hagk4.fz (b := w.heap.size) (by show _ < w2.heap.size; omega) (by omega) 1).trans f1)
        replace b0 := (hWd.agr.cell (b := n1) (by omega) (by omega) 0).trans ((hagk4.cell (b := n1) (by show _ < w2.heap.size; omega) (by omega) 0).trans b0)
        replace b1 := (hWd.agr.cell (b := n1) (by omega) (by omega) 1).trans ((hagk4.cell (b := n1) (by show _ < w2.heap.size; omega) (by omega) 1).trans b1)
        have hsm2 : stSmall ⟨s.flash, s.disk.set k3 v4⟩ := ⟨hsm.out.1, by rw [List.length_set, HLD.out]; omega⟩
        replace hsm2 := Lib.hid hsm2
        clear hWd hOe hOd z0 d0 d1 hq5 hBt hv
        refine wpAnyH_done (by kernel_rfl) ?_ _
        go_wp2
        have hL := laid_cells q0 q1 (Value.slice A 4 c) (Value.slice (some ⟨db, dO, none⟩) 6 6)
        have hsz := hL.size
        have hOf := hOg.agr hL.agr (fun b h1 h2 h3 => by omega)
        have hRf := (hRg.agr hL.agr (by omega) (fun b hb e => by have := hRg.le; omega)).mono (n := m + 1200) (by omega)
        have hAf := hAg2.trans (S' := (· = w.heap.size)) hL.agr (fun b hb e => by omega)
        have r0 := hL.new_ 0 _ rfl
        have r1 := hL.new_ 1 _ rfl
        clear hL
        go_wp2
        refine bodyPost_ret (v := .agg #[Value.slice A 4 c, Value.slice (some ⟨db, dO, none⟩) 6 6]) (by simp [results, Try.results74, go_sem, r0, r1, q0, q1]) rfl ⟨A, (some ⟨db, dO, none⟩), c, 6, ⟨s.flash, s.disk.set k3 v4⟩, ?_, hsm2.out, hOf.mono (by omega) (by omega), hRf, hAf⟩
        · rw [List.length_set, HLF.out, HLD.out]
      · go_simp
        refine (P4.out ((m + 501) + 1) _ (by omega) hRk3).mono ?_
        rintro e wk4 ⟨k4, rfl, hk4, hRk4, hAk4⟩
        have hk4' : (k4 : Int) < 4 := by omega
        have hagk4 := hagk3.trans hAk4 (fun _ _ h => h)
        go_wp2_with fail
        refine hK.out _ _ (HD.out _ hagk4) (fun hHk4 => ?_)
        clear hK K
        try simp only [Act.put, List.getElem_toArray, List.getElem_cons_zero, List.getElem_cons_succ, List.setIfInBounds_toArray, List.set_cons_zero, List.set_cons_succ]
        refine wpAnyH_ready (rs := [4]) (by kernel_rfl) (by simp) ?_
        refine AllReadyH.cons rfl (fun K hK => ?_) AllReadyH.nil
        go_simp
        have hagb := hagk4.alloc (.cells #[.int .i64 (-1), .int .i64 10, .int .i64 0, .int .i64 5] 3)
        have hRb := hRk4.alloc (.cells #[.int .i64 (-1), .int .i64 10, .int .i64 0, .int .i64 5] 3)
        have hbxR : R < (wk4).heap.size := by have := hagk4.size; omega
        have hBt := fun (j : Nat) (u : Value) (hu : ([Value.int .i64 (-1), Value.int .i64 10, Value.int .i64 0, Value.int .i64 5])[j]? = some u) => ((hZ.out (wk4)).at0 hu).1
        refine hK.out _ _ (HD.out _ hagb) (fun hHb => ?_)
        clear hK K
        try simp only [Act.put, List.getElem_toArray, List.getElem_cons_zero, List.getElem_cons_succ, List.setIfInBounds_toArray, List.set_cons_zero, List.set_cons_succ]
        obtain ⟨v4, hv, hv1, hv2⟩ : ∃ v : Int, ([Value.int .i64 (-1), Value.int .i64 10, Value.int .i64 0, Value.int .i64 5])[k4]? = some (.int .i64 v) ∧ -1 ≤ v ∧ v ≤ 1000 := by
          rcases (by omega : k4 = 0 ∨ k4 = 1 ∨ k4 = 2 ∨ k4 = 3) with rfl | rfl | rfl | rfl <;> exact ⟨_, rfl, by omega, by omega⟩
        have z0 : ((wk4).alloc (.cells #[.int .i64 (-1), .int .i64 10, .int .i64 0, .int .i64 5] 3)).cell? ⟨(wk4).heap.size, k4, none⟩ = some (.int .i64 v4) := hBt _ _ hv
        have hve : ∀ h : k4 < ([Value.int .i64 (-1), Value.int .i64 10, Value.int .i64 0, Value.int .i64 5]).length, ([Value.int .i64 (-1), Value.int .i64 10, Value.int .i64 0, Value.int .i64 5])[k4]'h = .int .i64 v4 := fun h => (List.getElem?_eq_some_iff.1 hv).2
        refine wpAnyH_take (i := 7) (v := ?vz7) rfl (by kernel_rfl) (by kernel_rfl) (by kernel_rfl) (fun _ _ _ h => h) (Or.inl ⟨by kernel_rfl, ?yz7⟩) hHb ?rz7
        case yz7 => (intro w' hS; (try dsimp only at hS); obtain s0 := hS; (try go_simp); (try with_reducible rfl))
        try simp only [Act.put, List.getElem_toArray, List.getElem_cons_zero, List.getElem_cons_succ, List.setIfInBounds_toArray, List.set_cons_zero, List.set_cons_succ]
        refine wpAnyH_ready (rs := [8]) (by kernel_rfl) (by simp) ?_
        refine AllReadyH.cons rfl (fun K hK => ?_) AllReadyH.nil
        go_simp
        refine hK.out _ _ (HD.out _ hagb) (fun hHz => ?_)
        clear hK K
        try simp only [Act.put, List.getElem_toArray, List.getElem_cons_zero, List.getElem_cons_succ, List.setIfInBounds_toArray, List.set_cons_zero, List.set_cons_succ]
        refine wpAnyH_take (i := 9) (v := ?vz8) rfl (by kernel_rfl) (by kernel_rfl) (by kernel_rfl) (fun _ _ _ h => h) (Or.inl ⟨by kernel_rfl, ?yz8⟩) hHz ?rz8
        case yz8 => (intro w' hS; (try dsimp only at hS); obtain s0 := hS; (try go_simp); (try with_reducible rfl))
        try simp only [Act.put, List.getElem_toArray, List.getElem_cons_zero, List.getElem_cons_succ, List.setIfInBounds_toArray, List.set_cons_zero, List.set_cons_succ]
        have hOe := hOd.agr hagb (fun b h1 h2 h3 => by omega)
        obtain ⟨q5, hq5⟩ := get_some (l := s.disk) (k := k3) (by rw [HLD.out]; exact hk3)
        obtain ⟨d0, d1⟩ := hOe.disk.int_ hq5
        have hWd := wrote_one d0 (.int .i64 v4)
        have hOg := hOe.putDisk (k := k3) (v := v4) (by rw [HLD.out]; exact hk3) hWd
        have hAg2 := (hA2d.trans hagb (fun _ _ h => h)).trans (S' := (· = db)) hWd.agr (fun b hb e => by have := hdb; omega)
        have hRg := (hRb.agr hWd.agr (by omega) (fun b hb e => by have := hRb.le; omega))
        have hsX := hagb.size
        have hsY := hWd.size
        refine wpAnyH_ready (rs := [10]) (by kernel_rfl) (by simp) ?_
        refine AllReadyH.cons rfl (fun K hK => ?_) AllReadyH.nil
        go_simp
        refine hK.out _ _ (by first | exact (hWd.agr.cell (b := n1) (by have := hagb.size; omega) (by omega) 1).trans (HD.out _ hagb)) (fun hHy => ?_)
        clear hK K
        try simp only [Act.put, List.getElem_toArray, List.getElem_cons_zero, List.getElem_cons_succ, List.setIfInBounds_toArray, List.set_cons_zero, List.set_cons_succ]
        replace q0 := (hWd.agr.cell (b := w.heap.size) (by omega) (by omega) 0).trans ((hagb.cell (b := w.heap.size) (by show _ < w2.heap.size; omega) (by omega) 0).trans q0)
        replace q1 := (hWd.agr.cell (b := w.heap.size) (by omega) (by omega) 1).trans ((hagb.cell (b := w.heap.size) (by show _ < w2.heap.size; omega) (by omega) 1).trans q1)
        replace f0 := (hWd.agr.fz (b := w.heap.size) (by omega) (by omega) 0).trans ((hagb.fz (b := w.heap.size) (by show _ < w2.heap.size; omega) (by omega) 0).trans f0)
        replace f1 := (hWd.agr.fz (b := w.heap.size) (by omega) (by omega) 1).trans ((hagb.fz (b := w.heap.size) (by show _ < w2.heap.size; omega) (by omega) 1).trans f1)
        replace b0 := (hWd.agr.cell (b := n1) (by omega) (by omega) 0).trans ((hagb.cell (b := n1) (by show _ < w2.heap.size; omega) (by omega) 0).trans b0)
        replace b1 := (hWd.agr.cell (b := n1) (by omega) (by omega) 1).trans ((hagb.cell (b := n1) (by show _ < w2.heap.size; omega) (by omega) 1).trans b1)
        have hsm2 : stSmall ⟨s.flash, s.disk.set k3 v4⟩ := ⟨hsm.out.1, by rw [List.length_set, HLD.out]; omega⟩
        replace hsm2 := Lib.hid hsm2
        clear hWd hOe hOd z0 d0 d1 hq5 hBt hv
        refine wpAnyH_done (by kernel_rfl) ?_ _
        go_wp2
        have hL := laid_cells q0 q1 (Value.slice A 4 c) (Value.slice (some ⟨db, dO, none⟩) 6 6)
        have hsz := hL.size
        have hOf := hOg.agr hL.agr (fun b h1 h2 h3 => by omega)
        have hRf := (hRg.agr hL.agr (by omega) (fun b hb e => by have := hRg.le; omega)).mono (n := m + 1200) (by omega)
        have hAf := hAg2.trans (S' := (· = w.heap.size)) hL.agr (fun b hb e => by omega)
        have r0 := hL.new_ 0 _ rfl
        have r1 := hL.new_ 1 _ rfl
        clear hL
        go_wp2
        refine bodyPost_ret (v := .agg #[Value.slice A 4 c, Value.slice (some ⟨db, dO, none⟩) 6 6]) (by simp [results, Try.results74, go_sem, r0, r1, q0, q1]) rfl ⟨A, (some ⟨db, dO, none⟩), c, 6, ⟨s.flash, s.disk.set k3 v4⟩, ?_, hsm2.out, hOf.mono (by omega) (by omega), hRf, hAf⟩
        · rw [List.length_set, HLF.out, HLD.out]
    · go_simp
      have hagb := hag0.alloc (.cells #[.int .i64 (-1), .int .i64 10, .int .i64 0, .int .i64 5] 3)
      have hRb := hR2d.alloc (.cells #[.int .i64 (-1), .int .i64 10, .int .i64 0, .int .i64 5] 3)
      have hbxR : R < (w2.drew).heap.size := by have := hag0.size; omega
      have hBt := fun (j : Nat) (u : Value) (hu : ([Value.int .i64 (-1), Value.int .i64 10, Value.int .i64 0, Value.int .i64 5])[j]? = some u) => ((hZ.out (w2.drew)).at0 hu).1
      refine hK.out _ _ (HD.out _ hagb) (fun hHb => ?_)
      clear hK K
      try simp only [Act.put, List.getElem_toArray, List.getElem_cons_zero, List.getElem_cons_succ, List.setIfInBounds_toArray, List.set_cons_zero, List.set_cons_succ]
      refine wpAnyH_ready (rs := [3]) (by kernel_rfl) (by simp) ?_
      refine AllReadyH.cons rfl (fun K hK => ?_) AllReadyH.nil
      go_simp
      refine (P6.out ((m + 501)) _ (by omega) hRb).mono ?_
      rintro e wk3 ⟨k3, rfl, hk3, hRk3, hAk3⟩
      have hk3' : (k3 : Int) < 6 := by omega
      have hagk3 := hagb.trans hAk3 (fun _ _ h => h)
      replace hBt := fun (j : Nat) (u : Value) (hu : ([Value.int .i64 (-1), Value.int .i64 10, Value.int .i64 0, Value.int .i64 5])[j]? = some u) => (hAk3.cell (b := w2.heap.size) (by have := lt_of_cell (hBt 0 _ rfl); exact this) (by omega) j).trans (hBt j u hu)
      go_wp2_with fail
      refine hK.out _ _ (HD.out _ hagk3) (fun hHk3 => ?_)
      clear hK K
      try simp only [Act.put, List.getElem_toArray, List.getElem_cons_zero, List.getElem_cons_succ, List.setIfInBounds_toArray, List.set_cons_zero, List.set_cons_succ]
      refine wpAnyH_ready (rs := [6]) (by kernel_rfl) (by simp) ?_
      refine AllReadyH.cons rfl (fun K hK => ?_) AllReadyH.nil
      go_simp
      refine (P4.out ((m + 501) + 1) _ (by omega) hRk3).mono ?_
      rintro e wk4 ⟨k4, rfl, hk4, hRk4, hAk4⟩
      have hk4' : (k4 : Int) < 4 := by omega
      have hagk4 := hagk3.trans hAk4 (fun _ _ h => h)
      replace hBt := fun (j : Nat) (u : Value) (hu : ([Value.int .i64 (-1), Value.int .i64 10, Value.int .i64 0, Value.int .i64 5])[j]? = some u) => (hAk4.cell (b := w2.heap.size) (by have := lt_of_cell (hBt 0 _ rfl); exact this) (by omega) j).trans (hBt j u hu)
      go_wp2_with fail
      refine hK.out _ _ (HD.out _ hagk4) (fun hHk4 => ?_)
      clear hK K
      try simp only [Act.put, List.getElem_toArray, List.getElem_cons_zero, List.getElem_cons_succ, List.setIfInBounds_toArray, List.set_cons_zero, List.set_cons_succ]
      obtain ⟨v4, hv, hv1, hv2⟩ : ∃ v : Int, ([Value.int .i64 (-1), Value.int .i64 10, Value.int .i64 0, Value.int .i64 5])[k4]? = some (.int .i64 v) ∧ -1 ≤ v ∧ v ≤ 1000 := by
        rcases (by omega : k4 = 0 ∨ k4 = 1 ∨ k4 = 2 ∨ k4 = 3) with rfl | rfl | rfl | rfl <;> exact ⟨_, rfl, by omega, by omega⟩
      have z0 : (wk4).cell? ⟨w2.heap.size, k4, none⟩ = some (.int .i64 v4) := hBt _ _ hv
      have hve : ∀ h : k4 < ([Value.int .i64 (-1), Value.int .i64 10, Value.int .i64 0, Value.int .i64 5]).length, ([Value.int .i64 (-1), Value.int .i64 10, Value.int .i64 0, Value.int .i64 5])[k4]'h = .int .i64 v4 := fun h => (List.getElem?_eq_some_iff.1 hv).2
      refine wpAnyH_take (i := 7) (v := ?vz9) rfl (by kernel_rfl) (by kernel_rfl) (by kernel_rfl) (fun _ _ _ h => h) (Or.inl ⟨by kernel_rfl, ?yz9⟩) hHk4 ?rz9
      case yz9 => (intro w' hS; (try dsimp only at hS); obtain s0 := hS; (try go_simp); (try with_reducible rfl))
      try simp only [Act.put, List.getElem_toArray, List.getElem_cons_zero, List.getElem_cons_succ, List.setIfInBounds_toArray, List.set_cons_zero, List.set_cons_succ]
      refine wpAnyH_ready (rs := [8]) (by kernel_rfl) (by simp) ?_
      refine AllReadyH.cons rfl (fun K hK => ?_) AllReadyH.nil
      go_simp
      refine hK.out _ _ (HD.out _ hagk4) (fun hHz => ?_)
      clear hK K
      try simp only [Act.put, List.getElem_toArray, List.getElem_cons_zero, List.getElem_cons_succ, List.setIfInBounds_toArray, List.set_cons_zero, List.set_cons_succ]
      refine wpAnyH_take (i := 9) (v := ?vz10) rfl (by kernel_rfl) (by kernel_rfl) (by kernel_rfl) (fun _ _ _ h => h) (Or.inl ⟨by kernel_rfl, ?yz10⟩) hHz ?rz10
      case yz10 => (intro w' hS; (try dsimp only at hS); obtain s0 := hS; (try go_simp); (try with_reducible rfl))
      try simp only [Act.put, List.getElem_toArray, List.getElem_cons_zero, List.getElem_cons_succ, List.setIfInBounds_toArray, List.set_cons_zero, List.set_cons_succ]
      have hOe := hOd.agr hagk4 (fun b h1 h2 h3 => by omega)
      obtain ⟨q5, hq5⟩ := get_some (l := s.disk) (k := k3) (by rw [HLD.out]; exact hk3)
      obtain ⟨d0, d1⟩ := hOe.disk.int_ hq5
      have hWd := wrote_one d0 (.int .i64 v4)
      have hOg := hOe.putDisk (k := k3) (v := v4) (by rw [HLD.out]; exact hk3) hWd
      have hAg2 := (hA2d.trans hagk4 (fun _ _ h => h)).trans (S' := (· = db)) hWd.agr (fun b hb e => by have := hdb; omega)
      have hRg := (hRk4.agr hWd.agr (by omega) (fun b hb e => by have := hRk4.le; omega))
      have hsX := hagk4.size
      have hsY := hWd.size
      refine wpAnyH_ready (rs := [10]) (by kernel_rfl) (by simp) ?_
      refine AllReadyH.cons rfl (fun K hK => ?_) AllReadyH.nil
      go_simp
      refine hK.out _ _ (by first | exact (hWd.agr.cell (b := n1) (by have := hagk4.size; omega) (by omega) 1).trans (HD.out _ hagk4)) (fun hHy => ?_)
      clear hK K
      try simp only [Act.put, List.getElem_toArray, List.getElem_cons_zero, List.getElem_cons_succ, List.setIfInBounds_toArray, List.set_cons_zero, List.set_cons_succ]
      replace q0 := (hWd.agr.cell (b := w.heap.size) (by omega) (by omega) 0).trans ((hagk4.cell (b := w.heap.size) (by show _ < w2.heap.size; omega) (by omega) 0).trans q0)
      replace q1 := (hWd.agr.cell (b := w.heap.size) (by omega) (by omega) 1).trans ((hagk4.cell (b := w.heap.size) (by show _ < w2.heap.size; omega) (by omega) 1).trans q1)
      replace f0 := (hWd.agr.fz (b := w.heap.size) (by omega) (by omega) 0).trans ((hagk4.fz (b := w.heap.size) (by show _ < w2.heap.size; omega) (by omega) 0).trans f0)
      replace f1 := (hWd.agr.fz (b := w.heap.size) (by omega) (by omega) 1).trans ((hagk4.fz (b := w.heap.size) (by show _ < w2.heap.size; omega) (by omega) 1).trans f1)
      replace b0 := (hWd.agr.cell (b := n1) (by omega) (by omega) 0).trans ((hagk4.cell (b := n1) (by show _ < w2.heap.size; omega) (by omega) 0).trans b0)
      replace b1 := (hWd.agr.cell (b := n1) (by omega) (by omega) 1).trans ((hagk4.cell (b := n1) (by show _ < w2.heap.size; omega) (by omega) 1).trans b1)
      have hsm2 : stSmall ⟨s.flash, s.disk.set k3 v4⟩ := ⟨hsm.out.1, by rw [List.length_set, HLD.out]; omega⟩
      replace hsm2 := Lib.hid hsm2
      clear hWd hOe hOd z0 d0 d1 hq5 hBt hv
      refine wpAnyH_done (by kernel_rfl) ?_ _
      go_wp2
      have hL := laid_cells q0 q1 (Value.slice A 4 c) (Value.slice (some ⟨db, dO, none⟩) 6 6)
      have hsz := hL.size
      have hOf := hOg.agr hL.agr (fun b h1 h2 h3 => by omega)
      have hRf := (hRg.agr hL.agr (by omega) (fun b hb e => by have := hRg.le; omega)).mono (n := m + 1200) (by omega)
      have hAf := hAg2.trans (S' := (· = w.heap.size)) hL.agr (fun b hb e => by omega)
      have r0 := hL.new_ 0 _ rfl
      have r1 := hL.new_ 1 _ rfl
      clear hL
      go_wp2
      refine bodyPost_ret (v := .agg #[Value.slice A 4 c, Value.slice (some ⟨db, dO, none⟩) 6 6]) (by simp [results, Try.results74, go_sem, r0, r1, q0, q1]) rfl ⟨A, (some ⟨db, dO, none⟩), c, 6, ⟨s.flash, s.disk.set k3 v4⟩, ?_, hsm2.out, hOf.mono (by omega) (by omega), hRf, hAf⟩
      · rw [List.length_set, HLF.out, HLD.out]
  · have t0 : ((k : Int) == 0) = false := by rw [beq_eq_false_iff_ne]; omega
    by_cases h1 : k = 1
    · have t1 : ((k : Int) == 1) = true := by subst h1; rfl
      clear h0 h1
      obtain ⟨x0, xs', hdk⟩ : ∃ x0 xs', s.disk = x0 :: xs' := by
        have h := HLD.out
        cases hd : s.disk with
        | nil => rw [hd] at h; simp at h
        | cons a l => exact ⟨a, l, rfl⟩
      have hl5 : xs'.length = 5 := by have h := HLD.out; rw [hdk] at h; simpa using h
      have HL5 := Lib.hid hl5
      have hOt : OSt w2 lo hi A s.flash (some ⟨db, dO + 1, none⟩) xs' := by
        obtain ⟨hs, h1, h2, h3, h4⟩ := hO
        refine ⟨hs, h1, h2, ?_, fun b hb => h4 b (by rw [blk_some] at hb ⊢; exact hb)⟩
        have := h3.drop 1
        rw [hdk] at this
        exact this
      have hWb := (wrote_one b1 (.slice (some ⟨db, dO + 1, none⟩) 5 5))
      have hOg := hOt.agr hWb.agr (fun b h1 h2 h3 => by omega)
      have hAg2 := hA2.trans (S' := (· = n1)) hWb.agr (fun b hb e => by omega)
      have hRg := (hR2.agr hWb.agr (by omega) (fun b hb e => by have := hR2.le; omega))
      have hsY := hWb.size
      replace q0 := (hWb.agr.cell (b := w.heap.size) (by omega) (by omega) 0).trans q0
      replace q1 := (hWb.agr.cell (b := w.heap.size) (by omega) (by omega) 1).trans q1
      replace f0 := (hWb.agr.fz (b := w.heap.size) (by omega) (by omega) 0).trans f0
      replace f1 := (hWb.agr.fz (b := w.heap.size) (by omega) (by omega) 1).trans f1
      have c0 := (World.cell?_setCell_other w2 ⟨n1, 1, none⟩ ⟨n1, 0, none⟩ (.slice (some ⟨db, dO + 1, none⟩) 5 5) (by simp)).trans b0
      have c1 := hWb.new_ 0 _ rfl
      rw [Nat.add_zero] at c1
      have hsm2 : stSmall ⟨s.flash, xs'⟩ := ⟨hsm.out.1, by show xs'.length ≤ 6; omega⟩
      replace hsm2 := Lib.hid hsm2
      clear hWb hOt hdk hl5
      go_wp2
      have hL := laid_cells q0 q1 (Value.slice A 4 c) (Value.slice (some ⟨db, dO + 1, none⟩) 5 5)
      have hsz := hL.size
      have hOf := hOg.agr hL.agr (fun b h1 h2 h3 => by omega)
      have hRf := (hRg.agr hL.agr (by omega) (fun b hb e => by have := hRg.le; omega)).mono (n := m + 1200) (by omega)
      have hAf := hAg2.trans (S' := (· = w.heap.size)) hL.agr (fun b hb e => by omega)
      have r0 := hL.new_ 0 _ rfl
      have r1 := hL.new_ 1 _ rfl
      clear hL
      go_wp2
      refine bodyPost_ret (v := .agg #[Value.slice A 4 c, Value.slice (some ⟨db, dO + 1, none⟩) 5 5]) (by simp [results, Try.results74, go_sem, r0, r1, q0, q1]) rfl ⟨A, (some ⟨db, dO + 1, none⟩), c, 5, ⟨s.flash, xs'⟩, ?_, hsm2.out, hOf.mono (by omega) (by omega), hRf, hAf⟩
      · rw [HLF.out, HL5.out]
    · have t1 : ((k : Int) == 1) = false := by rw [beq_eq_false_iff_ne]; omega
      by_cases h2 : k = 2
      · have t2 : ((k : Int) == 2) = true := by subst h2; rfl
        clear h0 h1 h2
        go_wp2_with fail
        refine (spec_l71Flash B R (m + 501) _ (by omega) hR2).mono ?_
        rintro e w3 ⟨g, o, c3, f, rfl, hf, hO3, hR3, hA3⟩
        have HF := Lib.hid hf
        have hs3 := hA3.size
        replace q0 := (hA3.cell (b := w.heap.size) (by omega) (by omega) 0).trans q0
        replace q1 := (hA3.cell (b := w.heap.size) (by omega) (by omega) 1).trans q1
        replace f0 := (hA3.fz (b := w.heap.size) (by omega) (by omega) 0).trans f0
        replace f1 := (hA3.fz (b := w.heap.size) (by omega) (by omega) 1).trans f1
        replace b0 := (hA3.cell (b := n1) (by omega) (by omega) 0).trans b0
        replace b1 := (hA3.cell (b := n1) (by omega) (by omega) 1).trans b1
        replace g0 := (hA3.fz (b := n1) (by omega) (by omega) 0).trans g0
        have hA3' := hA2.trans hA3 (fun _ _ h => h)
        have hWb := wrote_one b0 (.slice (some ⟨g, o, none⟩) f.length c3)
        have hOg := OSt.mk' (lo := w.heap.size + 1) (hi := w3.heap.size) (hO3.agr hWb.agr (fun b h1 h2 h3 => by omega)) ((hO.agr hA3 (fun b h1 h2 h3 => by omega)).agr hWb.agr (fun b h1 h2 h3 => by omega)).disk (by omega) (Nat.le_refl _) (by omega) (by omega) (.inl (by omega))
        have hAg2 := hA3'.trans (S' := (· = n1)) hWb.agr (fun b hb e => by omega)
        have hRg := (hR3.agr hWb.agr (by omega) (fun b hb e => by have := hR3.le; omega))
        have hsY := hWb.size
        replace q0 := (hWb.agr.cell (b := w.heap.size) (by omega) (by omega) 0).trans q0
        replace q1 := (hWb.agr.cell (b := w.heap.size) (by omega) (by omega) 1).trans q1
        replace f0 := (hWb.agr.fz (b := w.heap.size) (by omega) (by omega) 0).trans f0
        replace f1 := (hWb.agr.fz (b := w.heap.size) (by omega) (by omega) 1).trans f1
        have c1 := (World.cell?_setCell_other w3 ⟨n1, 0, none⟩ ⟨n1, 1, none⟩ (.slice (some ⟨g, o, none⟩) f.length c3) (by simp)).trans b1
        have c0 := hWb.new_ 0 _ rfl
        rw [Nat.add_zero] at c0
        have hsm2 : stSmall ⟨f, s.disk⟩ := ⟨HF.out, hsm.out.2⟩
        replace hsm2 := Lib.hid hsm2
        clear hWb hO3 hO hf
        go_wp2
        have hL := laid_cells q0 q1 (Value.slice (some ⟨g, o, none⟩) f.length c3) (Value.slice (some ⟨db, dO, none⟩) 6 6)
        have hsz := hL.size
        have hOf := hOg.agr hL.agr (fun b h1 h2 h3 => by omega)
        have hRf := (hRg.agr hL.agr (by omega) (fun b hb e => by have := hRg.le; omega)).mono (n := m + 1200) (by omega)
        have hAf := hAg2.trans (S' := (· = w.heap.size)) hL.agr (fun b hb e => by omega)
        have r0 := hL.new_ 0 _ rfl
        have r1 := hL.new_ 1 _ rfl
        clear hL
        go_wp2
        refine bodyPost_ret (v := .agg #[Value.slice (some ⟨g, o, none⟩) f.length c3, Value.slice (some ⟨db, dO, none⟩) 6 6]) (by simp [results, Try.results74, go_sem, r0, r1, q0, q1]) rfl ⟨(some ⟨g, o, none⟩), (some ⟨db, dO, none⟩), c3, 6, ⟨f, s.disk⟩, ?_, hsm2.out, hOf.mono (by omega) (by omega), hRf, hAf⟩
        · rw [HLD.out]
      · have t2 : ((k : Int) == 2) = false := by rw [beq_eq_false_iff_ne]; omega
        by_cases h3 : k = 3
        · have t3 : ((k : Int) == 3) = true := by subst h3; rfl
          clear h0 h1 h2 h3
          obtain ⟨hs, hBk, hApt, hDk, hAp⟩ := hO
          obtain ⟨g, o, rfl⟩ := hBk.addr (by intro e; have := HLF.out; rw [e] at this; simp at this)
          have hgt := hApt.top g (blk_some.2 rfl)
          have hgd : ¬ db = g := fun e => (hAp db (blk_some.2 rfl)).2.2.1 (blk_some.2 e.symm)
          go_wp2
          go_loopw [5] (fun i wr => ∃ j : Nat, j ≤ 4 ∧ i = .int .i64 j ∧ Agr (· = g) w2 wr ∧ Bks wr (some ⟨g, o, none⟩) (wornTo s.flash j) hs) (fun i _ => 4 - (intOf i).toNat)
          case atStart => exact ⟨0, by omega, rfl, Agr.refl _ _, hBk⟩
          case round =>
            obtain ⟨j, hj, rfl, hAj, hBj⟩ := hrel
            have y0 := (hAj.cell (b := n1) (by omega) (by omega) 0).trans b0
            have hsj := hAj.size
            by_cases hlt : j < 4
            · obtain ⟨b, hb⟩ := get_some (l := s.flash) (k := j) (by rw [HLF.out]; exact hlt)
              have hbj : (wornTo s.flash j)[j]? = some b := by rw [wornTo_get]; exact hb
              obtain ⟨x, hx, c0, c1, z0, z1, _, _⟩ := hBj.at_ hbj
              have hWw := (wrote_one c1 (.int .i64 200)).less c0
              have hBn := hBj.setHdr (n := 200) hApt hbj hx hWw
              rw [wornTo_step hb] at hBn
              have hAn := hAj.trans hWw.agr (fun _ _ h => h)
              have hj1 : (j : Int) < 4 := by omega
              have e1 : IntKind.i64.wrap ((j : Int) + 1) = (j : Int) + 1 := IntWalk.i64_in _ (by omega)
              clear hb hbj hx hWw hBj hAj
              go_wp2
              go_roundw
              (case rel => exact ⟨j + 1, by omega, by go_num, hAn, hBn⟩)
              (case measure => simp [intOf]; omega)
            · have hj4 : (4 : Int) ≤ (j : Int) := by omega
              have hjj : j = 4 := by omega
              rw [hjj] at hBj
              clear hjj
              have hOg : OSt wr lo hi (some ⟨g, o, none⟩) (wornTo s.flash 4) (some ⟨db, dO, none⟩) s.disk := ⟨hs, hBj, hApt, hDk.agr hAj (fun b hb e => by rw [blk_some] at hb; omega), hAp⟩
              have hAg2 := hA2.trans (S' := (· = g)) hAj (fun b hb e => by omega)
              have hRg := (hR2.agr hAj (by omega) (fun b hb e => by have := hR2.le; omega))
              replace q0 := (hAj.cell (b := w.heap.size) (by omega) (by omega) 0).trans q0
              replace q1 := (hAj.cell (b := w.heap.size) (by omega) (by omega) 1).trans q1
              replace f0 := (hAj.fz (b := w.heap.size) (by omega) (by omega) 0).trans f0
              replace f1 := (hAj.fz (b := w.heap.size) (by omega) (by omega) 1).trans f1
              have y1 := (hAj.cell (b := n1) (by omega) (by omega) 1).trans b1
              have hsm2 := Lib.hid (show stSmall ⟨wornTo s.flash 4, s.disk⟩ from ⟨wornTo_small hsm.out.1 4, hsm.out.2⟩)
              have HWL := Lib.hid (wornTo_len s.flash 4)
              clear hBj hDk
              go_wp2
              have hL := laid_cells q0 q1 (Value.slice (some ⟨g, o, none⟩) 4 c) (Value.slice (some ⟨db, dO, none⟩) 6 6)
              have hsz := hL.size
              have hOf := hOg.agr hL.agr (fun b h1 h2 h3 => by omega)
              have hRf := (hRg.agr hL.agr (by omega) (fun b hb e => by have := hRg.le; omega)).mono (n := m + 1200) (by omega)
              have hAf := hAg2.trans (S' := (· = w.heap.size)) hL.agr (fun b hb e => by omega)
              have r0 := hL.new_ 0 _ rfl
              have r1 := hL.new_ 1 _ rfl
              clear hL
              go_wp2
              refine bodyPost_ret (v := .agg #[Value.slice (some ⟨g, o, none⟩) 4 c, Value.slice (some ⟨db, dO, none⟩) 6 6]) (by simp [results, Try.results74, go_sem, r0, r1, q0, q1]) rfl ⟨(some ⟨g, o, none⟩), (some ⟨db, dO, none⟩), c, 6, ⟨wornTo s.flash 4, s.disk⟩, ?_, hsm2.out, hOf.mono (by omega) (by omega), hRf, hAf⟩
              · rw [HWL.out, HLF.out, HLD.out]
        · have t3 : ((k : Int) == 3) = false := by rw [beq_eq_false_iff_ne]; omega
          clear h0 h1 h2 h3
          go_wp2
          have hL := laid_cells q0 q1 (Value.slice A 4 c) (Value.slice (some ⟨db, dO, none⟩) 6 6)
          have hsz := hL.size
          have hOf := hO.agr hL.agr (fun b h1 h2 h3 => by omega)
          have hRf := (hR2.agr hL.agr (by omega) (fun b hb e => by have := hR2.le; omega)).mono (n := m + 1200) (by omega)
          have hAf := hA2.trans (S' := (· = w.heap.size)) hL.agr (fun b hb e => by omega)
          have r0 := hL.new_ 0 _ rfl
          have r1 := hL.new_ 1 _ rfl
          clear hL
          go_wp2
          refine bodyPost_ret (v := .agg #[Value.slice A 4 c, Value.slice (some ⟨db, dO, none⟩) 6 6]) (by simp [results, Try.results74, go_sem, r0, r1, q0, q1]) rfl ⟨A, (some ⟨db, dO, none⟩), c, 6, s, ?_, hsm.out, hOf.mono (by omega) (by omega), hRf, hAf⟩
          · rw [HLF.out, HLD.out]
end Go.Proofs.Ytohkoogmbfaceaa
namespace Go.Proofs.Ytohkoogmbfaceaa
set_option linter.unusedVariables false
set_option linter.unusedSimpArgs false
open Go.RowKit Go.Maps
set_option maxHeartbeats 400000
/-- a store in a box, and what it holds -/
structure Held (W : World) (bx : Nat) (A D : Option Addr) (n c m d : Nat) (s : St) : Prop where
  fl : Fl W A s.flash
  dk : Row W D (ints s.disk)
  x0 : W.cell? ⟨bx, 0, none⟩ = some (.slice A n c)
  x1 : W.cell? ⟨bx, 1, none⟩ = some (.slice D m d)
  hn : n = s.flash.length
  hm : m = s.disk.length
theorem Held.below {W X : World} {bx n c m d B : Nat} {A D : Option Addr} {s : St} (h : Held W bx A D n c m d s) (hb : Below B W X) (hB : W.heap.size ≤ B) : Held X bx A D n c m d s :=
  ⟨h.fl.below hb hB, h.dk.below hb hB, (hb.cell (p := ⟨bx, 0, none⟩) (Nat.lt_of_lt_of_le (lt_of_cell h.x0) hB)).trans h.x0, (hb.cell (p := ⟨bx, 1, none⟩) (Nat.lt_of_lt_of_le (lt_of_cell h.x1) hB)).trans h.x1, h.hn, h.hm⟩
theorem Held.new (w : World) {A D : Option Addr} {n c m d : Nat} {s : St} (hF : Fl w A s.flash) (hD : Row w D (ints s.disk)) (hn : n = s.flash.length) (hm : m = s.disk.length) : Held (w.alloc (.cells #[.slice A n c, .slice D m d] 28)) w.heap.size A D n c m d s :=
  ⟨hF.below ((Below.refl _ _).alloc (Nat.le_refl _) _) (Nat.le_refl _), hD.alloc _, by simp, by simp, hn, hm⟩
theorem Held.drew {W : World} {bx n c m d : Nat} {A D : Option Addr} {s : St} (h : Held W bx A D n c m d s) : Held W.drew bx A D n c m d s := ⟨h.fl.drew', h.dk, h.x0, h.x1, h.hn, h.hm⟩
theorem small_fl {s : St} (h : stSmall s) : s.flash.length < 1000000000000 := by have := h.1.1; omega
end Go.Proofs.Ytohkoogmbfaceaa
namespace Go.Proofs.Ytohkoogmbfaceaa
set_option linter.unusedVariables false
set_option linter.unusedSimpArgs false
open Go.RowKit Go.Maps
set_option maxHeartbeats 400000
/-- .. and that it was done -/
def RunP (t : St) (w : World) (e : Ending) (w' : World) : Prop :=
  ∃ A c D d, e = .returned (.tuple #[.agg #[.slice A 4 c, .slice D 6 d], .bool true]) ∧ FlAt w' w.heap.size A t.flash ∧ Row w' D (ints t.disk) ∧ (∀ b, blk D b → w.heap.size ≤ b) ∧ Below w.heap.size w w'
/-- not done: an empty store -/
def NoP (w : World) (e : Ending) (w' : World) : Prop :=
  ∃ A c D d, e = .returned (.tuple #[.agg #[.slice A 0 c, .slice D 0 d], .bool false]) ∧ Below w.heap.size w w'
theorem ToPost.run {t : St} {w w' : World} {e : Ending} (ht : Okay t) (h : ToPost (t, true) w e w') : RunP t w e w' := by
  obtain ⟨A, c, D, d, rfl, h1, h2, h3, h4⟩ := h
  exact ⟨A, c, D, d, by dsimp only; rw [flashOk_len ht.flash, ht.len], h1, h2, h3, h4⟩
theorem ToPost.no {w w' : World} {e : Ending} (h : ToPost (st0, false) w e w') : NoP w e w' := by
  obtain ⟨A, c, D, d, rfl, h1, h2, h3, h4⟩ := h
  exact ⟨A, c, D, d, rfl, h4⟩
theorem impl_StoreOk_ok {s : St} (hs : Okay s) (A D : Option Addr) (c d : Nat) (w : World) (hF : Fl w A s.flash) (hD : Row w D (ints s.disk)) :
    Calls Try.prog 23 #[.agg #[.slice A 4 c, .slice D 6 d]] w fun e w' => e = .returned (.bool true) ∧ Below w.heap.size w w' :=
  (impl_StoreOk s A D 4 6 c d w (flashOk_len hs.flash).symm hs.len.symm hF hD).mono fun e w' q => by rw [storeOk_iff.2 hs] at q; exact q
theorem Held.no (w : World) (A D : Option Addr) (c d : Nat) : Held (w.alloc (.cells #[.slice A 0 c, .slice D 0 d] 28)) w.heap.size A D 0 c 0 d st0 :=
  Held.new w (s := st0) ⟨[], rfl, Row.nil _ _, fun i b x h => by simp [st0] at h⟩ (Row.nil _ _) rfl rfl
theorem Held.ok {w : World} {t : St} (ht : Okay t) {A D : Option Addr} (c d : Nat) (hF : Fl w A t.flash) (hD : Row w D (ints t.disk)) : Held (w.alloc (.cells #[.slice A 4 c, .slice D 6 d] 28)) w.heap.size A D 4 c 6 d t :=
  Held.new w hF hD (flashOk_len ht.flash).symm ht.len.symm
/-- a store in a box, put there anew -/
theorem Held.put {W : World} {bx n c m d n' c' m' d' : Nat} {A D A' D' : Option Addr} {s t : St} (h : Held W bx A D n c m d s) (hF : FlAt W (bx + 1) A' t.flash) (hD : Row W D' (ints t.disk)) (hd : ∀ b, blk D' b → bx + 1 ≤ b) (hn : n' = t.flash.length) (hm : m' = t.disk.length) :
    Held ((W.setCell ⟨bx, 0, none⟩ (.slice A' n' c')).setCell ⟨bx, 1, none⟩ (.slice D' m' d')) bx A' D' n' c' m' d' t := by
  have hW : Wrote W ((W.setCell ⟨bx, 0, none⟩ (.slice A' n' c')).setCell ⟨bx, 1, none⟩ (.slice D' m' d')) bx 0 [.slice A' n' c', .slice D' m' d'] := wrote_setRow bx [.slice A' n' c', .slice D' m' d'] 0 W (fun j hj => by
    match j, hj with
    | 0, _ => exact ⟨_, h.x0⟩
    | 1, _ => exact ⟨_, h.x1⟩)
  refine ⟨?_, hD.keep fun b hb hl => hW.block b (by have := hd b hb; omega), hW.new_ 0 _ rfl, hW.new_ 1 _ rfl, hn, hm⟩
  exact (hF.keep (w' := (W.setCell ⟨bx, 0, none⟩ (.slice A' n' c')).setCell ⟨bx, 1, none⟩ (.slice D' m' d')) fun b hb hl => hW.block b (by omega)).fl
theorem FlAt.mono {w : World} {lo lo' : Nat} {A : Option Addr} {f : List Bk} (h : FlAt w lo A f) (hl : lo' ≤ lo) : FlAt w lo' A f := by
  obtain ⟨hs, h1, h2⟩ := h
  exact ⟨hs, h1, fun b hb => Nat.le_trans hl (h2 b hb)⟩
end Go.Proofs.Ytohkoogmbfaceaa
namespace Go.Proofs.Ytohkoogmbfaceaa
set_option linter.unusedVariables false
set_option linter.unusedSimpArgs false
open Go.RowKit Go.Maps
set_option maxHeartbeats 400000
theorem OwnI.one (w : World) (base : Nat) (x : Int) (hb : base ≤ w.heap.size) : OwnI (w.alloc (.cells #[.int .i64 x] 3)) base (.slice (some ⟨w.heap.size, 0, none⟩) 1 1) [x] := World.ownsRow_lit w #[.int .i64 x] 1 hb (by unfold maxLen; omega) rfl
/-- the events, made whole one by one -/
def wholeTo (es : List Ev) (k : Nat) : List Ev := (es.take k).map wholeEv ++ es.drop k
theorem wholeTo_len (es : List Ev) (k : Nat) : (wholeTo es k).length = es.length := by unfold wholeTo; rw [List.length_append, List.length_map, List.length_take, List.length_drop]; omega
theorem wholeTo_get {es : List Ev} {k : Nat} {x : Ev} (h : es[k]? = some x) : (wholeTo es k)[k]? = some x := by
  have hl := (List.getElem?_eq_some_iff.1 h).1
  unfold wholeTo
  rw [List.getElem?_append_right (by rw [List.length_map, List.length_take]; omega), List.length_map, List.length_take, show k - min k es.length = 0 by omega, List.getElem?_drop]
  exact h
theorem wholeTo_set {es : List Ev} {k : Nat} {x : Ev} (h : es[k]? = some x) : (wholeTo es k).set k (wholeEv x) = wholeTo es (k + 1) := by
  have hl := (List.getElem?_eq_some_iff.1 h).1
  unfold wholeTo
  rw [List.set_append_right _ _ (by rw [List.length_map, List.length_take]; omega), List.length_map, List.length_take, show k - min k es.length = 0 by omega, List.take_add_one, h, drop_cons h]
  simp
theorem evs_whole : ∀ {l : List Ev} {k : Nat} {x : Ev}, l[k]? = some x → evs (l.set k (wholeEv x)) = setL (evs l) (k * 5 + 3) [.int .i64 60, .bool false]
  | [], _, _, h => by simp at h
  | y :: l, 0, x, h => by simp at h; subst h; rfl
  | y :: l, k + 1, x, h => by
    have := evs_whole (l := l) (k := k) (x := x) (by simpa using h)
    show y.vs ++ evs (l.set k (wholeEv x)) = setL (y.vs ++ evs l) ((k + 1) * 5 + 3) _
    rw [this, show (k + 1) * 5 + 3 = y.vs.length + (k * 5 + 3) by simp [Ev.vs]; omega, setL_right]
/-- event k was made whole: two cells written -/
theorem Row.whole {w w' : World} {b k : Nat} {es : List Ev} {x : Ev} (h : Row w (some ⟨b, 0, none⟩) (evs (wholeTo es k))) (hx : es[k]? = some x) (hW : Wrote w w' b (k * 5 + 3) [.int .i64 60, .bool false]) : Row w' (some ⟨b, 0, none⟩) (evs (wholeTo es (k + 1))) := by
  have hl := (List.getElem?_eq_some_iff.1 hx).1
  rw [← wholeTo_set hx, evs_whole (wholeTo_get hx)]
  refine Wrote.row (w := w) (by rw [Nat.zero_add]; exact hW) h ?_
  rw [evs_len, wholeTo_len]
  simp
  omega
end Go.Proofs.Ytohkoogmbfaceaa
namespace Go.Proofs.Ytohkoogmbfaceaa
set_option linter.unusedVariables false
set_option linter.unusedSimpArgs false
open Go.RowKit Go.Maps
set_option maxHeartbeats 400000
end Go.Proofs.Ytohkoogmbfaceaa
open Go.RowKit Go.IntWalk Go.Maps
namespace Go.Proofs.Ytohkoogmbfaceaa
set_option linter.unusedVariables false
set_option linter.unusedSimpArgs false
set_option maxHeartbeats 4000000
set_option maxRecDepth 100000
theorem toR_yes {s : St} {xs : List Sp} {cut : Int} {torn : Bool} (h1 : 0 ≤ cut) (h2 : storeOk s = true) (h3 : allB xs = true) : toR s xs cut torn = (doTo s xs cut torn, true) := by
  unfold toR
  rw [if_neg (by rintro (e | e | e); omega; rw [h2] at e; cases e; rw [h3] at e; cases e)]
end Go.Proofs.Ytohkoogmbfaceaa
namespace Go.Proofs.Ytohkoogmbfaceaa
set_option linter.unusedVariables false
set_option linter.unusedSimpArgs false
theorem ev_put (s : St) (a v c : Int) (t : Bool) : stepsOf s ⟨1, a, v, c, t⟩ = wr s.flash 1 a v := by unfold stepsOf; rw [if_pos rfl]
theorem ev_flush (s : St) (a c : Int) (t : Bool) : stepsOf s ⟨2, a, 0, c, t⟩ = flush s a := by unfold stepsOf; rw [if_neg (show ¬ (2 : Int) = 1 by decide), if_pos rfl]
theorem ev_fill (s : St) (a c : Int) (t : Bool) : stepsOf s ⟨3, a, 0, c, t⟩ = fill s a := by unfold stepsOf; rw [if_neg (show ¬ (3 : Int) = 1 by decide), if_neg (show ¬ (3 : Int) = 2 by decide), if_pos rfl]
/-- whatever the cut, such steps are done: what StepsTo answers -/
theorem toR_steps {s : St} (h : Okay s) (e : Ev) {cut : Int} (hc : 0 ≤ cut) (torn : Bool) : toR s (stepsOf s e) cut torn = (doTo s (stepsOf s e) cut torn, true) :=
  toR_yes hc (storeOk_iff.2 h) (steps_allB h e)
theorem cut_okay {s : St} (h : Okay s) (e : Ev) {cut : Int} (hc : 0 ≤ cut) (torn : Bool) : Okay (doTo s (stepsOf s e) cut torn) := by
  by_cases hne : stepsOf s e = []
  · rw [hne, doTo_nil]; exact h
  · have := (steps_safe h hne).to cut torn
    by_cases hl : (stepsOf s e).length ≤ cut.toNat
    · exact (this.1 hl).fin.ok
    · exact (this.2 (by omega)).ok
end Go.Proofs.Ytohkoogmbfaceaa
open Go.RowKit Go.IntWalk Go.Maps
namespace Go.Proofs.Ytohkoogmbfaceaa
set_option linter.unusedVariables false
set_option linter.unusedSimpArgs false
set_option maxHeartbeats 1000000
set_option maxRecDepth 20000
end Go.Proofs.Ytohkoogmbfaceaa
namespace Go.Proofs.Ytohkoogmbfaceaa
set_option linter.unusedVariables false
set_option linter.unusedSimpArgs false
open Go.RowKit Go.Maps
set_option maxHeartbeats 400000
theorem Row.part {w : World} {V : Option Addr} {xs ys : List Value} (h : Row w V (xs ++ ys)) : Row w V xs := fun hn => by
  obtain ⟨b, o, hV, hc⟩ := h (by intro e; exact hn (List.append_eq_nil_iff.1 e).1)
  refine ⟨b, o, hV, fun j u hj => hc j u ?_⟩
  rw [List.getElem?_append_left (List.getElem?_eq_some_iff.1 hj).1]; exact hj
/-- a store in a box that may be written -/
structure HeldF (W : World) (bx : Nat) (A D : Option Addr) (c d : Nat) (s : St) : Prop where
  held : Held W bx A D 4 c 6 d s
  f0 : W.frozen? ⟨bx, 0, none⟩ = false
  f1 : W.frozen? ⟨bx, 1, none⟩ = false
theorem HeldF.below {W X : World} {bx c d B : Nat} {A D : Option Addr} {s : St} (h : HeldF W bx A D c d s) (hb : Below B W X) (hB : W.heap.size ≤ B) : HeldF X bx A D c d s :=
  ⟨h.held.below hb hB, (hb.frozen (p := ⟨bx, 0, none⟩) (Nat.lt_of_lt_of_le (lt_of_cell h.held.x0) hB)).trans h.f0, (hb.frozen (p := ⟨bx, 1, none⟩) (Nat.lt_of_lt_of_le (lt_of_cell h.held.x1) hB)).trans h.f1⟩
theorem HeldF.drew {W : World} {bx c d : Nat} {A D : Option Addr} {s : St} (h : HeldF W bx A D c d s) : HeldF W.drew bx A D c d s := ⟨h.held.drew, h.f0, h.f1⟩
theorem HeldF.new {w : World} {t : St} (ht : Okay t) {A D : Option Addr} (c d : Nat) (hF : Fl w A t.flash) (hD : Row w D (ints t.disk)) : HeldF (w.alloc (.cells #[.slice A 4 c, .slice D 6 d] 28)) w.heap.size A D c d t :=
  ⟨Held.ok ht c d hF hD, by simp, by simp⟩
theorem HeldF.put {W : World} {bx c d c' d' lo : Nat} {A D A' D' : Option Addr} {s t : St} (h : HeldF W bx A D c d s) (ht : Okay t) (hF : FlAt W lo A' t.flash) (hlo : bx < lo) (hD : Row W D' (ints t.disk)) (hd : ∀ b, blk D' b → lo ≤ b) :
    HeldF ((W.setCell ⟨bx, 0, none⟩ (.slice A' 4 c')).setCell ⟨bx, 1, none⟩ (.slice D' 6 d')) bx A' D' c' d' t := by
  have hW : Wrote W ((W.setCell ⟨bx, 0, none⟩ (.slice A' 4 c')).setCell ⟨bx, 1, none⟩ (.slice D' 6 d')) bx 0 [.slice A' 4 c', .slice D' 6 d'] := wrote_setRow bx [.slice A' 4 c', .slice D' 6 d'] 0 W (fun j hj => by
    match j, hj with
    | 0, _ => exact ⟨_, h.held.x0⟩
    | 1, _ => exact ⟨_, h.held.x1⟩)
  exact ⟨h.held.put (hF.mono (by omega)) hD (fun b hb => by have := hd b hb; omega) (flashOk_len ht.flash).symm ht.len.symm, (hW.frozen _).trans h.f0, (hW.frozen _).trans h.f1⟩
end Go.Proofs.Ytohkoogmbfaceaa
namespace Go.Proofs.Ytohkoogmbfaceaa
set_option linter.unusedVariables false
set_option linter.unusedSimpArgs false
open Go.RowKit Go.Maps
set_option maxHeartbeats 400000
/-- a row of steps handed back -/
def ListP (xs : List Sp) (w : World) (e : Ending) (w' : World) : Prop :=
  ∃ V cs, e = .returned (.slice V xs.length cs) ∧ Row w' V (sps xs) ∧ (∀ b, blk V b → w.heap.size ≤ b ∧ b < w'.heap.size) ∧ xs.length ≤ cs ∧ Below w.heap.size w w'
theorem StepsPost.list {xs ys : List Sp} {w w' : World} {e : Ending} (hx : xs = ys) (h : StepsPost w xs e w') : ListP ys w e w' := by
  subst hx
  obtain ⟨v, rfl, hO, hb⟩ := h
  obtain ⟨V, cs, rfl, hc, hR, hV⟩ := hO.shape'
  exact ⟨V, cs, rfl, hR, hV, hc, hb⟩
theorem ToPost.runF {t : St} {w w' : World} {e : Ending} (ht : stFine t) (h : ToPost (t, true) w e w') : RunP t w e w' := by
  obtain ⟨A, c, D, d, rfl, h1, h2, h3, h4⟩ := h
  exact ⟨A, c, D, d, by dsimp only; rw [ht.1.1, ht.2.1], h1, h2, h3, h4⟩
theorem impl_StepsTo_t {s t : St} {xs : List Sp} {cut : Int} {torn : Bool} (ht : toR s xs cut torn = (t, true)) (hf : stFine t) (hl : xs.length < 1000000000000) (A D V : Option Addr) (n m c d cs k : Nat) (w : World) (hn : n = s.flash.length) (hm : m = s.disk.length) (hk : k = xs.length) (hF : Fl w A s.flash) (hD : Row w D (ints s.disk)) (hX : Row w V (sps xs)) :
    Calls Try.prog 32 #[.agg #[.slice A n c, .slice D m d], .slice V k cs, .int .i64 cut, .bool torn] w (RunP t w) := by
  subst hk
  exact (impl_StepsTo s xs cut torn A D V n m c d cs w hn hm hl hF hD hX).mono fun _ _ q => ToPost.runF hf (by rw [ht] at q; exact q)
theorem Held.fine {w : World} {t : St} (ht : stFine t) {A D : Option Addr} (c d : Nat) (hF : Fl w A t.flash) (hD : Row w D (ints t.disk)) : Held (w.alloc (.cells #[.slice A 4 c, .slice D 6 d] 28)) w.heap.size A D 4 c 6 d t :=
  Held.new w hF hD ht.1.1.symm ht.2.1.symm
theorem impl_StepsPut_x {s : St} {a v : Int} {xs : List Sp} (hx : okSteps s (wr s.flash 1 a v) = xs) (A D : Option Addr) (n m c d : Nat) (w : World) (hn : n = s.flash.length) (hm : m = s.disk.length) (hF : Fl w A s.flash) (hD : Row w D (ints s.disk)) :
    Calls Try.prog 27 #[.agg #[.slice A n c, .slice D m d], .int .i64 a, .int .i64 v] w (ListP xs w) := (impl_StepsPut s a v A D n m c d w hn hm hF hD).mono fun _ _ q => StepsPost.list hx q
theorem spec_StepsPut_x {s : St} {a v : Int} {xs : List Sp} (hx : okSteps s (wr s.flash 1 a v) = xs) (A D : Option Addr) (n m c d : Nat) (w : World) (hn : n = s.flash.length) (hm : m = s.disk.length) (hl : s.flash.length < 1000000000000) (hF : Fl w A s.flash) (hD : Row w D (ints s.disk)) :
    Calls Try.prog 28 #[.agg #[.slice A n c, .slice D m d], .int .i64 a, .int .i64 v] w (ListP xs w) := (spec_StepsPut s a v A D n m c d w hn hm hl hF hD).mono fun _ _ q => StepsPost.list hx q
theorem impl_StepsFlush_x {s : St} {a : Int} {xs : List Sp} (hx : okSteps s (flush s a) = xs) (A D : Option Addr) (n m c d : Nat) (w : World) (hn : n = s.flash.length) (hm : m = s.disk.length) (hF : Fl w A s.flash) (hD : Row w D (ints s.disk)) :
    Calls Try.prog 30 #[.agg #[.slice A n c, .slice D m d], .int .i64 a] w (ListP xs w) := (impl_StepsFlush s a A D n m c d w hn hm hF hD).mono fun _ _ q => StepsPost.list hx q
theorem impl_StepsFill_x {s : St} {a : Int} {xs : List Sp} (hx : okSteps s (fill s a) = xs) (A D : Option Addr) (n m c d : Nat) (w : World) (hn : n = s.flash.length) (hm : m = s.disk.length) (hF : Fl w A s.flash) (hD : Row w D (ints s.disk)) :
    Calls Try.prog 31 #[.agg #[.slice A n c, .slice D m d], .int .i64 a] w (ListP xs w) := (impl_StepsFill s a A D n m c d w hn hm hF hD).mono fun _ _ q => StepsPost.list hx q
end Go.Proofs.Ytohkoogmbfaceaa
namespace Go.Proofs.Ytohkoogmbfaceaa
set_option linter.unusedVariables false
set_option linter.unusedSimpArgs false
open Go.RowKit Go.Maps
set_option maxHeartbeats 400000
/-- four cells, two boxes, kept by what writes into the reader alone -/
theorem okay_pages' {t : St} (h : Okay t) : ∀ b ∈ t.flash, b.pages.length < 1000000000000 := fun b hb => by have := (flashOk_shape h.flash b hb).1; omega
theorem agr_cells {R b : Nat} {w w' : World} (h : Agr (· = R) w w') (hb : b < w.heap.size) (hn : b ≠ R) {u v : Value} (h0 : w.cell? ⟨b, 0, none⟩ = some u) (h1 : w.cell? ⟨b, 1, none⟩ = some v) (f0 : w.frozen? ⟨b, 0, none⟩ = false) (f1 : w.frozen? ⟨b, 1, none⟩ = false) :
    w'.cell? ⟨b, 0, none⟩ = some u ∧ w'.cell? ⟨b, 1, none⟩ = some v ∧ w'.frozen? ⟨b, 0, none⟩ = false ∧ w'.frozen? ⟨b, 1, none⟩ = false :=
  ⟨(h.cell hb hn 0).trans h0, (h.cell hb hn 1).trans h1, (h.fz hb hn 0).trans f0, (h.fz hb hn 1).trans f1⟩
def FullPost (B R m : Nat) (w : World) (e : Ending) (w' : World) : Prop :=
  ∃ (A D : Option Addr) (c d : Nat) (s : St), e = .returned (.agg #[.slice A s.flash.length c, .slice D s.disk.length d]) ∧ stSmall s ∧ OSt w' w.heap.size w'.heap.size A s.flash D s.disk ∧ Rd w' B R (m + 1250) ∧ Agr (· = R) w w'
set_option maxHeartbeats 8000000 in
set_option maxRecDepth 100000 in
theorem spec_l71Full (B R m : Nat) (w : World) (hm : m ≤ 700000) (hR : Rd w B R m) :
    Calls Try.prog 50 #[.pointer (some ⟨R, 0, none⟩)] w (FullPost B R m w) := by
  have hRl := hR.lt
  have hq := Row.new w #[.slice none 0 0, .slice none 0 0] 28
  obtain ⟨q0, f0⟩ := hq.at0 (j := 0) rfl
  obtain ⟨q1, f1⟩ := hq.at0 (j := 1) rfl
  have hR0 := hR.alloc (.cells #[.slice none 0 0, .slice none 0 0] 28)
  have hs0 : (w.alloc (.cells #[.slice none 0 0, .slice none 0 0] 28)).heap.size = w.heap.size + 1 := by simp
  have hA0 : Agr (· = R) w (w.alloc (.cells #[.slice none 0 0, .slice none 0 0] 28)) := (Agr.refl _ _).alloc _
  clear hq
  go_enter Try.func50, Try.ntmps50
  go_wp2_with fail
  refine (spec_l71Store B R m _ (by omega) hR0).mono ?_
  rintro e w1 ⟨A, D, c, d, s0, rfl, hsm, hO, hR1, hA1⟩
  rw [hs0] at hO
  obtain ⟨q0, q1, f0, f1⟩ := agr_cells hA1 (b := w.heap.size) (by omega) (by omega) q0 q1 f0 f1
  have hs1 : w.heap.size + 1 ≤ w1.heap.size := by have := hA1.size; omega
  have hA1' := hA0.trans hA1 (fun _ _ h => h)
  have hb := Row.new w1 #[.slice A s0.flash.length c, .slice D s0.disk.length d] 28
  obtain ⟨b0, b2⟩ := hb.at0 (j := 0) rfl
  obtain ⟨b1, b3⟩ := hb.at0 (j := 1) rfl
  obtain ⟨W, hW⟩ : ∃ W, w1.alloc (.cells #[.slice A s0.flash.length c, .slice D s0.disk.length d] 28) = W := ⟨_, rfl⟩
  have hBW : Below w1.heap.size w1 W := by rw [← hW]; (repeat (first | (with_reducible exact Below.refl _ _) | (with_reducible assumption) | (refine Below.setCell ?_ (by first | omega | exact hB.size | exact hb.size | (have h := hB.size; simp; omega) | (have h := hb.size; simp; omega) | (simp; omega) | simp) _) | (refine Below.alloc ?_ (by first | omega | exact hB.size | exact hb.size | (have h := hB.size; simp; omega) | (have h := hb.size; simp; omega) | (simp; omega) | simp) _) | (refine Below.drew ?_)))
  have hsW : W.heap.size = w1.heap.size + 1 := by rw [← hW]; simp
  rw [hW] at b0 b1 b2 b3
  replace q0 := (hBW.cell (p := ⟨w.heap.size, 0, none⟩) (by show w.heap.size < _; omega)).trans q0
  replace q1 := (hBW.cell (p := ⟨w.heap.size, 1, none⟩) (by show w.heap.size < _; omega)).trans q1
  replace f0 := (hBW.frozen (p := ⟨w.heap.size, 0, none⟩) (by show w.heap.size < _; omega)).trans f0
  replace f1 := (hBW.frozen (p := ⟨w.heap.size, 1, none⟩) (by show w.heap.size < _; omega)).trans f1
  have hO2 := hO.below hBW (Nat.le_refl _)
  have hR2 := hR1.below hBW (Nat.le_refl _)
  have hA2 : Agr (· = R) w W := hA1'.trans (Agr.of_below (S := (· = R)) hBW) (fun _ _ h => h)
  obtain ⟨bx, hbx⟩ : ∃ b, w1.heap.size = b := ⟨_, rfl⟩
  rw [hbx] at b0 b1 b2 b3 hsW hs1 hO2
  clear hO hR1 hA1' hb hBW hA0 hR0 hs0 hA1
  go_wp2
  (try rw [hW])
  (try simp only [hbx])
  go_loopw [4] (fun i wr => ∃ (j p : Nat) (s : St), i = .int .i64 j ∧ j ≤ 12 ∧ p + 3 * (12 - j) ≤ m + 1250 ∧ Hid (stSmall s) ∧ Hid (s.flash.length = s0.flash.length ∧ s.disk.length = s0.disk.length) ∧
    OSt wr (w.heap.size + 1) bx A s.flash D s.disk ∧ Rd wr B R p ∧ Agr (· = R) w wr ∧ bx < wr.heap.size ∧
    (wr.cell? ⟨bx, 0, none⟩ = some (.slice A s0.flash.length c) ∧ wr.cell? ⟨bx, 1, none⟩ = some (.slice D s0.disk.length d) ∧ wr.frozen? ⟨bx, 0, none⟩ = false ∧ wr.frozen? ⟨bx, 1, none⟩ = false) ∧
    (wr.cell? ⟨w.heap.size, 0, none⟩ = some (.slice none 0 0) ∧ wr.cell? ⟨w.heap.size, 1, none⟩ = some (.slice none 0 0) ∧ wr.frozen? ⟨w.heap.size, 0, none⟩ = false ∧ wr.frozen? ⟨w.heap.size, 1, none⟩ = false)) (fun i _ => 12 - (intOf i).toNat)
  case atStart => exact ⟨0, m + 1200, s0, rfl, by omega, by omega, Lib.hid hsm, Lib.hid ⟨rfl, rfl⟩, hO2, hR2, hA2, by omega, ⟨b0, b1, b2, b3⟩, ⟨q0, q1, f0, f1⟩⟩
  case round =>
    obtain ⟨j, p, s, rfl, hj, hp, hst, hln, hOk, hRk, hAk, hsk, ⟨b0, b1, b2, b3⟩, ⟨q0, q1, f0, f1⟩⟩ := hrel
    clear hO2 hR2 hA2
    have h1n : s0.flash.length < 1000000000000 := by have := hst.out.1.1; have := hln.out.1; omega
    by_cases hj12 : j < 12
    · have hj1 : (j : Int) < 12 := by omega
      have e1 : IntKind.i64.wrap ((j : Int) + 1) = (j : Int) + 1 := IntWalk.i64_in _ (by omega)
      go_wp2_with fail
      refine (spec_StoreOk s A D _ _ c d _ hln.out.1.symm hln.out.2.symm (by rw [hln.out.1]; exact h1n) hOk.ofl.fl hOk.disk).mono ?_
      rintro e w2 ⟨rfl, hb⟩
      have hAc := Agr.of_below (S := (· = R)) hb
      obtain ⟨b0, b1, b2, b3⟩ := agr_cells hAc (b := bx) (by omega) (by omega) b0 b1 b2 b3
      obtain ⟨q0, q1, f0, f1⟩ := agr_cells hAc (b := w.heap.size) (by omega) (by omega) q0 q1 f0 f1
      have hsz2 := hAc.size
      replace hOk : OSt w2 (w.heap.size + 1) bx A s.flash D s.disk := hOk.keep fun b h1 h2 hl => hAc.block b hl (by omega)
      replace hAk := hAk.trans hAc (fun _ _ h => h)
      clear hAc
      have hR2 := hRk.below hb (Nat.le_refl _)
      clear hb hRk
      by_cases hok : storeOk s = true
      · have HOK := Lib.hid (storeOk_iff.1 hok)
        rw [hok]
        clear hok
        have HL4 : Hid (s0.flash.length = 4) := by unfold Hid; rw [← hln.out.1]; exact flashOk_len HOK.out.flash
        have HL6 : Hid (s0.disk.length = 6) := by unfold Hid; rw [← hln.out.2]; exact HOK.out.len
        rw [HL4.out, HL6.out] at hln
        rw [HL4.out] at b0
        rw [HL6.out] at b1
        go_wp2_with fail
        refine (spec_pickI 8 8 B R p _ rfl (by omega) (by omega) (by omega) hR2).mono ?_
        rintro e w3 ⟨k, rfl, hk, hR3, hAc⟩
        obtain ⟨b0, b1, b2, b3⟩ := agr_cells hAc (b := bx) (by omega) (by omega) b0 b1 b2 b3
        obtain ⟨q0, q1, f0, f1⟩ := agr_cells hAc (b := w.heap.size) (by omega) (by omega) q0 q1 f0 f1
        have hsz3 := hAc.size
        replace hOk : OSt w3 (w.heap.size + 1) bx A s.flash D s.disk := hOk.keep fun b h1 h2 hl => hAc.block b hl (by omega)
        replace hAk := hAk.trans hAc (fun _ _ h => h)
        clear hAc
        clear hR2
        by_cases hk0 : k = 0
        · subst hk0
          go_wp2
          have hF : Agr (· = w.heap.size) w3 ((w3.setCell ⟨w.heap.size, 0, none⟩ (.slice A 4 c)).setCell ⟨w.heap.size, 1, none⟩ (.slice D 6 d)) := Agr.setCell (S := fun b => b = w.heap.size) (Agr.setCell (S := fun b => b = w.heap.size) (Agr.refl _ _) (p := ⟨w.heap.size, 0, none⟩) (.inr rfl) _) (p := ⟨w.heap.size, 1, none⟩) (.inr rfl) _
          have hsz := hF.size
          refine bodyPost_ret (v := .agg #[.slice A 4 c, .slice D 6 d]) (by simp [results, Try.results50, go_sem, q0, q1]) rfl ⟨A, D, c, d, s, by rw [hln.out.1, hln.out.2], hst.out, ?_, ?_, ?_⟩
          · exact (hOk.keep (w' := (w3.setCell ⟨w.heap.size, 0, none⟩ (.slice A 4 c)).setCell ⟨w.heap.size, 1, none⟩ (.slice D 6 d)) fun b h1 h2 hl => hF.block b hl (by omega)).mono (by omega) (by omega)
          · exact (hR3.agr hF (by omega) (fun b hb e => by have := hR3.le; omega)).mono (by omega)
          · exact hAk.trans hF (fun b hb e => by omega)
        · have hk1 : (0 : Int) < k := by omega
          go_wp2_with fail
          refine (spec_l3Open' 4 s.flash A c _ hln.out.1.symm (by rw [hln.out.1]; omega) (okay_pages' HOK.out) hOk.ofl.fl).mono ?_
          rintro e w4 ⟨rfl, _, _, hb⟩
          have hAc := Agr.of_below (S := (· = R)) hb
          obtain ⟨b0, b1, b2, b3⟩ := agr_cells hAc (b := bx) (by omega) (by omega) b0 b1 b2 b3
          obtain ⟨q0, q1, f0, f1⟩ := agr_cells hAc (b := w.heap.size) (by omega) (by omega) q0 q1 f0 f1
          have hsz4 := hAc.size
          replace hOk : OSt w4 (w.heap.size + 1) bx A s.flash D s.disk := hOk.keep fun b h1 h2 hl => hAc.block b hl (by omega)
          replace hAk := hAk.trans hAc (fun _ _ h => h)
          clear hAc
          have hR4 := hR3.below hb (Nat.le_refl _)
          clear hb hR3
          generalize (openB s.flash).1 = o1 at *
          generalize (openB s.flash).2 = o2 at *
          cases o2 with
          | false =>
            go_wp2
            have hF : Agr (· = w.heap.size) w4 ((w4.setCell ⟨w.heap.size, 0, none⟩ (.slice A 4 c)).setCell ⟨w.heap.size, 1, none⟩ (.slice D 6 d)) := Agr.setCell (S := fun b => b = w.heap.size) (Agr.setCell (S := fun b => b = w.heap.size) (Agr.refl _ _) (p := ⟨w.heap.size, 0, none⟩) (.inr rfl) _) (p := ⟨w.heap.size, 1, none⟩) (.inr rfl) _
            have hsz := hF.size
            refine bodyPost_ret (v := .agg #[.slice A 4 c, .slice D 6 d]) (by simp [results, Try.results50, go_sem, q0, q1]) rfl ⟨A, D, c, d, s, by rw [hln.out.1, hln.out.2], hst.out, ?_, ?_, ?_⟩
            · exact (hOk.keep (w' := (w4.setCell ⟨w.heap.size, 0, none⟩ (.slice A 4 c)).setCell ⟨w.heap.size, 1, none⟩ (.slice D 6 d)) fun b h1 h2 hl => hF.block b hl (by omega)).mono (by omega) (by omega)
            · exact (hR4.agr hF (by omega) (fun b hb e => by have := hR4.le; omega)).mono (by omega)
            · exact hAk.trans hF (fun b hb e => by omega)
          | true =>
            have hq := Lib.hid (fun X (h : Agr (· = R) w4.drew X) => agr_cells h (b := bx) (by show bx < w4.heap.size; omega) (by omega) (w := w4.drew) b0 b1 b2 b3)
            have hr := Lib.hid (fun X (h : Agr (· = R) w4.drew X) => agr_cells h (b := w.heap.size) (by show w.heap.size < w4.heap.size; omega) (by omega) (w := w4.drew) q0 q1 f0 f1)
            have hOx := Lib.hid (fun X (h : Agr (· = R) w4.drew X) => hOk.drew.keep (w' := X) fun b h1 h2 hl => h.block b hl (by omega))
            have hAx := Lib.hid (fun X (h : Agr (· = R) w4.drew X) => hAk.drew.trans h (fun _ _ h => h))
            have hRx := hR4.drew
            have hz4 : bx < w4.drew.heap.size := by show bx < w4.heap.size; omega
            have hg0 : Agr (· = R) w4.drew w4.drew := Agr.refl _ _
            have HZ := Lib.hid hz4
            clear hAk hR4 hOk hz4
            go_wp2
            refine wp_region_held_drew (S := fun X => X.cell? ⟨bx, 0, none⟩ = some (.slice A 4 c) ∧ X.cell? ⟨bx, 1, none⟩ = some (.slice D 6 d)) (by kernel_rfl) ⟨(hq.out _ hg0).1, (hq.out _ hg0).2.1⟩ (fun hHeld0 => ?_)
            refine wpAnyH_take (i := 0) (v := ?vf1) rfl (by kernel_rfl) (by kernel_rfl) (by kernel_rfl) (fun _ _ _ h => h) (Or.inl ⟨by kernel_rfl, ?yf1⟩) hHeld0 ?rf1
            case yf1 => (intro w' hS; (try dsimp only at hS); obtain ⟨s0, s1⟩ := hS; (try go_simp); (try with_reducible rfl))
            try simp only [Act.put, List.getElem_toArray, List.getElem_cons_zero, List.getElem_cons_succ, List.setIfInBounds_toArray, List.set_cons_zero, List.set_cons_succ]
            refine wpAnyH_take (i := 1) (v := ?vf2) rfl (by kernel_rfl) (by kernel_rfl) (by kernel_rfl) (fun _ _ _ h => h) (Or.inl ⟨by kernel_rfl, ?yf2⟩) hHeld0 ?rf2
            case yf2 => (intro w' hS; (try dsimp only at hS); obtain ⟨s0, s1⟩ := hS; (try go_simp); (try with_reducible rfl))
            try simp only [Act.put, List.getElem_toArray, List.getElem_cons_zero, List.getElem_cons_succ, List.setIfInBounds_toArray, List.set_cons_zero, List.set_cons_succ]
            refine wpAnyH_take (i := 4) (v := ?vf3) rfl (by kernel_rfl) (by kernel_rfl) (by kernel_rfl) (fun _ _ _ h => h) (Or.inl ⟨by kernel_rfl, ?yf3⟩) hHeld0 ?rf3
            case yf3 => (intro w' hS; (try dsimp only at hS); obtain ⟨s0, s1⟩ := hS; (try go_simp); (try with_reducible rfl))
            try simp only [Act.put, List.getElem_toArray, List.getElem_cons_zero, List.getElem_cons_succ, List.setIfInBounds_toArray, List.set_cons_zero, List.set_cons_succ]
            refine wpAnyH_ready (rs := [2]) (by kernel_rfl) (by simp) ?_
            refine AllReadyH.cons rfl (fun K hK => ?_) AllReadyH.nil
            go_simp
            refine (spec_pickI 6 6 B R (p + 1) _ rfl (by omega) (by omega) (by omega) hRx).mono ?_
            rintro e w5 ⟨k5, rfl, hk5, hR5, hc⟩
            have hg1 := hg0.trans hc (fun _ _ h => h)
            have e5 : IntKind.i64.wrap (1 + (k5 : Int)) = 1 + (k5 : Int) := IntWalk.i64_in _ (by omega)
            clear hc
            go_wp2_with fail
            refine hK.out _ _ (⟨(hq.out _ hg1).1, (hq.out _ hg1).2.1⟩) (fun hHf1 => ?_)
            clear hK K
            try simp only [Act.put, List.getElem_toArray, List.getElem_cons_zero, List.getElem_cons_succ, List.setIfInBounds_toArray, List.set_cons_zero, List.set_cons_succ]
            refine wpAnyH_take (i := 3) (v := ?vf4) rfl (by kernel_rfl) (by kernel_rfl) (by kernel_rfl) (fun _ _ _ h => h) (Or.inl ⟨by kernel_rfl, ?yf4⟩) hHf1 ?rf4
            case yf4 => (intro w' hS; (try dsimp only at hS); obtain ⟨s0, s1⟩ := hS; (try go_simp); (try with_reducible rfl))
            try simp only [Act.put, List.getElem_toArray, List.getElem_cons_zero, List.getElem_cons_succ, List.setIfInBounds_toArray, List.set_cons_zero, List.set_cons_succ]
            refine wpAnyH_ready (rs := [5]) (by kernel_rfl) (by simp) ?_
            refine AllReadyH.cons rfl (fun K hK => ?_) AllReadyH.nil
            go_simp
            refine (spec_pickI 10 10 B R (p + 1 + 1) _ rfl (by omega) (by omega) (by omega) hR5).mono ?_
            rintro e w6 ⟨k6, rfl, hk6, hR6, hc⟩
            have hg2 := hg1.trans hc (fun _ _ h => h)
            clear hc
            go_wp2_with fail
            refine hK.out _ _ (⟨(hq.out _ hg2).1, (hq.out _ hg2).2.1⟩) (fun hHf2 => ?_)
            clear hK K
            try simp only [Act.put, List.getElem_toArray, List.getElem_cons_zero, List.getElem_cons_succ, List.setIfInBounds_toArray, List.set_cons_zero, List.set_cons_succ]
            refine wpAnyH_take (i := 6) (v := ?vf5) rfl (by kernel_rfl) (by kernel_rfl) (by kernel_rfl) (fun _ _ _ h => h) (Or.inl ⟨by kernel_rfl, ?yf5⟩) hHf2 ?rf5
            case yf5 => (intro w' hS; (try dsimp only at hS); obtain ⟨s0, s1⟩ := hS; (try go_simp); (try with_reducible rfl))
            try simp only [Act.put, List.getElem_toArray, List.getElem_cons_zero, List.getElem_cons_succ, List.setIfInBounds_toArray, List.set_cons_zero, List.set_cons_succ]
            refine wpAnyH_ready (rs := [7]) (by kernel_rfl) (by simp) ?_
            refine AllReadyH.cons rfl (fun K hK => ?_) AllReadyH.nil
            go_simp
            refine (spec_l21Do s ⟨1, 1 + (k5 : Int), (k6 : Int), 9, false⟩ A D c d (w.heap.size + 1) bx _ HOK.out.fine (by have h := hg2.size; have h2 := HZ.out; omega) (hOx.out _ hg2)).mono ?_
            rintro e w7 ⟨rfl, hO7, hc⟩
            have hz7 : w4.heap.size ≤ w7.heap.size := Nat.le_trans hg2.size hc.size
            have hbl : bx < w6.heap.size := by have h := hg2.size; have h2 := HZ.out; omega
            have y0 := (hc.cell (b := bx) hbl (by omega) 0).trans (hq.out _ hg2).1
            have y1 := (hc.cell (b := bx) hbl (by omega) 1).trans (hq.out _ hg2).2.1
            have y2 := (hc.fz (b := bx) hbl (by omega) 0).trans (hq.out _ hg2).2.2.1
            have y3 := (hc.fz (b := bx) hbl (by omega) 1).trans (hq.out _ hg2).2.2.2
            have u0 := (hc.cell (b := w.heap.size) (by omega) (by omega) 0).trans (hr.out _ hg2).1
            have u1 := (hc.cell (b := w.heap.size) (by omega) (by omega) 1).trans (hr.out _ hg2).2.1
            have u2 := (hc.fz (b := w.heap.size) (by omega) (by omega) 0).trans (hr.out _ hg2).2.2.1
            have u3 := (hc.fz (b := w.heap.size) (by omega) (by omega) 1).trans (hr.out _ hg2).2.2.2
            have hR7 := hR6.agr hc (by omega) (fun b hb e => by have := hR6.le; omega)
            have hA7 := (hAx.out _ hg2).trans hc (fun b hb e => by omega)
            have hevk := doEv_evt HOK.out ⟨1, 1 + (k5 : Int), (k6 : Int), 9, false⟩
            have HEV := Lib.hid hevk.ok
            clear hevk
            generalize doEv s ⟨1, 1 + (k5 : Int), (k6 : Int), 9, false⟩ = s8 at *
            clear hc
            go_wp2_with fail
            refine hK.out _ _ (⟨y0, y1⟩) (fun hHf3 => ?_)
            clear hK K
            try simp only [Act.put, List.getElem_toArray, List.getElem_cons_zero, List.getElem_cons_succ, List.setIfInBounds_toArray, List.set_cons_zero, List.set_cons_succ]
            refine wpAnyH_ready (rs := [8]) (by kernel_rfl) (by simp) ?_
            refine AllReadyH.cons rfl (fun K hK => ?_) AllReadyH.nil
            go_simp
            have hWr : Wrote w7 ((w7.setCell ⟨bx, 0, none⟩ (.slice A 4 c)).setCell ⟨bx, 1, none⟩ (.slice D 6 d)) bx 0 [.slice A 4 c, .slice D 6 d] := wrote_setRow bx [.slice A 4 c, .slice D 6 d] 0 w7 (fun j hj => by
              match j, hj with
              | 0, _ => exact ⟨_, y0⟩
              | 1, _ => exact ⟨_, y1⟩)
            have t0 := hWr.new_ 0 _ rfl
            have t1 := hWr.new_ 1 _ rfl
            refine hK.out _ _ (⟨t0, t1⟩) (fun hHf4 => ?_)
            clear hK K
            try simp only [Act.put, List.getElem_toArray, List.getElem_cons_zero, List.getElem_cons_succ, List.setIfInBounds_toArray, List.set_cons_zero, List.set_cons_succ]
            refine wpAnyH_done (by kernel_rfl) ?_ _
            have hO9 : OSt _ (w.heap.size + 1) bx A s8.flash D s8.disk := hO7.keep fun b h1 h2 _ => hWr.block b (by omega)
            have hR9 := hR7.agr hWr.agr (by omega) (fun b hb e => by have := hR7.le; omega)
            have hA9 := hA7.trans (S' := (· = bx)) hWr.agr (fun b hb e => by omega)
            have t2 := (hWr.frozen ⟨bx, 0, none⟩).trans y2
            have t3 := (hWr.frozen ⟨bx, 1, none⟩).trans y3
            have v0 := (hWr.agr.cell (b := w.heap.size) (by omega) (by omega) 0).trans u0
            have v1 := (hWr.agr.cell (b := w.heap.size) (by omega) (by omega) 1).trans u1
            have v2 := (hWr.frozen ⟨w.heap.size, 0, none⟩).trans u2
            have v3 := (hWr.frozen ⟨w.heap.size, 1, none⟩).trans u3
            have hss := hWr.size
            have hzz := HZ.out
            have hz9 : w4.drew.heap.size = w4.heap.size := rfl
            clear hWr hO7 hR7 hA7 hq hr hOx hAx
            go_wp2
            go_roundw
            (case rel => exact ⟨j + 1, _, s8, by go_num, by omega, by omega, Lib.hid (stSmall_of HEV.out.fine), Lib.hid ⟨by rw [HL4.out]; exact flashOk_len HEV.out.flash, by rw [HL6.out]; exact HEV.out.len⟩, hO9, hR9, hA9, by omega, ⟨by rw [HL4.out]; exact t0, by rw [HL6.out]; exact t1, t2, t3⟩, ⟨v0, v1, v2, v3⟩⟩)
            (case measure => simp [intOf]; omega)
      · have hokf : storeOk s = false := by simpa using hok
        rw [hokf]
        go_wp2
        have hF : Agr (· = w.heap.size) w2 ((w2.setCell ⟨w.heap.size, 0, none⟩ (.slice A s0.flash.length c)).setCell ⟨w.heap.size, 1, none⟩ (.slice D s0.disk.length d)) := Agr.setCell (S := fun b => b = w.heap.size) (Agr.setCell (S := fun b => b = w.heap.size) (Agr.refl _ _) (p := ⟨w.heap.size, 0, none⟩) (.inr rfl) _) (p := ⟨w.heap.size, 1, none⟩) (.inr rfl) _
        have hsz := hF.size
        refine bodyPost_ret (v := .agg #[.slice A s0.flash.length c, .slice D s0.disk.length d]) (by simp [results, Try.results50, go_sem, q0, q1]) rfl ⟨A, D, c, d, s, by rw [hln.out.1, hln.out.2], hst.out, ?_, ?_, ?_⟩
        · exact (hOk.keep (w' := (w2.setCell ⟨w.heap.size, 0, none⟩ (.slice A s0.flash.length c)).setCell ⟨w.heap.size, 1, none⟩ (.slice D s0.disk.length d)) fun b h1 h2 hl => hF.block b hl (by omega)).mono (by omega) (by omega)
        · exact (hR2.agr hF (by omega) (fun b hb e => by have := hR2.le; omega)).mono (by omega)
        · exact hAk.trans hF (fun b hb e => by omega)
    · have hj1 : ¬ (j : Int) < 12 := by omega
      go_wp2
      have hF : Agr (· = w.heap.size) wr ((wr.setCell ⟨w.heap.size, 0, none⟩ (.slice A s0.flash.length c)).setCell ⟨w.heap.size, 1, none⟩ (.slice D s0.disk.length d)) := Agr.setCell (S := fun b => b = w.heap.size) (Agr.setCell (S := fun b => b = w.heap.size) (Agr.refl _ _) (p := ⟨w.heap.size, 0, none⟩) (.inr rfl) _) (p := ⟨w.heap.size, 1, none⟩) (.inr rfl) _
      have hsz := hF.size
      refine bodyPost_ret (v := .agg #[.slice A s0.flash.length c, .slice D s0.disk.length d]) (by simp [results, Try.results50, go_sem, q0, q1]) rfl ⟨A, D, c, d, s, by rw [hln.out.1, hln.out.2], hst.out, ?_, ?_, ?_⟩
      · exact (hOk.keep (w' := (wr.setCell ⟨w.heap.size, 0, none⟩ (.slice A s0.flash.length c)).setCell ⟨w.heap.size, 1, none⟩ (.slice D s0.disk.length d)) fun b h1 h2 hl => hF.block b hl (by omega)).mono (by omega) (by omega)
      · exact (hRk.agr hF (by omega) (fun b hb e => by have := hRk.le; omega)).mono (by omega)
      · exact hAk.trans hF (fun b hb e => by omega)
end Go.Proofs.Ytohkoogmbfaceaa
namespace Go.Proofs.Ytohkoogmbfaceaa
set_option linter.unusedVariables false
set_option linter.unusedSimpArgs false
open Go.RowKit Go.Maps
set_option maxHeartbeats 4000000
set_option maxRecDepth 100000
/-- a store drawn, in blocks of the draw's own -/
def StoreD (w w' : World) (A D : Option Addr) (s : St) : Prop := stSmall s ∧ OSt w' w.heap.size w'.heap.size A s.flash D s.disk ∧ Below w.heap.size w w'
set_option maxHeartbeats 4000000 in
theorem spec_DrawStepsPut (A : Option Addr) (bs : List Nat) (c : Nat) (w : World) (hc : Code w A bs c) :
    Calls Try.prog 26 #[.slice A bs.length c] w fun e w' => ∃ A2 D2 c2 d2 s a v, e = .returned (.tuple #[.agg #[.slice A2 s.flash.length c2, .slice D2 s.disk.length d2], .int .i64 a, .int .i64 v]) ∧ (1 ≤ a ∧ a ≤ 12) ∧ (-10 ≤ v ∧ v ≤ 9) ∧ StoreD w w' A2 D2 s := by
  have hq := Row.new w #[.slice none 0 0, .slice none 0 0] 28
  obtain ⟨q0, f0⟩ := hq.at0 (j := 0) rfl
  obtain ⟨q1, f1⟩ := hq.at0 (j := 1) rfl
  obtain ⟨W0, hW0⟩ : ∃ W, w.alloc (.cells #[.slice none 0 0, .slice none 0 0] 28) = W := ⟨_, rfl⟩
  have hs0 : W0.heap.size = w.heap.size + 1 := by rw [← hW0]; simp
  have hB0 : Below w.heap.size w W0 := by rw [← hW0]; (repeat (first | (with_reducible exact Below.refl _ _) | (with_reducible assumption) | (refine Below.setCell ?_ (by first | omega | exact hB.size | exact hb.size | (have h := hB.size; simp; omega) | (have h := hb.size; simp; omega) | (simp; omega) | simp) _) | (refine Below.alloc ?_ (by first | omega | exact hB.size | exact hb.size | (have h := hB.size; simp; omega) | (have h := hb.size; simp; omega) | (simp; omega) | simp) _) | (refine Below.drew ?_)))
  have hrow := hc.row.alloc (.cells #[.slice none 0 0, .slice none 0 0] 28)
  rw [hW0] at q0 q1 f0 f1 hrow
  clear hq
  go_enter Try.func26, Try.ntmps26
  go_wp2_with fail
  (try rw [hW0])
  refine (spec_l6Open A bs c _ hc.len hc.cap hc.byte hrow).mono ?_
  rintro e w1 ⟨rfl, hR1, hb1⟩
  rw [hs0] at hb1 hR1
  have hs1 := hb1.size
  rw [hs0] at hs1
  replace q0 := (hb1.cell (p := ⟨w.heap.size, 0, none⟩) (by show w.heap.size < _; omega)).trans q0
  replace q1 := (hb1.cell (p := ⟨w.heap.size, 1, none⟩) (by show w.heap.size < _; omega)).trans q1
  replace f0 := (hb1.frozen (p := ⟨w.heap.size, 0, none⟩) (by show w.heap.size < _; omega)).trans f0
  replace f1 := (hb1.frozen (p := ⟨w.heap.size, 1, none⟩) (by show w.heap.size < _; omega)).trans f1
  have hB1 := hB0.trans (hb1.mono (by omega))
  have hRl := hR1.lt
  clear hb1 hB0 hrow
  (try simp only [hs0])
  clear hs0
  go_wp2_with fail
  refine (spec_l71Full _ _ 0 _ (by omega) hR1).mono ?_
  rintro e w2 ⟨A2, D2, c2, d2, s, rfl, hsm, hO, hR, hA⟩
  have hs2 := hA.size
  have HS := Lib.hid hsm
  clear hsm hR1
  obtain ⟨q0, q1, f0, f1⟩ := agr_cells hA (b := w.heap.size) (by omega) (by omega) q0 q1 f0 f1
  have hB2 := hB1.trans (hA.below (B := w.heap.size) (by omega) (fun i hi => by omega))
  clear hA hB1
  replace hO : OSt w2 (w.heap.size + 1 + 1) w2.heap.size A2 s.flash D2 s.disk := hO.mono (by omega) (Nat.le_refl _)
  go_wp2_with fail
  refine (spec_pickI 6 6 _ _ (0 + 1250) _ rfl (by omega) (by omega) (by omega) hR).mono ?_
  rintro e w3 ⟨k3, rfl, hk3, hR, hA⟩
  have hs3 := hA.size
  obtain ⟨q0, q1, f0, f1⟩ := agr_cells hA (b := w.heap.size) (by omega) (by omega) q0 q1 f0 f1
  have hB3 := hB2.trans (hA.below (B := w.heap.size) (by omega) (fun i hi => by omega))
  replace hO := hO.agr hA (fun b h1 h2 h3 => by omega)
  clear hA hB2
  have e1 : IntKind.i64.wrap (1 + (k3 : Int)) = 1 + (k3 : Int) := IntWalk.i64_in _ (by omega)
  go_wp2_with fail
  refine (spec_pickI 24 24 _ _ (0 + 1250 + 1) _ rfl (by omega) (by omega) (by omega) hR).mono ?_
  rintro e w4 ⟨k4, rfl, hk4, hR, hA⟩
  have hs4 := hA.size
  obtain ⟨q0, q1, f0, f1⟩ := agr_cells hA (b := w.heap.size) (by omega) (by omega) q0 q1 f0 f1
  have hB4 := hB3.trans (hA.below (B := w.heap.size) (by omega) (fun i hi => by omega))
  replace hO := hO.agr hA (fun b h1 h2 h3 => by omega)
  clear hA hB3
  have e2 : IntKind.i64.wrap ((k4 : Int) / 23) = (k4 : Int) / 23 := IntWalk.i64_in _ (by omega)
  have e3 : IntKind.i64.wrap ((k4 : Int) / 23 * 6) = (k4 : Int) / 23 * 6 := IntWalk.i64_in _ (by omega)
  have e4 : IntKind.i64.wrap (1 + (k3 : Int) + (k4 : Int) / 23 * 6) = 1 + (k3 : Int) + (k4 : Int) / 23 * 6 := IntWalk.i64_in _ (by omega)
  go_wp2_with fail
  refine (spec_pickI 10 10 _ _ (0 + 1250 + 1 + 1) _ rfl (by omega) (by omega) (by omega) hR).mono ?_
  rintro e w5 ⟨k5, rfl, hk5, hR, hA⟩
  have hs5 := hA.size
  obtain ⟨q0, q1, f0, f1⟩ := agr_cells hA (b := w.heap.size) (by omega) (by omega) q0 q1 f0 f1
  have hB5 := hB4.trans (hA.below (B := w.heap.size) (by omega) (fun i hi => by omega))
  replace hO := hO.agr hA (fun b h1 h2 h3 => by omega)
  clear hA hB4
  go_wp2_with fail
  refine (spec_pickI 24 24 _ _ (0 + 1250 + 1 + 1 + 1) _ rfl (by omega) (by omega) (by omega) hR).mono ?_
  rintro e w6 ⟨k6, rfl, hk6, hR, hA⟩
  have hs6 := hA.size
  obtain ⟨q0, q1, f0, f1⟩ := agr_cells hA (b := w.heap.size) (by omega) (by omega) q0 q1 f0 f1
  have hB6 := hB5.trans (hA.below (B := w.heap.size) (by omega) (fun i hi => by omega))
  replace hO := hO.agr hA (fun b h1 h2 h3 => by omega)
  clear hA hB5
  have e5 : IntKind.i64.wrap ((k6 : Int) / 23) = (k6 : Int) / 23 := IntWalk.i64_in _ (by omega)
  have e6 : IntKind.i64.wrap ((k6 : Int) / 23 * 10) = (k6 : Int) / 23 * 10 := IntWalk.i64_in _ (by omega)
  have e7 : IntKind.i64.wrap ((k5 : Int) - (k6 : Int) / 23 * 10) = (k5 : Int) - (k6 : Int) / 23 * 10 := IntWalk.i64_in _ (by omega)
  have hL := laid_cells q0 q1 (.slice A2 s.flash.length c2) (.slice D2 s.disk.length d2)
  have hOf := hO.agr hL.agr (fun b h1 h2 h3 => by omega)
  have hBf := hB6.trans (hL.agr.below (B := w.heap.size) (by omega) (fun i hi => by omega))
  have hsz := hL.size
  have r0 := hL.new_ 0 _ rfl
  have r1 := hL.new_ 1 _ rfl
  clear hL
  go_wp2
  exact bodyPost_ret (v := .tuple #[.agg #[.slice A2 s.flash.length c2, .slice D2 s.disk.length d2], .int .i64 (1 + (k3 : Int) + (k4 : Int) / 23 * 6), .int .i64 ((k5 : Int) - (k6 : Int) / 23 * 10)]) (by simp [results, Try.results26, go_sem, r0, r1, q0, q1]) rfl ⟨A2, D2, c2, d2, s, _, _, rfl, by omega, by omega, HS.out, hOf.mono (by omega) (by omega), hBf⟩
end Go.Proofs.Ytohkoogmbfaceaa
namespace Go.Proofs.Ytohkoogmbfaceaa
set_option linter.unusedVariables false
set_option linter.unusedSimpArgs false
open Go.RowKit Go.WideShapes Go.ChangeShapes
section
variable {H : Type} {enc : TypeId × Value → H} {P : Program}
/-- an argument reads behind the call as before, if below the heap's old size nothing has turned -/
theorem trod_kept {t : TypeId} (hl : laidOutB P = true) (hr : P.readableRec t = true) (hrow : t < P.types.size) {W W' : World} {v : Value} {d : DataW H} {ps qs : List MemPlace} {sp : Nat → Bool}
    (h : DataW.Trod enc P W 0 (fun _ => true) true t v d ps) (hb : Below W.heap.size W W') (hlt : ∀ x ∈ qs, x.block < W.heap.size) (hsp : ∀ p ∈ qs, sp p.block = true) (hq : ∀ x ∈ ps, x ∈ qs) : DataW.Trod enc P W' 0 sp true t v d ps :=
  WideElems.Trod_stays hl hr hrow h (fun x hx => hb.same (hlt x (hq x hx))) (fun x hx => hsp x (hq x hx))
theorem post_of_below {f : Func} {s : ChangeSpec} {apart fresh handsOn again : Bool} {W W' : World} {args : Array Value} {v : Value} {ds gs : List (DataW H)} {before pa pv : List MemPlace}
    (hW : DataW.Whole enc P f.params.toList s.vars apart W args.toList ds gs before)
    (hres : ∀ (b : Nat) (sp : Nat → Bool) (hd : Bool), DataW.TrodAll enc P W' b sp hd f.resultTypes.toList (v.resultList f.resultTypes.size) (s.fn H (ds ++ gs)).results [])
    (hargs : ∀ sp : Nat → Bool, (∀ p ∈ before, sp p.block = true) → DataW.TrodAll enc P W' 0 sp true f.params.toList args.toList (s.fn H (ds ++ gs)).args pa)
    (hvars : ∀ sp : Nat → Bool, (∀ p ∈ before, sp p.block = true) → DataW.TrodVars enc P W' sp s.vars (s.fn H (ds ++ gs)).vars pv)
    (hps : before = pa ++ pv) (hb : Below W.heap.size W W')
    (hok : ∀ (j : Nat) (t : TypeId) (r : Value), f.resultTypes[j]? = some t → (v.resultList f.resultTypes.size)[j]? = some r → Value.okWide P W' .any 0 t r) :
    s.post enc P f apart fresh handsOn again W args v W' := by
  have hlt : ∀ p ∈ before, p.block < W.heap.size := fun p hp => hW.lt p hp
  have hold : ∀ p ∈ before, (fun b => decide (b < W.heap.size)) p.block = true := fun p hp => by simpa using hlt p hp
  refine ⟨ds, gs, before, [], pa, pv, hW, hres _ _ _, hargs _ hold, hvars _ hold, World.keptBut_mono (fun p hp => ⟨hp, ?_⟩) (hb.frame (· ∈ before)), fun _ => ?_⟩
  · rw [hps, List.mem_append] at hp
    exact Or.inr hp
  · obtain ⟨_, _, _, _, _, hz, hn⟩ := hW
    refine ⟨hok, _, _, ([] ++ pa) ++ pv, ⟨[] ++ pa, pv, trodAll_append (hargs _ (fun _ _ => rfl)) (hres _ _ _), hvars _ (fun _ _ => rfl), rfl, ?_, ?_⟩, ?_⟩
    · intro b off hp
      have hin : MemPlace.cell b off ∈ before := by rw [hps]; simpa using hp
      rw [hb.frozen (hlt _ hin)]
      exact hz b off hin
    · intro ha
      have := hn ha
      rw [hps] at this
      simpa using this
    · intro p hp _
      rw [hps]
      simpa using hp
end
end Go.Proofs.Ytohkoogmbfaceaa
namespace Go.Proofs.Ytohkoogmbfaceaa
set_option linter.unusedVariables false
set_option linter.unusedSimpArgs false
open Go.RowKit Go.ChangeShapes Go.WideShapes Go.Deep
set_option maxRecDepth 100000
section
variable {H : Type} {enc : TypeId × Value → H} {w : World} {base fuel : Nat} {spare : Nat → Bool} {held : Bool}
theorem plain_addr' {w : World} {a : Addr} {u : Value} (h : w.cell? a = some u) : ∃ b o, a = ⟨b, o, none⟩ := by
  obtain ⟨b, o, s⟩ := a
  cases s with
  | none => exact ⟨b, o, rfl⟩
  | some s =>
    have : w.cell? ⟨b, o, some s⟩ = none := by
      unfold World.cell?
      split
      · exact if_pos rfl
      · rfl
    rw [this] at h; cases h
theorem cellsOf_u8 : Try.prog.cellsOf 5 = 1 := by kernel_rfl
theorem bytes_of {cs : List Value} {x : DataW H × List MemPlace} (h : DataW.trod enc Try.prog w base spare held fuel 22 cs = some x) : ∃ A c bs, cs = [.slice A (List.length bs) c] ∧ Code w A bs c := by
  rcases open_ints Try.underlying22 Try.underlying5 cellsOf_u8 h with ⟨rfl, _⟩ | ⟨a, len, cap, zs, rfl, _, hlc, hcm, hzl, _, hcell, hwf⟩
  · exact ⟨none, 0, [], rfl, ⟨Nat.le_refl _, by omega, by simp, fun h => absurd rfl h⟩⟩
  · have hlz : len ≤ zs.length := by rw [hzl]; split <;> omega
    have hz : ∀ i, i < zs.length → zs.getD i 0 ∈ zs := fun i hi => by
      rw [List.getD_eq_getElem?_getD, List.getElem?_eq_getElem hi]
      exact List.getElem_mem hi
    have hr : ∀ n ∈ zs, 0 ≤ n ∧ n < 256 := fun n hn => by
      have := hwf n hn
      have h1 : IntKind.u8.min = 0 := rfl
      have h2 : IntKind.u8.max = 255 := rfl
      change (decide (IntKind.u8.min ≤ n) && decide (n ≤ IntKind.u8.max)) = true at this
      rw [h1, h2] at this
      simp at this
      omega
    refine ⟨some a, cap, (List.range len).map fun i => (zs.getD i 0).toNat, by simp, ⟨by simpa using hlc, by unfold maxLen at hcm; omega, fun b hb => ?_, fun hne => ?_⟩⟩
    · obtain ⟨i, hi, rfl⟩ := List.mem_map.1 hb
      have := hr _ (hz i (by have := List.mem_range.1 hi; omega))
      omega
    · have hn : 0 < len := by
        rcases Nat.eq_zero_or_pos len with h0 | h0
        · rw [h0] at hne; simp [bytes] at hne
        · exact h0
      have h0 := hcell 0 (by omega)
      obtain ⟨b, o, rfl⟩ := plain_addr' (a := a) (by simpa [Addr.add] using h0)
      refine ⟨b, o, rfl, fun j u hj => ?_⟩
      have hjl : j < len := by
        have := (List.getElem?_eq_some_iff.1 hj).1
        simpa [bytes] using this
      have hc := hcell j (by omega)
      rw [addr_add] at hc
      rw [hc]
      have hb := hr _ (hz j (by omega))
      rw [bytes, List.getElem?_map, List.getElem?_map, List.getElem?_range hjl] at hj
      simp only [Option.map_some, Option.some.injEq] at hj
      rw [← hj]
      have : (((zs.getD j 0).toNat : Nat) : Int) = zs.getD j 0 := by omega
      rw [this]
end
end Go.Proofs.Ytohkoogmbfaceaa
