/- Walks: a law whose arguments are a statement's own: FnExactPlaySteps. -/
import Derived.Test.YtbekihiiildgmaaV6
namespace Go.Proofs.Ytbekihiiildgmaa
set_option linter.unusedVariables false
set_option linter.unusedSimpArgs false
open Go.RowKit Go.Maps
set_option maxHeartbeats 8000000
set_option maxRecDepth 100000
theorem St.mk_small {f : List Bk} {xs : List Int} (h : 0 ≤ szSt 1048576 f xs) : Small f ∧ xs.length ≤ 1048576 := szSt_small h
theorem Small.end2 {f : List Bk} (h : Small f) {m : Nat} (hm : m ≤ 1048576) : endFl 1 f + m < 1000000000000000 := by
  have h1 := endFl_le 1048576 f 1 (fun b hb => by have := h.2 b hb; omega)
  have h2 := h.1
  omega
theorem law_FnExactPlaySteps {w : World} (A D : Option Addr) (c d : Nat) (s : St) (hs : List (Option Addr × Nat)) (hn : s.flash.length ≤ 9223372036854775807) (hp : ∀ b ∈ s.flash, b.pages.length ≤ 9223372036854775807) (hx : s.disk.length ≤ 9223372036854775807) (hF : RBks w A s.flash hs) (hD : RRow w D (ints s.disk)) (k a v cc : Int) (tt : Bool) :
    Calls Try.prog 14 #[.agg #[.slice A s.flash.length c, .slice D s.disk.length d], .agg #[.int .i64 k, .int .i64 a, .int .i64 v, .int .i64 cc, .bool tt]] w fun e w' => e = .returned (.bool true) ∧ Below w.heap.size w w' := by
  have hb0 : Below w.heap.size w ((w.alloc (.cells #[.slice A s.flash.length c, .slice D s.disk.length d] 63)).alloc (.cells #[.int .i64 k, .int .i64 a, .int .i64 v, .int .i64 cc, .bool tt] 72)) := ((Below.refl _ _).alloc (Nat.le_refl _) _).alloc (by simp) _
  have qs := (Row.new w #[.slice A s.flash.length c, .slice D s.disk.length d] 63).alloc (.cells #[.int .i64 k, .int .i64 a, .int .i64 v, .int .i64 cc, .bool tt] 72)
  have qe := Row.new (w.alloc (.cells #[.slice A s.flash.length c, .slice D s.disk.length d] 63)) #[.int .i64 k, .int .i64 a, .int .i64 v, .int .i64 cc, .bool tt] 72
  simp only [World.size_alloc] at qe
  have hz0 : ((w.alloc (.cells #[.slice A s.flash.length c, .slice D s.disk.length d] 63)).alloc (.cells #[.int .i64 k, .int .i64 a, .int .i64 v, .int .i64 cc, .bool tt] 72)).heap.size = w.heap.size + 2 := by simp
  have hF0 := hF.below hb0 (Nat.le_refl _)
  have hD0 := hD.below hb0 (Nat.le_refl _)
  obtain ⟨W0, hW0⟩ : ∃ W, (w.alloc (.cells #[.slice A s.flash.length c, .slice D s.disk.length d] 63)).alloc (.cells #[.int .i64 k, .int .i64 a, .int .i64 v, .int .i64 cc, .bool tt] 72) = W := ⟨_, rfl⟩
  rw [hW0] at hb0 qs qe hz0 hF0 hD0
  obtain ⟨s0, _⟩ := qs.at0 (j := 0) rfl
  obtain ⟨s1, _⟩ := qs.at0 (j := 1) rfl
  obtain ⟨⟨e0, e1, e2, e3, e4⟩, _⟩ := qe.ev5
  have FX := Lib.hid (fun X (h : Below W0.heap.size W0 X) => (⟨hF0.below h (Nat.le_refl _), hD0.below h (Nat.le_refl _), (h.cell (p := ⟨w.heap.size, 0, none⟩) (by show w.heap.size < _; omega)).trans s0, (h.cell (p := ⟨w.heap.size, 1, none⟩) (by show w.heap.size < _; omega)).trans s1, (h.cell (p := ⟨w.heap.size + 1, 0, none⟩) (by show w.heap.size + 1 < _; omega)).trans e0, (h.cell (p := ⟨w.heap.size + 1, 1, none⟩) (by show w.heap.size + 1 < _; omega)).trans e1, (h.cell (p := ⟨w.heap.size + 1, 2, none⟩) (by show w.heap.size + 1 < _; omega)).trans e2, (h.cell (p := ⟨w.heap.size + 1, 3, none⟩) (by show w.heap.size + 1 < _; omega)).trans e3, (h.cell (p := ⟨w.heap.size + 1, 4, none⟩) (by show w.heap.size + 1 < _; omega)).trans e4⟩ : RBks X A s.flash hs ∧ RRow X D (ints s.disk) ∧ X.cell? ⟨w.heap.size, 0, none⟩ = some (.slice A s.flash.length c) ∧ X.cell? ⟨w.heap.size, 1, none⟩ = some (.slice D s.disk.length d) ∧ X.cell? ⟨w.heap.size + 1, 0, none⟩ = some (.int .i64 k) ∧ X.cell? ⟨w.heap.size + 1, 1, none⟩ = some (.int .i64 a) ∧ X.cell? ⟨w.heap.size + 1, 2, none⟩ = some (.int .i64 v) ∧ X.cell? ⟨w.heap.size + 1, 3, none⟩ = some (.int .i64 cc) ∧ X.cell? ⟨w.heap.size + 1, 4, none⟩ = some (.bool tt)))
  have H1 := Lib.hid (laws_szStore A D c d s.flash s.disk hs W0 hn hp hx hF0)
  clear hn hp hx hF hD hF0 hD0 qs qe hz0
  go_enter Try.func14, Try.ntmps14
  go_wp2_with fail
  with_reducible refine H1.out.mono ?_
  rintro e w1 ⟨rfl, hB1⟩
  clear H1
  obtain ⟨_, _, s0, s1, e0, e1, e2, e3, e4⟩ := FX.out _ hB1
  by_cases hsz : szSt 1048576 s.flash s.disk < 0
  · go_wp2
    go_ret
    exact ⟨rfl, hb0.trans (hB1.mono hb0.size)⟩
  · obtain ⟨hsm, hdm⟩ := St.mk_small (show 0 ≤ szSt 1048576 s.flash s.disk by omega)
    have HSM := Lib.hid hsm
    have HDM := Lib.hid hdm
    clear hsm hdm
    obtain ⟨ys, hys⟩ : ∃ ys, okSteps s (stepsOf s ⟨k, a, v, cc, tt⟩) = ys := ⟨_, rfl⟩
    have hyl : ys.length ≤ 8 := by rw [← hys]; exact okSteps_len _
    have HYS := Lib.hid hys
    have HSL := Lib.hid HSM.out.len
    have HPL := Lib.hid HSM.out.pages
    clear hys
    have hvb : Below W0.heap.size W0 w1.drew := hB1.drew
    clear s0 s1 e0 e1 e2 e3 e4
    go_wp2
    refine wp_region_held_drew (S := fun X => X.cell? ⟨w.heap.size, 0, none⟩ = some (.slice A s.flash.length c) ∧ X.cell? ⟨w.heap.size, 1, none⟩ = some (.slice D s.disk.length d) ∧ X.cell? ⟨w.heap.size + 1, 0, none⟩ = some (.int .i64 k) ∧ X.cell? ⟨w.heap.size + 1, 1, none⟩ = some (.int .i64 a) ∧ X.cell? ⟨w.heap.size + 1, 2, none⟩ = some (.int .i64 v) ∧ X.cell? ⟨w.heap.size + 1, 3, none⟩ = some (.int .i64 cc) ∧ X.cell? ⟨w.heap.size + 1, 4, none⟩ = some (.bool tt)) (by kernel_rfl) (FX.out _ hvb).2.2 (fun hHeld0 => ?_)
    refine wpAnyH_take (i := 0) (v := ?va1) rfl (by kernel_rfl) (by kernel_rfl) (by kernel_rfl) (fun _ _ _ h => h) (Or.inl ⟨by kernel_rfl, ?ya1⟩) hHeld0 ?ra1
    case ya1 => (intro w' hS; (try dsimp only at hS); obtain ⟨s0, s1, s2, s3, s4, s5, s6⟩ := hS; (try go_simp); (try with_reducible rfl))
    try simp only [Act.put, List.getElem_toArray, List.getElem_cons_zero, List.getElem_cons_succ, List.setIfInBounds_toArray, List.set_cons_zero, List.set_cons_succ]
    refine wpAnyH_take (i := 2) (v := ?va2) rfl (by kernel_rfl) (by kernel_rfl) (by kernel_rfl) (fun _ _ _ h => h) (Or.inl ⟨by kernel_rfl, ?ya2⟩) hHeld0 ?ra2
    case ya2 => (intro w' hS; (try dsimp only at hS); obtain ⟨s0, s1, s2, s3, s4, s5, s6⟩ := hS; (try go_simp); (try with_reducible rfl))
    try simp only [Act.put, List.getElem_toArray, List.getElem_cons_zero, List.getElem_cons_succ, List.setIfInBounds_toArray, List.set_cons_zero, List.set_cons_succ]
    refine wpAnyH_ready (rs := [1]) (by kernel_rfl) (by simp) ?_
    refine AllReadyH.cons rfl (fun K hK => ?_) AllReadyH.nil
    go_simp
    refine (laws_toStore A D c d s.flash s.disk hs _ HSM.out.1 HSM.out.2 HDM.out (FX.out _ hvb).1 (FX.out _ hvb).2.1).mono ?_
    rintro e au1 ⟨A0, D0, rfl, hO0, hc⟩
    have ab1 := hvb.trans (hc.mono hvb.size)
    clear hc
    go_wp2_with fail
    refine hK.out _ _ ((FX.out _ ab1).2.2) (fun hHa1 => ?_)
    clear hK K
    try simp only [Act.put, List.getElem_toArray, List.getElem_cons_zero, List.getElem_cons_succ, List.setIfInBounds_toArray, List.set_cons_zero, List.set_cons_succ]
    refine wpAnyH_ready (rs := [3]) (by kernel_rfl) (by simp) ?_
    refine AllReadyH.cons rfl (fun K hK => ?_) AllReadyH.nil
    go_simp
    refine (laws_toEvent k a v cc tt _).mono ?_
    rintro e au2 ⟨rfl, hc⟩
    have ab2 := ab1.trans (hc.mono ab1.size)
    replace hO0 := hO0.below hc (Nat.le_refl _)
    clear hc
    go_wp2_with fail
    refine hK.out _ _ ((FX.out _ ab2).2.2) (fun hHa2 => ?_)
    clear hK K
    try simp only [Act.put, List.getElem_toArray, List.getElem_cons_zero, List.getElem_cons_succ, List.setIfInBounds_toArray, List.set_cons_zero, List.set_cons_succ]
    refine wpAnyH_ready (rs := [4]) (by kernel_rfl) (by simp) ?_
    refine AllReadyH.cons rfl (fun K hK => ?_) AllReadyH.nil
    go_simp
    refine (spec_PlaySteps_x HYS.out A0 D0 _ _ _ _ _ rfl rfl HSL.out hO0.ofl.fl hO0.disk).mono ?_
    rintro e au3 ⟨V0, v0, rfl, hV0, hV0c, _, hc⟩
    have ab3 := ab2.trans (hc.mono ab2.size)
    replace hO0 := hO0.below hc (Nat.le_refl _)
    clear hc
    go_wp2_with fail
    refine hK.out _ _ ((FX.out _ ab3).2.2) (fun hHa3 => ?_)
    clear hK K
    try simp only [Act.put, List.getElem_toArray, List.getElem_cons_zero, List.getElem_cons_succ, List.setIfInBounds_toArray, List.set_cons_zero, List.set_cons_succ]
    refine wpAnyH_take (i := 5) (v := ?va3) rfl (by kernel_rfl) (by kernel_rfl) (by kernel_rfl) (fun _ _ _ h => h) (Or.inl ⟨by kernel_rfl, ?ya3⟩) hHa3 ?ra3
    case ya3 => (intro w' hS; (try dsimp only at hS); obtain ⟨s0, s1, s2, s3, s4, s5, s6⟩ := hS; (try go_simp); (try with_reducible rfl))
    try simp only [Act.put, List.getElem_toArray, List.getElem_cons_zero, List.getElem_cons_succ, List.setIfInBounds_toArray, List.set_cons_zero, List.set_cons_succ]
    refine wpAnyH_done (by kernel_rfl) ?_ _
    have hBa := ab3
    obtain ⟨_, _, s0, s1, e0, e1, e2, e3, e4⟩ := FX.out _ hBa
    have hsa : W0.heap.size ≤ au3.heap.size := hBa.size
    have hV0b : ∀ b, blk V0 b → b < au3.heap.size := fun b hb => (hV0c b hb).2
    clear hV0c
    go_wp2_with fail
    refine (laws_toStore A D c d s.flash s.disk hs _ HSM.out.1 HSM.out.2 HDM.out (FX.out _ hBa).1 (FX.out _ hBa).2.1).mono ?_
    rintro e w6 ⟨A1, D1, rfl, hO1, hb⟩
    have hs6 := hb.size
    have hB6 := hBa.trans (hb.mono hBa.size)
    replace hV0 := hV0.below hb (Nat.le_refl _)
    obtain ⟨_, _, s0, s1, e0, e1, e2, e3, e4⟩ := FX.out _ hB6
    clear hb hBa
    have hHbx := Held.new w6 (c := s.flash.length) (d := s.disk.length) hO1.ofl.fl hO1.disk rfl rfl
    replace hV0 := hV0.below ((Below.refl w6.heap.size w6).alloc (Nat.le_refl _) (.cells #[.slice A1 s.flash.length s.flash.length, .slice D1 s.disk.length s.disk.length] 26)) (Nat.le_refl _)
    replace hO1 := hO1.below ((Below.refl w6.heap.size w6).alloc (Nat.le_refl _) (.cells #[.slice A1 s.flash.length s.flash.length, .slice D1 s.disk.length s.disk.length] 26)) (Nat.le_refl _)
    have hBW6 := hB6.alloc hB6.size (.cells #[.slice A1 s.flash.length s.flash.length, .slice D1 s.disk.length s.disk.length] 26)
    have hzW6 : (w6.alloc (.cells #[.slice A1 s.flash.length s.flash.length, .slice D1 s.disk.length s.disk.length] 26)).heap.size = w6.heap.size + 1 := by simp
    obtain ⟨W6, hEW6⟩ : ∃ W, w6.alloc (.cells #[.slice A1 s.flash.length s.flash.length, .slice D1 s.disk.length s.disk.length] 26) = W := ⟨_, rfl⟩
    obtain ⟨bx, hEbx⟩ : ∃ b, w6.heap.size = b := ⟨_, rfl⟩
    rw [hEW6] at hHbx hBW6 hzW6 hV0 hO1
    rw [hEbx] at hHbx hzW6
    have x0 := hHbx.x0
    have x1 := hHbx.x1
    clear hB6
    have hsw6 : w6.heap.size ≤ W6.heap.size := by omega
    have hvb : Below W0.heap.size W0 W6.drew := hBW6.drew
    have hx := Lib.hid (fun X (h : Below W6.drew.heap.size W6.drew X) => (⟨(hHbx.drew.below h (Nat.le_refl _)).x0, (hHbx.drew.below h (Nat.le_refl _)).x1⟩ : X.cell? ⟨bx, 0, none⟩ = some (.slice A1 s.flash.length s.flash.length) ∧ X.cell? ⟨bx, 1, none⟩ = some (.slice D1 s.disk.length s.disk.length)))
    have hvx : Below W6.drew.heap.size W6.drew W6.drew := Below.refl _ _
    have hV0' := hV0.drew
    have hO1' := hO1.drew
    clear hV0 hO1
    have hV0 := hV0'
    have hO1 := hO1'
    clear hV0' hO1' hHbx s0 s1 e0 e1 e2 e3 e4
    go_wp2
    refine wp_region_held_drew (S := fun X => X.cell? ⟨bx, 0, none⟩ = some (.slice A1 s.flash.length s.flash.length) ∧ X.cell? ⟨bx, 1, none⟩ = some (.slice D1 s.disk.length s.disk.length) ∧ X.cell? ⟨w.heap.size + 1, 0, none⟩ = some (.int .i64 k) ∧ X.cell? ⟨w.heap.size + 1, 1, none⟩ = some (.int .i64 a) ∧ X.cell? ⟨w.heap.size + 1, 2, none⟩ = some (.int .i64 v) ∧ X.cell? ⟨w.heap.size + 1, 3, none⟩ = some (.int .i64 cc) ∧ X.cell? ⟨w.heap.size + 1, 4, none⟩ = some (.bool tt)) (by kernel_rfl) ⟨(hx.out _ hvx).1, (hx.out _ hvx).2, (FX.out _ hvb).2.2.2.2⟩ (fun hHeld0 => ?_)
    refine wpAnyH_take (i := 0) (v := ?vb1) rfl (by kernel_rfl) (by kernel_rfl) (by kernel_rfl) (fun _ _ _ h => h) (Or.inl ⟨by kernel_rfl, ?yb1⟩) hHeld0 ?rb1
    case yb1 => (intro w' hS; (try dsimp only at hS); obtain ⟨s0, s1, s2, s3, s4, s5, s6⟩ := hS; (try go_simp); (try with_reducible rfl))
    try simp only [Act.put, List.getElem_toArray, List.getElem_cons_zero, List.getElem_cons_succ, List.setIfInBounds_toArray, List.set_cons_zero, List.set_cons_succ]
    refine wpAnyH_take (i := 1) (v := ?vb2) rfl (by kernel_rfl) (by kernel_rfl) (by kernel_rfl) (fun _ _ _ h => h) (Or.inl ⟨by kernel_rfl, ?yb2⟩) hHeld0 ?rb2
    case yb2 => (intro w' hS; (try dsimp only at hS); obtain ⟨s0, s1, s2, s3, s4, s5, s6⟩ := hS; (try go_simp); (try with_reducible rfl))
    try simp only [Act.put, List.getElem_toArray, List.getElem_cons_zero, List.getElem_cons_succ, List.setIfInBounds_toArray, List.set_cons_zero, List.set_cons_succ]
    refine wpAnyH_ready (rs := [2]) (by kernel_rfl) (by simp) ?_
    refine AllReadyH.cons rfl (fun K hK => ?_) AllReadyH.nil
    go_simp
    refine (laws_toEvent k a v cc tt _).mono ?_
    rintro e bu1 ⟨rfl, hc⟩
    have bb1 := hvb.trans (hc.mono hvb.size)
    replace hV0 := hV0.below hc (Nat.le_refl _)
    replace hO1 := hO1.below hc (Nat.le_refl _)
    have bx1 := hvx.trans (hc.mono hvx.size)
    clear hc
    go_wp2_with fail
    refine hK.out _ _ (⟨(hx.out _ bx1).1, (hx.out _ bx1).2, (FX.out _ bb1).2.2.2.2⟩) (fun hHb1 => ?_)
    clear hK K
    try simp only [Act.put, List.getElem_toArray, List.getElem_cons_zero, List.getElem_cons_succ, List.setIfInBounds_toArray, List.set_cons_zero, List.set_cons_succ]
    refine wpAnyH_ready (rs := [3]) (by kernel_rfl) (by simp) ?_
    refine AllReadyH.cons rfl (fun K hK => ?_) AllReadyH.nil
    go_simp
    refine (impl_PlaySteps_x HYS.out A1 D1 _ _ _ _ _ rfl rfl hO1.ofl.fl hO1.disk).mono ?_
    rintro e bu2 ⟨V1, v1, rfl, hV1, hV1b, _, hc⟩
    have bb2 := bb1.trans (hc.mono bb1.size)
    replace hV0 := hV0.below hc (Nat.le_refl _)
    replace hO1 := hO1.below hc (Nat.le_refl _)
    have bx2 := bx1.trans (hc.mono bx1.size)
    clear hc
    go_wp2_with fail
    refine hK.out _ _ (⟨(hx.out _ bx2).1, (hx.out _ bx2).2, (FX.out _ bb2).2.2.2.2⟩) (fun hHb2 => ?_)
    clear hK K
    try simp only [Act.put, List.getElem_toArray, List.getElem_cons_zero, List.getElem_cons_succ, List.setIfInBounds_toArray, List.set_cons_zero, List.set_cons_succ]
    refine wpAnyH_take (i := 4) (v := ?vb3) rfl (by kernel_rfl) (by kernel_rfl) (by kernel_rfl) (fun _ _ _ h => h) (Or.inl ⟨by kernel_rfl, ?yb3⟩) hHb2 ?rb3
    case yb3 => (intro w' hS; (try dsimp only at hS); obtain ⟨s0, s1, s2, s3, s4, s5, s6⟩ := hS; (try go_simp); (try with_reducible rfl))
    try simp only [Act.put, List.getElem_toArray, List.getElem_cons_zero, List.getElem_cons_succ, List.setIfInBounds_toArray, List.set_cons_zero, List.set_cons_succ]
    refine wpAnyH_done (by kernel_rfl) ?_ _
    have hBb := bb2
    have hsb1 : W6.heap.size ≤ bu1.heap.size := bx1.size
    have hxb := Lib.hid (fun X (h : Below W6.drew.heap.size W6.drew X) => (⟨(hx.out X h).1, (hx.out X h).2⟩ : X.cell? ⟨bx, 0, none⟩ = some (.slice A1 s.flash.length s.flash.length) ∧ X.cell? ⟨bx, 1, none⟩ = some (.slice D1 s.disk.length s.disk.length)))
    replace x0 := (hx.out _ bx2).1
    replace x1 := (hx.out _ bx2).2
    have hXB := bx2
    obtain ⟨_, _, s0, s1, e0, e1, e2, e3, e4⟩ := FX.out _ hBb
    go_wp2_with fail
    refine (laws_eqStepS V1 V0 _ _ v1 v0 ys ys _ rfl rfl (by omega) (by omega) hV1 hV0).mono ?_
    rintro e w8 ⟨rfl, hb⟩
    rw [show decide (ys = ys) = true from by simp]
    have hs8 := hb.size
    have hB8 := hBb.trans (hb.mono hBb.size)
    have hX8 := hXB.trans (hb.mono hXB.size)
    replace hV0 := hV0.below hb (Nat.le_refl _)
    replace hV1 := hV1.below hb (Nat.le_refl _)
    replace hO1 := hO1.below hb (Nat.le_refl _)
    clear hb hBb hXB hxb
    have hvb : Below W0.heap.size W0 w8.drew := hB8.drew
    have hvx : Below W6.drew.heap.size W6.drew w8.drew := hX8.drew
    have hV0' := hV0.drew
    have hV1' := hV1.drew
    have hO1' := hO1.drew
    clear hV0 hV1 hO1
    have hV0 := hV0'
    have hV1 := hV1'
    have hO1 := hO1'
    clear hV0' hV1' hO1' s0 s1 e0 e1 e2 e3 e4 x0 x1
    go_wp2
    refine wp_region_held_drew (S := fun X => X.cell? ⟨bx, 0, none⟩ = some (.slice A1 s.flash.length s.flash.length) ∧ X.cell? ⟨bx, 1, none⟩ = some (.slice D1 s.disk.length s.disk.length) ∧ X.cell? ⟨w.heap.size, 0, none⟩ = some (.slice A s.flash.length c) ∧ X.cell? ⟨w.heap.size, 1, none⟩ = some (.slice D s.disk.length d)) (by kernel_rfl) ⟨(hx.out _ hvx).1, (hx.out _ hvx).2, (FX.out _ hvb).2.2.1, (FX.out _ hvb).2.2.2.1⟩ (fun hHeld0 => ?_)
    refine wpAnyH_take (i := 0) (v := ?vc1) rfl (by kernel_rfl) (by kernel_rfl) (by kernel_rfl) (fun _ _ _ h => h) (Or.inl ⟨by kernel_rfl, ?yc1⟩) hHeld0 ?rc1
    case yc1 => (intro w' hS; (try dsimp only at hS); obtain ⟨s0, s1, s2, s3⟩ := hS; (try go_simp); (try with_reducible rfl))
    try simp only [Act.put, List.getElem_toArray, List.getElem_cons_zero, List.getElem_cons_succ, List.setIfInBounds_toArray, List.set_cons_zero, List.set_cons_succ]
    refine wpAnyH_take (i := 1) (v := ?vc2) rfl (by kernel_rfl) (by kernel_rfl) (by kernel_rfl) (fun _ _ _ h => h) (Or.inl ⟨by kernel_rfl, ?yc2⟩) hHeld0 ?rc2
    case yc2 => (intro w' hS; (try dsimp only at hS); obtain ⟨s0, s1, s2, s3⟩ := hS; (try go_simp); (try with_reducible rfl))
    try simp only [Act.put, List.getElem_toArray, List.getElem_cons_zero, List.getElem_cons_succ, List.setIfInBounds_toArray, List.set_cons_zero, List.set_cons_succ]
    refine wpAnyH_ready (rs := [2]) (by kernel_rfl) (by simp) ?_
    refine AllReadyH.cons rfl (fun K hK => ?_) AllReadyH.nil
    go_simp
    refine (laws_toStore A D c d s.flash s.disk hs _ HSM.out.1 HSM.out.2 HDM.out (FX.out _ hvb).1 (FX.out _ hvb).2.1).mono ?_
    rintro e cu1 ⟨A2, D2, rfl, hO2, hc⟩
    have cb1 := hvb.trans (hc.mono hvb.size)
    replace hV0 := hV0.below hc (Nat.le_refl _)
    replace hV1 := hV1.below hc (Nat.le_refl _)
    replace hO1 := hO1.below hc (Nat.le_refl _)
    have cx1 := hvx.trans (hc.mono hvx.size)
    clear hc
    go_wp2_with fail
    refine hK.out _ _ (⟨(hx.out _ cx1).1, (hx.out _ cx1).2, (FX.out _ cb1).2.2.1, (FX.out _ cb1).2.2.2.1⟩) (fun hHc1 => ?_)
    clear hK K
    try simp only [Act.put, List.getElem_toArray, List.getElem_cons_zero, List.getElem_cons_succ, List.setIfInBounds_toArray, List.set_cons_zero, List.set_cons_succ]
    refine wpAnyH_ready (rs := [3]) (by kernel_rfl) (by simp) ?_
    refine AllReadyH.cons rfl (fun K hK => ?_) AllReadyH.nil
    go_simp
    refine (laws_eqStore A1 A2 D1 D2 _ _ _ _ _ _ _ _ s.flash s.flash s.disk s.disk _ rfl rfl rfl rfl HSL.out HSL.out HPL.out HPL.out (by have := HDM.out; omega) (by have := HDM.out; omega) hO1.ofl.fl hO2.ofl.fl hO1.disk hO2.disk).mono ?_
    rintro e cu2 ⟨he, hc⟩
    have cb2 := cb1.trans (hc.mono cb1.size)
    rw [show (decide (s.flash = s.flash) && decide (s.disk = s.disk)) = true from by simp] at he
    subst he
    replace hV0 := hV0.below hc (Nat.le_refl _)
    replace hV1 := hV1.below hc (Nat.le_refl _)
    replace hO1 := hO1.below hc (Nat.le_refl _)
    replace hO2 := hO2.below hc (Nat.le_refl _)
    have cx2 := cx1.trans (hc.mono cx1.size)
    clear hc
    go_wp2_with fail
    refine hK.out _ _ (⟨(hx.out _ cx2).1, (hx.out _ cx2).2, (FX.out _ cb2).2.2.1, (FX.out _ cb2).2.2.2.1⟩) (fun hHc2 => ?_)
    clear hK K
    try simp only [Act.put, List.getElem_toArray, List.getElem_cons_zero, List.getElem_cons_succ, List.setIfInBounds_toArray, List.set_cons_zero, List.set_cons_succ]
    refine wpAnyH_take (i := 4) (v := ?vc3) rfl (by kernel_rfl) (by kernel_rfl) (by kernel_rfl) (fun _ _ _ h => h) (Or.inl ⟨by kernel_rfl, ?yc3⟩) hHc2 ?rc3
    case yc3 => (intro w' hS; (try dsimp only at hS); obtain ⟨s0, s1, s2, s3⟩ := hS; (try go_simp); (try with_reducible rfl))
    try simp only [Act.put, List.getElem_toArray, List.getElem_cons_zero, List.getElem_cons_succ, List.setIfInBounds_toArray, List.set_cons_zero, List.set_cons_succ]
    refine wpAnyH_done (by kernel_rfl) ?_ _
    have hBc := cb2
    have hsc := cb2.size
    have hsx : W6.heap.size ≤ cu2.heap.size := cx2.size
    have HE := Lib.hid (HSM.out.end2 HDM.out)
    have HGE := endFl_ge s.flash 1
    replace x0 := (hx.out _ cx2).1
    replace x1 := (hx.out _ cx2).2
    go_wp2_with fail
    refine (laws_markStore A1 D1 _ _ _ _ s.flash s.disk 1 au3.heap.size w6.heap.size _ rfl rfl HSL.out HPL.out (by have := HDM.out; omega) (by omega) HE.out (by have := hsw6; omega) hO1).mono ?_
    rintro e w13 ⟨rfl, _, hA⟩
    have hs13 := hA.size
    have hB13 := hBc.trans (hA.below (B := W0.heap.size) hsc (fun i hi => by omega))
    replace hV0 := hV0.agr hA (fun b hb e => by have := hV0b b hb; omega)
    replace hV1 := hV1.agr hA (fun b hb e => by have := hV1b b hb; omega)
    have hk0 : ¬ (endFl 1 s.flash + (s.disk.length : Int) < 0) := by omega
    clear hA hO1 hBc x0 x1 hx
    go_wp2_with fail
    refine (laws_eqStepS V1 V0 _ _ v1 v0 ys ys _ rfl rfl (by omega) (by omega) hV1 hV0).mono ?_
    rintro e w14 ⟨rfl, hb⟩
    rw [show decide (ys = ys) = true from by simp]
    have hs14 := hb.size
    have hB14 := hB13.trans (hb.mono hB13.size)
    replace hV0 := hV0.below hb (Nat.le_refl _)
    replace hV1 := hV1.below hb (Nat.le_refl _)
    obtain ⟨_, _, s0, s1, e0, e1, e2, e3, e4⟩ := FX.out _ hB14
    clear hb hB13
    go_wp2_with fail
    refine (laws_markStepS V1 _ v1 ys 1 _ rfl (by omega) (by omega) (by omega) hV1).mono ?_
    rintro e w17 ⟨rfl, hM1, hA⟩
    have hs17 := hA.size
    have hs14' := hB14.size
    have hB17 := hB14.trans (hA.below (B := W0.heap.size) hs14' (fun i hi => by have := hV1b i hi; omega))
    replace hV0 := hV0.agr hA (fun b hb e => by have := hV0b b hb; have := hV1b b e; omega)
    clear hA hV1 hB14
    have hq0 : ¬ ((1 : Int) + 8 * (ys.length : Int) < 0) := by omega
    go_wp2_with fail
    refine (laws_heldStepS V1 _ v1 ys 1 _ rfl (by omega) (by omega) (by omega) hM1).mono ?_
    rintro e w19 ⟨rfl, rfl⟩
    have hvb : Below W0.heap.size W0 w17.drew := hB17.drew
    have hV0' := hV0.drew
    have hM1' := hM1.drew
    clear hV0 hM1
    have hV0 := hV0'
    have hM1 := hM1'
    clear hV0' hM1'
    clear s0 s1 e0 e1 e2 e3 e4
    go_wp2
    refine wp_region_held_drew (S := fun X => X.cell? ⟨w.heap.size, 0, none⟩ = some (.slice A s.flash.length c) ∧ X.cell? ⟨w.heap.size, 1, none⟩ = some (.slice D s.disk.length d) ∧ X.cell? ⟨w.heap.size + 1, 0, none⟩ = some (.int .i64 k) ∧ X.cell? ⟨w.heap.size + 1, 1, none⟩ = some (.int .i64 a) ∧ X.cell? ⟨w.heap.size + 1, 2, none⟩ = some (.int .i64 v) ∧ X.cell? ⟨w.heap.size + 1, 3, none⟩ = some (.int .i64 cc) ∧ X.cell? ⟨w.heap.size + 1, 4, none⟩ = some (.bool tt)) (by kernel_rfl) (FX.out _ hvb).2.2 (fun hHeld0 => ?_)
    refine wpAnyH_take (i := 0) (v := ?vd1) rfl (by kernel_rfl) (by kernel_rfl) (by kernel_rfl) (fun _ _ _ h => h) (Or.inl ⟨by kernel_rfl, ?yd1⟩) hHeld0 ?rd1
    case yd1 => (intro w' hS; (try dsimp only at hS); obtain ⟨s0, s1, s2, s3, s4, s5, s6⟩ := hS; (try go_simp); (try with_reducible rfl))
    try simp only [Act.put, List.getElem_toArray, List.getElem_cons_zero, List.getElem_cons_succ, List.setIfInBounds_toArray, List.set_cons_zero, List.set_cons_succ]
    refine wpAnyH_take (i := 2) (v := ?vd2) rfl (by kernel_rfl) (by kernel_rfl) (by kernel_rfl) (fun _ _ _ h => h) (Or.inl ⟨by kernel_rfl, ?yd2⟩) hHeld0 ?rd2
    case yd2 => (intro w' hS; (try dsimp only at hS); obtain ⟨s0, s1, s2, s3, s4, s5, s6⟩ := hS; (try go_simp); (try with_reducible rfl))
    try simp only [Act.put, List.getElem_toArray, List.getElem_cons_zero, List.getElem_cons_succ, List.setIfInBounds_toArray, List.set_cons_zero, List.set_cons_succ]
    refine wpAnyH_ready (rs := [1]) (by kernel_rfl) (by simp) ?_
    refine AllReadyH.cons rfl (fun K hK => ?_) AllReadyH.nil
    go_simp
    refine (laws_toStore A D c d s.flash s.disk hs _ HSM.out.1 HSM.out.2 HDM.out (FX.out _ hvb).1 (FX.out _ hvb).2.1).mono ?_
    rintro e du1 ⟨A3, D3, rfl, hO3, hc⟩
    have db1 := hvb.trans (hc.mono hvb.size)
    replace hV0 := hV0.below hc (Nat.le_refl _)
    replace hM1 := hM1.below hc (Nat.le_refl _)
    clear hc
    go_wp2_with fail
    refine hK.out _ _ ((FX.out _ db1).2.2) (fun hHd1 => ?_)
    clear hK K
    try simp only [Act.put, List.getElem_toArray, List.getElem_cons_zero, List.getElem_cons_succ, List.setIfInBounds_toArray, List.set_cons_zero, List.set_cons_succ]
    refine wpAnyH_ready (rs := [3]) (by kernel_rfl) (by simp) ?_
    refine AllReadyH.cons rfl (fun K hK => ?_) AllReadyH.nil
    go_simp
    refine (laws_toEvent k a v cc tt _).mono ?_
    rintro e du2 ⟨rfl, hc⟩
    have db2 := db1.trans (hc.mono db1.size)
    replace hV0 := hV0.below hc (Nat.le_refl _)
    replace hM1 := hM1.below hc (Nat.le_refl _)
    replace hO3 := hO3.below hc (Nat.le_refl _)
    clear hc
    go_wp2_with fail
    refine hK.out _ _ ((FX.out _ db2).2.2) (fun hHd2 => ?_)
    clear hK K
    try simp only [Act.put, List.getElem_toArray, List.getElem_cons_zero, List.getElem_cons_succ, List.setIfInBounds_toArray, List.set_cons_zero, List.set_cons_succ]
    refine wpAnyH_ready (rs := [4]) (by kernel_rfl) (by simp) ?_
    refine AllReadyH.cons rfl (fun K hK => ?_) AllReadyH.nil
    go_simp
    refine (impl_PlaySteps_x HYS.out A3 D3 _ _ _ _ _ rfl rfl hO3.ofl.fl hO3.disk).mono ?_
    rintro e du3 ⟨V3, v3, rfl, hV3, _, _, hc⟩
    have db3 := db2.trans (hc.mono db2.size)
    replace hV0 := hV0.below hc (Nat.le_refl _)
    replace hM1 := hM1.below hc (Nat.le_refl _)
    replace hO3 := hO3.below hc (Nat.le_refl _)
    clear hc
    go_wp2_with fail
    refine hK.out _ _ ((FX.out _ db3).2.2) (fun hHd3 => ?_)
    clear hK K
    try simp only [Act.put, List.getElem_toArray, List.getElem_cons_zero, List.getElem_cons_succ, List.setIfInBounds_toArray, List.set_cons_zero, List.set_cons_succ]
    refine wpAnyH_take (i := 5) (v := ?vd3) rfl (by kernel_rfl) (by kernel_rfl) (by kernel_rfl) (fun _ _ _ h => h) (Or.inl ⟨by kernel_rfl, ?yd3⟩) hHd3 ?rd3
    case yd3 => (intro w' hS; (try dsimp only at hS); obtain ⟨s0, s1, s2, s3, s4, s5, s6⟩ := hS; (try go_simp); (try with_reducible rfl))
    try simp only [Act.put, List.getElem_toArray, List.getElem_cons_zero, List.getElem_cons_succ, List.setIfInBounds_toArray, List.set_cons_zero, List.set_cons_succ]
    refine wpAnyH_done (by kernel_rfl) ?_ _
    have hBd := db3
    go_wp2_with fail
    refine (laws_eqStepS V3 V0 _ _ v3 v0 ys ys _ rfl rfl (by omega) (by omega) hV3 hV0).mono ?_
    rintro e w25 ⟨rfl, hb⟩
    rw [show decide (ys = ys) = true from by simp]
    have hs25 := hb.size
    have hB25 := hBd.trans (hb.mono hBd.size)
    replace hM1 := hM1.below hb (Nat.le_refl _)
    obtain ⟨_, _, s0, s1, e0, e1, e2, e3, e4⟩ := FX.out _ hB25
    clear hb hBd
    go_wp2_with fail
    refine (laws_heldStepS V1 _ v1 ys 1 _ rfl (by omega) (by omega) (by omega) hM1).mono ?_
    rintro e w28 ⟨rfl, rfl⟩
    have hBf := hb0.trans (hB25.mono hb0.size)
    go_wp2
    go_ret
    exact ⟨rfl, hBf⟩
end Go.Proofs.Ytbekihiiildgmaa
