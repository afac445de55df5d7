/- What the laws' walks share: words, plain laws, and the walks of functions, part 9. -/
import Derived.Below
import Derived.ChangeSame
import Derived.WalkKit
import Derived.ProofKit
import Derived.Carry
import Derived.Test.YtbekihiiildgmaaProg
import Derived.Deep.Slices
import Derived.ChangeSlices
import Derived.ChangeArms
import Derived.Test.YtbekihiiildgmaaX8
namespace Go.Proofs.Ytbekihiiildgmaa
set_option linter.unusedVariables false
set_option linter.unusedSimpArgs false
open Go.RowKit Go.Maps
set_option maxHeartbeats 4000000
set_option maxRecDepth 100000
theorem okSteps_len {s : St} (e : Ev) : (okSteps s (stepsOf s e)).length ≤ 8 := by
  unfold okSteps
  split
  · rename_i h; exact stepsOf_len (storeOk_iff.1 h).fine e
  · simp
theorem StoreD.one {w W Y : World} {lo hi : Nat} {A D : Option Addr} {s : St} (hs : stSmall s) (hO : OSt W lo hi A s.flash D s.disk) (hB : Below w.heap.size w W) (hlo : w.heap.size + 1 ≤ lo) (hhi : hi ≤ W.heap.size) (hG : Agr (· = w.heap.size) W Y) : StoreD w Y A D s :=
  ⟨hs, (hO.agr hG (fun b h1 h2 h3 => by omega)).mono (by omega) (by have := hG.size; omega), hB.trans (hG.below (B := w.heap.size) hB.size (fun i hi => by omega))⟩
theorem spec_DrawStepsTo (A : Option Addr) (bs : List Nat) (c : Nat) (w : World) (hc : Code w A bs c) :
    Calls Try.prog 31 #[.slice A bs.length c] w (fun e w' => ∃ A2 D2 c2 d2 s V cs xs cut torn, e = .returned (.tuple #[.agg #[.slice A2 s.flash.length c2, .slice D2 s.disk.length d2], .slice V xs.length cs, .int .i64 cut, .bool torn]) ∧ xs.length ≤ 20 ∧ xs.length ≤ cs ∧ (-9 ≤ cut ∧ cut ≤ 30) ∧ Row w' V (sps xs) ∧ (∀ b, blk V b → w.heap.size ≤ b ∧ b < w'.heap.size) ∧ StoreD w w' A2 D2 s) := by
  have hq := Row.new w #[.slice none 0 0, .slice none 0 0] 26
  obtain ⟨q0, f0⟩ := hq.at0 (j := 0) rfl
  obtain ⟨q1, f1⟩ := hq.at0 (j := 1) rfl
  obtain ⟨W0, hW0⟩ : ∃ W, w.alloc (.cells #[.slice none 0 0, .slice none 0 0] 26) = W := ⟨_, rfl⟩
  have hs0 : W0.heap.size = w.heap.size + 1 := by rw [← hW0]; simp
  have hB0 : Below w.heap.size w W0 := by rw [← hW0]; (repeat (first | (with_reducible exact Below.refl _ _) | (with_reducible assumption) | (refine Below.setCell ?_ (by first | omega | exact hB.size | exact hb.size | (have h := hB.size; simp; omega) | (have h := hb.size; simp; omega) | (simp; omega) | simp) _) | (refine Below.alloc ?_ (by first | omega | exact hB.size | exact hb.size | (have h := hB.size; simp; omega) | (have h := hb.size; simp; omega) | (simp; omega) | simp) _) | (refine Below.drew ?_)))
  have hrow := hc.row.alloc (.cells #[.slice none 0 0, .slice none 0 0] 26)
  rw [hW0] at q0 q1 f0 f1 hrow
  clear hq
  go_enter Try.func31, Try.ntmps31
  go_wp2_with fail
  (try rw [hW0])
  refine (spec_l6Open A bs c _ hc.len hc.cap hc.byte hrow).mono ?_
  rintro e w1 ⟨rfl, hR1, hb1⟩
  rw [hs0] at hb1 hR1
  have hs1 := hb1.size
  rw [hs0] at hs1
  replace q0 := (hb1.cell (p := ⟨w.heap.size, 0, none⟩) (by show w.heap.size < _; omega)).trans q0
  replace q1 := (hb1.cell (p := ⟨w.heap.size, 1, none⟩) (by show w.heap.size < _; omega)).trans q1
  replace f0 := (hb1.frozen (p := ⟨w.heap.size, 0, none⟩) (by show w.heap.size < _; omega)).trans f0
  replace f1 := (hb1.frozen (p := ⟨w.heap.size, 1, none⟩) (by show w.heap.size < _; omega)).trans f1
  have hB1 := hB0.trans (hb1.mono (by omega))
  have hRl := hR1.lt
  clear hb1 hB0 hrow
  (try simp only [hs0])
  clear hs0
  go_wp2_with fail
  refine (spec_l71Full _ _ 0 _ (by omega) hR1).mono ?_
  rintro e w2 ⟨A2, D2, c2, d2, s, rfl, hsm, hO, hR, hA⟩
  have hs2 := hA.size
  have HS := Lib.hid hsm
  clear hsm hR1
  obtain ⟨q0, q1, f0, f1⟩ := agr_cells hA (b := w.heap.size) (by omega) (by omega) q0 q1 f0 f1
  have hB2 := hB1.trans (hA.below (B := w.heap.size) (by omega) (fun i hi => by omega))
  clear hA hB1
  replace hO : OSt w2 (w.heap.size + 1 + 1) w2.heap.size A2 s.flash D2 s.disk := hO.mono (by omega) (Nat.le_refl _)
  have hx := Row.new w2 #[.slice A2 s.flash.length c2, .slice D2 s.disk.length d2] 26
  obtain ⟨W, hW⟩ : ∃ W, w2.alloc (.cells #[.slice A2 s.flash.length c2, .slice D2 s.disk.length d2] 26) = W := ⟨_, rfl⟩
  obtain ⟨bx, hbx⟩ : ∃ b, w2.heap.size = b := ⟨_, rfl⟩
  rw [hW] at hx
  obtain ⟨x0, y0⟩ := hx.at0 (j := 0) rfl
  obtain ⟨x1, y1⟩ := hx.at0 (j := 1) rfl
  have hb : Below w2.heap.size w2 W := by rw [← hW]; (repeat (first | (with_reducible exact Below.refl _ _) | (with_reducible assumption) | (refine Below.setCell ?_ (by first | omega | exact hB.size | exact hb.size | (have h := hB.size; simp; omega) | (have h := hb.size; simp; omega) | (simp; omega) | simp) _) | (refine Below.alloc ?_ (by first | omega | exact hB.size | exact hb.size | (have h := hB.size; simp; omega) | (have h := hb.size; simp; omega) | (simp; omega) | simp) _) | (refine Below.drew ?_)))
  have hsW : W.heap.size = w2.heap.size + 1 := by rw [← hW]; simp
  obtain ⟨q0, q1, f0, f1⟩ := four_cells hb (b := w.heap.size) (by omega) q0 q1 f0 f1
  have hBW := hB2.trans (hb.mono (by omega))
  replace hO := hO.below hb (Nat.le_refl _)
  replace hR := hR.below hb (Nat.le_refl _)
  rw [hbx] at x0 x1 y0 y1 hO hsW hs2
  clear hx hb hB2
  have hsl : s.flash.length < 1000000000000 := by have := HS.out.1.1; omega
  have hzW : w.heap.size + 1 < W.heap.size := by omega
  have hq := Lib.hid (fun X (h : Agr (· = w.heap.size + 1) W.drew X) => agr_cells h (b := bx) (by show bx < W.heap.size; omega) (by omega) (w := W.drew) x0 x1 y0 y1)
  have hr := Lib.hid (fun X (h : Agr (· = w.heap.size + 1) W.drew X) => agr_cells h (b := w.heap.size) (by show w.heap.size < W.heap.size; omega) (by omega) (w := W.drew) q0 q1 f0 f1)
  have hOx := Lib.hid (fun X (h : Agr (· = w.heap.size + 1) W.drew X) => hO.drew.agr h (fun b h1 h2 h3 => by omega))
  have hBx := Lib.hid (fun X (h : Agr (· = w.heap.size + 1) W.drew X) => hBW.drew.trans (h.below (B := w.heap.size) (by show w.heap.size ≤ W.heap.size; omega) (fun i hi => by omega)))
  have hRx := hR.drew
  have hg0 : Agr (· = w.heap.size + 1) W.drew W.drew := Agr.refl _ _
  have HBX := Lib.hid hs2
  have HSW := Lib.hid hsW
  have HZW := Lib.hid hzW
  have hWd : W.drew.heap.size = W.heap.size := rfl
  clear hO hR hBW x0 x1 y0 y1 q0 q1 f0 f1
  go_wp2
  (try rw [hW])
  (try simp only [hbx])
  refine wp_region_held_drew (S := fun X => X.cell? ⟨bx, 0, none⟩ = some (.slice A2 s.flash.length c2) ∧ X.cell? ⟨bx, 1, none⟩ = some (.slice D2 s.disk.length d2)) (by kernel_rfl) ⟨(hq.out _ hg0).1, (hq.out _ hg0).2.1⟩ (fun hHeld0 => ?_)
  refine wpAnyH_take (i := 0) (v := ?ve1) rfl (by kernel_rfl) (by kernel_rfl) (by kernel_rfl) (fun _ _ _ h => h) (Or.inl ⟨by kernel_rfl, ?ye1⟩) hHeld0 ?re1
  case ye1 => (intro w' hS; (try dsimp only at hS); obtain ⟨s0, s1⟩ := hS; (try go_simp); (try with_reducible rfl))
  try simp only [Act.put, List.getElem_toArray, List.getElem_cons_zero, List.getElem_cons_succ, List.setIfInBounds_toArray, List.set_cons_zero, List.set_cons_succ]
  refine wpAnyH_take (i := 1) (v := ?ve2) rfl (by kernel_rfl) (by kernel_rfl) (by kernel_rfl) (fun _ _ _ h => h) (Or.inl ⟨by kernel_rfl, ?ye2⟩) hHeld0 ?re2
  case ye2 => (intro w' hS; (try dsimp only at hS); obtain ⟨s0, s1⟩ := hS; (try go_simp); (try with_reducible rfl))
  try simp only [Act.put, List.getElem_toArray, List.getElem_cons_zero, List.getElem_cons_succ, List.setIfInBounds_toArray, List.set_cons_zero, List.set_cons_succ]
  refine wpAnyH_ready (rs := [2]) (by kernel_rfl) (by simp) ?_
  refine AllReadyH.cons rfl (fun K hK => ?_) AllReadyH.nil
  go_simp
  refine (spec_l71Event _ _ (0 + 1250) _ (by omega) hRx).mono ?_
  rintro e w3 ⟨x, rfl, hxf, hR3, hc⟩
  have hg3 := hg0.trans hc (fun _ _ h => h)
  clear hc hxf
  go_wp2_with fail
  refine hK.out _ _ (⟨(hq.out _ hg3).1, (hq.out _ hg3).2.1⟩) (fun hHe1 => ?_)
  clear hK K
  try simp only [Act.put, List.getElem_toArray, List.getElem_cons_zero, List.getElem_cons_succ, List.setIfInBounds_toArray, List.set_cons_zero, List.set_cons_succ]
  refine wpAnyH_ready (rs := [3]) (by kernel_rfl) (by simp) ?_
  refine AllReadyH.cons rfl (fun K hK => ?_) AllReadyH.nil
  go_simp
  refine (spec_PlaySteps s x A2 D2 _ _ c2 d2 _ rfl rfl hsl (hOx.out _ hg3).ofl.fl (hOx.out _ hg3).disk).mono ?_
  rintro e w4 ⟨v, rfl, hOS, hc⟩
  obtain ⟨x0, x1, y0, y1⟩ := hq.out _ hg3
  obtain ⟨q0, q1, f0, f1⟩ := hr.out _ hg3
  have hO := hOx.out _ hg3
  have hB3 := hBx.out _ hg3
  have hs3 := hg3.size
  have hbs3 := lt_of_cell x0
  have hws3 := lt_of_cell q0
  have hs4 := hc.size
  obtain ⟨x0, x1, y0, y1⟩ := four_cells hc (b := bx) hbs3 x0 x1 y0 y1
  obtain ⟨q0, q1, f0, f1⟩ := four_cells hc (b := w.heap.size) hws3 q0 q1 f0 f1
  replace hO := hO.below hc (Nat.le_refl _)
  have hR := hR3.below hc (Nat.le_refl _)
  have hB4 := hB3.trans (hc.mono hB3.size)
  clear hc hR3 hB3
  go_wp2_with fail
  refine hK.out _ _ (⟨x0, x1⟩) (fun hHe2 => ?_)
  clear hK K
  try simp only [Act.put, List.getElem_toArray, List.getElem_cons_zero, List.getElem_cons_succ, List.setIfInBounds_toArray, List.set_cons_zero, List.set_cons_succ]
  refine wpAnyH_take (i := 4) (v := ?ve3) rfl (by kernel_rfl) (by kernel_rfl) (by kernel_rfl) (fun _ _ _ h => h) (Or.inl ⟨by kernel_rfl, ?ye3⟩) hHe2 ?re3
  case ye3 => (intro w' hS; (try dsimp only at hS); obtain ⟨s0, s1⟩ := hS; (try go_simp); (try with_reducible rfl))
  try simp only [Act.put, List.getElem_toArray, List.getElem_cons_zero, List.getElem_cons_succ, List.setIfInBounds_toArray, List.set_cons_zero, List.set_cons_succ]
  refine wpAnyH_done (by kernel_rfl) ?_ _
  have hW5 := HSW.out
  have hxl := okSteps_len (s := s) x
  generalize okSteps s (stepsOf s x) = xs at *
  replace hOS : OwnS w4 W.heap.size v xs := hOS.mono (by omega)
  have hz4 : W.heap.size ≤ w4.heap.size := by omega
  have hbx4 : w.heap.size + 1 < bx := by have := HBX.out; omega
  clear hq hr hOx hBx hRx hg0 hg3
  go_wp2_with fail
  refine (spec_pickI 12 12 _ _ (0 + 1250 + 7) _ rfl (by omega) (by omega) (by omega) hR).mono ?_
  rintro e w5 ⟨k5, rfl, hk5, hR, hA⟩
  have hs5 := hA.size
  obtain ⟨x0, x1, y0, y1⟩ := agr_cells hA (b := bx) (by omega) (by omega) x0 x1 y0 y1
  obtain ⟨q0, q1, f0, f1⟩ := agr_cells hA (b := w.heap.size) (by omega) (by omega) q0 q1 f0 f1
  have hB5 := hB4.trans (hA.below (B := w.heap.size) (by omega) (fun i hi => by omega))
  replace hO := hO.agr hA (fun b h1 h2 h3 => by omega)
  replace hOS := hOS.agr hA (by intro b h1 h2; omega)
  clear hA hB4
  by_cases h0 : k5 = 0
  · subst h0
    go_wp2_with fail
    refine (spec_pickI 4 4 _ _ (0 + 1250 + 7 + 1) _ rfl (by omega) (by omega) (by omega) hR).mono ?_
    rintro e w6 ⟨k6, rfl, hk6, hR, hA⟩
    have hs6 := hA.size
    obtain ⟨x0, x1, y0, y1⟩ := agr_cells hA (b := bx) (by omega) (by omega) x0 x1 y0 y1
    obtain ⟨q0, q1, f0, f1⟩ := agr_cells hA (b := w.heap.size) (by omega) (by omega) q0 q1 f0 f1
    have hB6 := hB5.trans (hA.below (B := w.heap.size) (by omega) (fun i hi => by omega))
    replace hO := hO.agr hA (fun b h1 h2 h3 => by omega)
    replace hOS := hOS.agr hA (by intro b h1 h2; omega)
    clear hA hB5
    have ek6 : IntKind.i64.wrap (1 + (k6 : Int)) = 1 + (k6 : Int) := IntWalk.i64_in _ (by omega)
    go_wp2_with fail
    refine (spec_pickI 6 6 _ _ (0 + 1250 + 7 + 1 + 1) _ rfl (by omega) (by omega) (by omega) hR).mono ?_
    rintro e w7 ⟨k7, rfl, hk7, hR, hA⟩
    have hs7 := hA.size
    obtain ⟨x0, x1, y0, y1⟩ := agr_cells hA (b := bx) (by omega) (by omega) x0 x1 y0 y1
    obtain ⟨q0, q1, f0, f1⟩ := agr_cells hA (b := w.heap.size) (by omega) (by omega) q0 q1 f0 f1
    have hB7 := hB6.trans (hA.below (B := w.heap.size) (by omega) (fun i hi => by omega))
    replace hO := hO.agr hA (fun b h1 h2 h3 => by omega)
    replace hOS := hOS.agr hA (by intro b h1 h2; omega)
    clear hA hB6
    have ek7 : IntKind.i64.wrap (1 + (k7 : Int)) = 1 + (k7 : Int) := IntWalk.i64_in _ (by omega)
    go_wp2_with fail
    refine (spec_pickI 10 10 _ _ (0 + 1250 + 7 + 1 + 1 + 1) _ rfl (by omega) (by omega) (by omega) hR).mono ?_
    rintro e w8 ⟨k8, rfl, hk8, hR, hA⟩
    have hs8 := hA.size
    obtain ⟨x0, x1, y0, y1⟩ := agr_cells hA (b := bx) (by omega) (by omega) x0 x1 y0 y1
    obtain ⟨q0, q1, f0, f1⟩ := agr_cells hA (b := w.heap.size) (by omega) (by omega) q0 q1 f0 f1
    have hB8 := hB7.trans (hA.below (B := w.heap.size) (by omega) (fun i hi => by omega))
    replace hO := hO.agr hA (fun b h1 h2 h3 => by omega)
    replace hOS := hOS.agr hA (by intro b h1 h2; omega)
    clear hA hB7
    have hb : Below w8.heap.size w8 (w8.alloc (.cells #[.int .i64 (1 + (k6 : Int)), .int .i64 (1 + (k7 : Int)), .int .i64 ((k8 : Int)), .int .i64 0, .int .i64 0, .int .i64 0, .int .i64 0, .int .i64 0] 47)) := by (repeat (first | (with_reducible exact Below.refl _ _) | (with_reducible assumption) | (refine Below.setCell ?_ (by first | omega | exact hB.size | exact hb.size | (have h := hB.size; simp; omega) | (have h := hb.size; simp; omega) | (simp; omega) | simp) _) | (refine Below.alloc ?_ (by first | omega | exact hB.size | exact hb.size | (have h := hB.size; simp; omega) | (have h := hb.size; simp; omega) | (simp; omega) | simp) _) | (refine Below.drew ?_)))
    have hOl := hOS.below hb (Nat.le_refl _)
    obtain ⟨x0, x1, y0, y1⟩ := four_cells hb (b := bx) (by omega) x0 x1 y0 y1
    obtain ⟨q0, q1, f0, f1⟩ := four_cells hb (b := w.heap.size) (by omega) q0 q1 f0 f1
    replace hO := hO.below hb (Nat.le_refl _)
    replace hR := hR.below hb (Nat.le_refl _)
    have hBl := hB8.trans (hb.mono (by omega))
    clear hb hOS hB8
    go_wp2_with (at_builtin; refine wpList_step rfl (.tmp 21) (.tmp 31) rfl W.heap.size v xs (⟨1 + (k6 : Int), 1 + (k7 : Int), (k8 : Int), 0, rc0⟩ : Sp) rfl hOl w8.heap.size 0 (xs.length + 1) 1 rfl rfl (Row.new w8 #[.int .i64 (1 + (k6 : Int)), .int .i64 (1 + (k7 : Int)), .int .i64 ((k8 : Int)), .int .i64 0, .int .i64 0, .int .i64 0, .int .i64 0, .int .i64 0] 47) (by omega) (by simp; omega) ?_; intro g9 c9 w9 hO9 hB9)
    have hzl : (w8.alloc (.cells #[.int .i64 (1 + (k6 : Int)), .int .i64 (1 + (k7 : Int)), .int .i64 ((k8 : Int)), .int .i64 0, .int .i64 0, .int .i64 0, .int .i64 0, .int .i64 0] 47)).heap.size = w8.heap.size + 1 := by simp
    have hs9 := hB9.size
    have hcl : ∀ b, b < W.heap.size → ∀ j, w9.cell? ⟨b, j, none⟩ = (w8.alloc (.cells #[.int .i64 (1 + (k6 : Int)), .int .i64 (1 + (k7 : Int)), .int .i64 ((k8 : Int)), .int .i64 0, .int .i64 0, .int .i64 0, .int .i64 0, .int .i64 0] 47)).cell? ⟨b, j, none⟩ := fun b hb j => hB9.cell (p := ⟨b, j, none⟩) hb
    have hfl : ∀ b, b < W.heap.size → ∀ j, w9.frozen? ⟨b, j, none⟩ = (w8.alloc (.cells #[.int .i64 (1 + (k6 : Int)), .int .i64 (1 + (k7 : Int)), .int .i64 ((k8 : Int)), .int .i64 0, .int .i64 0, .int .i64 0, .int .i64 0, .int .i64 0] 47)).frozen? ⟨b, j, none⟩ := fun b hb j => hB9.frozen (p := ⟨b, j, none⟩) hb
    replace x0 := (hcl bx (by omega) 0).trans x0
    replace x1 := (hcl bx (by omega) 1).trans x1
    replace y0 := (hfl bx (by omega) 0).trans y0
    replace y1 := (hfl bx (by omega) 1).trans y1
    replace q0 := (hcl w.heap.size (by omega) 0).trans q0
    replace q1 := (hcl w.heap.size (by omega) 1).trans q1
    replace f0 := (hfl w.heap.size (by omega) 0).trans f0
    replace f1 := (hfl w.heap.size (by omega) 1).trans f1
    replace hO := hO.keep fun b h1 h2 hl => hB9.block b (by omega)
    replace hR := hR.keep (w' := w9) fun b hb hl => hB9.block b (by omega)
    have hB9' := hBl.trans (hB9.mono (by omega))
    have hz9 := hB9'.size
    clear hcl hfl hB9 hBl hOl
    have hB9 := hB9'
    clear hB9'
    obtain ⟨_, _, e9, hcv, hRw, hbw⟩ := hO9.shape
    simp only [Value.slice.injEq] at e9
    obtain ⟨rfl, -, rfl⟩ := e9
    clear hO9
    have hzX : w.heap.size + 1 < w9.heap.size := by omega
    have hzY : bx < w9.heap.size := lt_of_cell x0
    have hWX : W.heap.size ≤ w9.heap.size := by omega
    have hq := Lib.hid (fun Y (h : Agr (· = w.heap.size + 1) w9.drew Y) => agr_cells h (b := bx) hzY (by omega) (w := w9.drew) x0 x1 y0 y1)
    have hr := Lib.hid (fun Y (h : Agr (· = w.heap.size + 1) w9.drew Y) => agr_cells h (b := w.heap.size) (by show w.heap.size < w9.heap.size; omega) (by omega) (w := w9.drew) q0 q1 f0 f1)
    have hOx := Lib.hid (fun Y (h : Agr (· = w.heap.size + 1) w9.drew Y) => hO.drew.agr h (fun b h1 h2 h3 => by omega))
    have hVx := Lib.hid (fun Y (h : Agr (· = w.heap.size + 1) w9.drew Y) => hRw.drew.agr h (fun b hb => by have := hbw b hb; omega))
    have hBx := Lib.hid (fun Y (h : Agr (· = w.heap.size + 1) w9.drew Y) => hB9.drew.trans (h.below (B := w.heap.size) (by show w.heap.size ≤ w9.heap.size; omega) (fun i hi => by omega)))
    have hRx := hR.drew
    have hg0 : Agr (· = w.heap.size + 1) w9.drew w9.drew := Agr.refl _ _
    have HVB := Lib.hid hbw
    have hXd : w9.drew.heap.size = w9.heap.size := rfl
    have en : IntKind.i64.wrap (((xs.length : Int) + 1) + 2) = ((xs.length : Int) + 1) + 2 := IntWalk.i64_in _ (by omega)
    clear hO hR hB9 hRw hbw
    go_wp2
    refine wp_region_held_drew (S := fun X => X.cell? ⟨bx, 0, none⟩ = some (.slice A2 s.flash.length c2) ∧ X.cell? ⟨bx, 1, none⟩ = some (.slice D2 s.disk.length d2)) (by kernel_rfl) ⟨(hq.out _ hg0).1, (hq.out _ hg0).2.1⟩ (fun hHeld0 => ?_)
    refine wpAnyH_take (i := 0) (v := ?va1) rfl (by kernel_rfl) (by kernel_rfl) (by kernel_rfl) (fun _ _ _ h => h) (Or.inl ⟨by kernel_rfl, ?ya1⟩) hHeld0 ?ra1
    case ya1 => (intro w' hS; (try dsimp only at hS); obtain ⟨s0, s1⟩ := hS; (try go_simp); (try with_reducible rfl))
    try simp only [Act.put, List.getElem_toArray, List.getElem_cons_zero, List.getElem_cons_succ, List.setIfInBounds_toArray, List.set_cons_zero, List.set_cons_succ]
    refine wpAnyH_take (i := 1) (v := ?va2) rfl (by kernel_rfl) (by kernel_rfl) (by kernel_rfl) (fun _ _ _ h => h) (Or.inl ⟨by kernel_rfl, ?ya2⟩) hHeld0 ?ra2
    case ya2 => (intro w' hS; (try dsimp only at hS); obtain ⟨s0, s1⟩ := hS; (try go_simp); (try with_reducible rfl))
    try simp only [Act.put, List.getElem_toArray, List.getElem_cons_zero, List.getElem_cons_succ, List.setIfInBounds_toArray, List.set_cons_zero, List.set_cons_succ]
    refine wpAnyH_take (i := 2) (v := ?va3) rfl (by kernel_rfl) (by kernel_rfl) (by kernel_rfl) (fun _ _ _ h => h) (Or.inl ⟨by kernel_rfl, ?ya3⟩) hHeld0 ?ra3
    case ya3 => (intro w' hS; (try dsimp only at hS); obtain ⟨s0, s1⟩ := hS; (try go_simp); (try with_reducible rfl))
    try simp only [Act.put, List.getElem_toArray, List.getElem_cons_zero, List.getElem_cons_succ, List.setIfInBounds_toArray, List.set_cons_zero, List.set_cons_succ]
    refine wpAnyH_take (i := 3) (v := ?va4) rfl (by kernel_rfl) (by kernel_rfl) (by kernel_rfl) (fun _ _ _ h => h) (Or.inl ⟨by kernel_rfl, ?ya4⟩) hHeld0 ?ra4
    case ya4 => (intro w' hS; (try dsimp only at hS); obtain ⟨s0, s1⟩ := hS; (try go_simp); (try with_reducible rfl))
    try simp only [Act.put, List.getElem_toArray, List.getElem_cons_zero, List.getElem_cons_succ, List.setIfInBounds_toArray, List.set_cons_zero, List.set_cons_succ]
    refine wpAnyH_take (i := 4) (v := ?va5) rfl (by kernel_rfl) (by kernel_rfl) (by kernel_rfl) (fun _ _ _ h => h) (Or.inl ⟨by kernel_rfl, ?ya5⟩) hHeld0 ?ra5
    case ya5 => (intro w' hS; (try dsimp only at hS); obtain ⟨s0, s1⟩ := hS; (try go_simp); (try with_reducible rfl))
    try simp only [Act.put, List.getElem_toArray, List.getElem_cons_zero, List.getElem_cons_succ, List.setIfInBounds_toArray, List.set_cons_zero, List.set_cons_succ]
    refine wpAnyH_take (i := 5) (v := ?va6) rfl (by kernel_rfl) (by kernel_rfl) (by kernel_rfl) (fun _ _ _ h => h) (Or.inl ⟨by kernel_rfl, ?ya6⟩) hHeld0 ?ra6
    case ya6 => (intro w' hS; (try dsimp only at hS); obtain ⟨s0, s1⟩ := hS; (try go_simp); (try with_reducible rfl))
    try simp only [Act.put, List.getElem_toArray, List.getElem_cons_zero, List.getElem_cons_succ, List.setIfInBounds_toArray, List.set_cons_zero, List.set_cons_succ]
    refine wpAnyH_take (i := 7) (v := ?va7) rfl (by kernel_rfl) (by kernel_rfl) (by kernel_rfl) (fun _ _ _ h => h) (Or.inl ⟨by kernel_rfl, ?ya7⟩) hHeld0 ?ra7
    case ya7 => (intro w' hS; (try dsimp only at hS); obtain ⟨s0, s1⟩ := hS; (try go_simp); (try with_reducible rfl))
    try simp only [Act.put, List.getElem_toArray, List.getElem_cons_zero, List.getElem_cons_succ, List.setIfInBounds_toArray, List.set_cons_zero, List.set_cons_succ]
    refine wpAnyH_take (i := 12) (v := ?va8) rfl (by kernel_rfl) (by kernel_rfl) (by kernel_rfl) (fun _ _ _ h => h) (Or.inl ⟨by kernel_rfl, ?ya8⟩) hHeld0 ?ra8
    case ya8 => (intro w' hS; (try dsimp only at hS); obtain ⟨s0, s1⟩ := hS; (try go_simp); (try with_reducible rfl))
    try simp only [Act.put, List.getElem_toArray, List.getElem_cons_zero, List.getElem_cons_succ, List.setIfInBounds_toArray, List.set_cons_zero, List.set_cons_succ]
    refine wpAnyH_ready (rs := [6]) (by kernel_rfl) (by simp) ?_
    refine AllReadyH.cons rfl (fun K hK => ?_) AllReadyH.nil
    go_simp
    refine (spec_pickI (xs.length + 1 + 2) (((xs.length : Int) + 1) + 2) _ _ (0 + 1250 + 7 + 1 + 1 + 1 + 1) _ (by omega) (by omega) (by omega) (by omega) hRx).mono ?_
    rintro e w10 ⟨k10, rfl, hk10, hRw10, hc⟩
    have hgw10 := hg0.trans hc (fun _ _ h => h)
    clear hc
    go_wp2_with fail
    refine hK.out _ _ (⟨(hq.out _ hgw10).1, (hq.out _ hgw10).2.1⟩) (fun hHa1 => ?_)
    clear hK K
    try simp only [Act.put, List.getElem_toArray, List.getElem_cons_zero, List.getElem_cons_succ, List.setIfInBounds_toArray, List.set_cons_zero, List.set_cons_succ]
    refine wpAnyH_ready (rs := [8]) (by kernel_rfl) (by simp) ?_
    refine AllReadyH.cons rfl (fun K hK => ?_) AllReadyH.nil
    go_simp
    refine (spec_pickI (24) (24) _ _ (0 + 1250 + 7 + 1 + 1 + 1 + 1 + 1) _ rfl (by omega) (by omega) (by omega) hRw10).mono ?_
    rintro e w11 ⟨k11, rfl, hk11, hRw11, hc⟩
    have hgw11 := hgw10.trans hc (fun _ _ h => h)
    have ek1 : IntKind.i64.wrap ((k11 : Int) / 23) = (k11 : Int) / 23 := IntWalk.i64_in _ (by omega)
    have ek2 : IntKind.i64.wrap ((k11 : Int) / 23 * 9) = (k11 : Int) / 23 * 9 := IntWalk.i64_in _ (by omega)
    have ek3 : IntKind.i64.wrap ((k10 : Int) - (k11 : Int) / 23 * 9) = (k10 : Int) - (k11 : Int) / 23 * 9 := IntWalk.i64_in _ (by omega)
    clear hc
    go_wp2_with fail
    refine hK.out _ _ (⟨(hq.out _ hgw11).1, (hq.out _ hgw11).2.1⟩) (fun hHa2 => ?_)
    clear hK K
    try simp only [Act.put, List.getElem_toArray, List.getElem_cons_zero, List.getElem_cons_succ, List.setIfInBounds_toArray, List.set_cons_zero, List.set_cons_succ]
    refine wpAnyH_take (i := 9) (v := ?va9) rfl (by kernel_rfl) (by kernel_rfl) (by kernel_rfl) (fun _ _ _ h => h) (Or.inl ⟨by kernel_rfl, ?ya9⟩) hHa2 ?ra9
    case ya9 => (intro w' hS; (try dsimp only at hS); obtain ⟨s0, s1⟩ := hS; (try go_simp); (try with_reducible rfl))
    try simp only [Act.put, List.getElem_toArray, List.getElem_cons_zero, List.getElem_cons_succ, List.setIfInBounds_toArray, List.set_cons_zero, List.set_cons_succ]
    refine wpAnyH_take (i := 10) (v := ?va10) rfl (by kernel_rfl) (by kernel_rfl) (by kernel_rfl) (fun _ _ _ h => h) (Or.inl ⟨by kernel_rfl, ?ya10⟩) hHa2 ?ra10
    case ya10 => (intro w' hS; (try dsimp only at hS); obtain ⟨s0, s1⟩ := hS; (try go_simp); (try with_reducible rfl))
    try simp only [Act.put, List.getElem_toArray, List.getElem_cons_zero, List.getElem_cons_succ, List.setIfInBounds_toArray, List.set_cons_zero, List.set_cons_succ]
    refine wpAnyH_take (i := 11) (v := ?va11) rfl (by kernel_rfl) (by kernel_rfl) (by kernel_rfl) (fun _ _ _ h => h) (Or.inl ⟨by kernel_rfl, ?ya11⟩) hHa2 ?ra11
    case ya11 => (intro w' hS; (try dsimp only at hS); obtain ⟨s0, s1⟩ := hS; (try go_simp); (try with_reducible rfl))
    try simp only [Act.put, List.getElem_toArray, List.getElem_cons_zero, List.getElem_cons_succ, List.setIfInBounds_toArray, List.set_cons_zero, List.set_cons_succ]
    refine wpAnyH_ready (rs := [13]) (by kernel_rfl) (by simp) ?_
    refine AllReadyH.cons rfl (fun K hK => ?_) AllReadyH.nil
    go_simp
    refine (spec_pickI (2) (2) _ _ (0 + 1250 + 7 + 1 + 1 + 1 + 1 + 1 + 1) _ rfl (by omega) (by omega) (by omega) hRw11).mono ?_
    rintro e w12 ⟨k12, rfl, hk12, hRw12, hc⟩
    have hgw12 := hgw11.trans hc (fun _ _ h => h)
    clear hc
    go_wp2_with fail
    refine hK.out _ _ (⟨(hq.out _ hgw12).1, (hq.out _ hgw12).2.1⟩) (fun hHa3 => ?_)
    clear hK K
    try simp only [Act.put, List.getElem_toArray, List.getElem_cons_zero, List.getElem_cons_succ, List.setIfInBounds_toArray, List.set_cons_zero, List.set_cons_succ]
    refine wpAnyH_take (i := 14) (v := ?va12) rfl (by kernel_rfl) (by kernel_rfl) (by kernel_rfl) (fun _ _ _ h => h) (Or.inl ⟨by kernel_rfl, ?ya12⟩) hHa3 ?ra12
    case ya12 => (intro w' hS; (try dsimp only at hS); obtain ⟨s0, s1⟩ := hS; (try go_simp); (try with_reducible rfl))
    try simp only [Act.put, List.getElem_toArray, List.getElem_cons_zero, List.getElem_cons_succ, List.setIfInBounds_toArray, List.set_cons_zero, List.set_cons_succ]
    refine wpAnyH_ready (rs := [15]) (by kernel_rfl) (by simp) ?_
    refine AllReadyH.cons rfl (fun K hK => ?_) AllReadyH.nil
    obtain ⟨z0, z1, z2, z3⟩ := hr.out _ hgw12
    go_simp
    have hL := laid_cells z0 z1 (.slice A2 s.flash.length c2) (.slice D2 s.disk.length d2)
    have hzb := lt_of_cell (hq.out _ hgw12).1
    refine hK.out _ _ (⟨(hL.agr.cell (b := bx) hzb (by omega) 0).trans (hq.out _ hgw12).1, (hL.agr.cell (b := bx) hzb (by omega) 1).trans (hq.out _ hgw12).2.1⟩) (fun hHa4 => ?_)
    clear hK K
    try simp only [Act.put, List.getElem_toArray, List.getElem_cons_zero, List.getElem_cons_succ, List.setIfInBounds_toArray, List.set_cons_zero, List.set_cons_succ]
    refine wpAnyH_take (i := 16) (v := ?va13) rfl (by kernel_rfl) (by kernel_rfl) (by kernel_rfl) (fun _ _ _ h => h) (Or.inl ⟨by kernel_rfl, ?ya13⟩) hHa4 ?ra13
    case ya13 => (intro w' hS; (try dsimp only at hS); obtain ⟨s0, s1⟩ := hS; (try go_simp); (try with_reducible rfl))
    try simp only [Act.put, List.getElem_toArray, List.getElem_cons_zero, List.getElem_cons_succ, List.setIfInBounds_toArray, List.set_cons_zero, List.set_cons_succ]
    refine wpAnyH_take (i := 17) (v := ?va14) rfl (by kernel_rfl) (by kernel_rfl) (by kernel_rfl) (fun _ _ _ h => h) (Or.inl ⟨by kernel_rfl, ?ya14⟩) hHa4 ?ra14
    case ya14 => (intro w' hS; (try dsimp only at hS); obtain ⟨s0, s1⟩ := hS; (try go_simp); (try with_reducible rfl))
    try simp only [Act.put, List.getElem_toArray, List.getElem_cons_zero, List.getElem_cons_succ, List.setIfInBounds_toArray, List.set_cons_zero, List.set_cons_succ]
    refine wpAnyH_take (i := 18) (v := ?va15) rfl (by kernel_rfl) (by kernel_rfl) (by kernel_rfl) (fun _ _ _ h => h) (Or.inl ⟨by kernel_rfl, ?ya15⟩) hHa4 ?ra15
    case ya15 => (intro w' hS; (try dsimp only at hS); obtain ⟨s0, s1⟩ := hS; (try go_simp); (try with_reducible rfl))
    try simp only [Act.put, List.getElem_toArray, List.getElem_cons_zero, List.getElem_cons_succ, List.setIfInBounds_toArray, List.set_cons_zero, List.set_cons_succ]
    refine wpAnyH_done (by kernel_rfl) ?_ _
    have hVf := (hVx.out _ hgw12).agr hL.agr (fun b hb => by have := HVB.out b hb; omega)
    have hzf := hgw12.size
    have hsz := hL.size
    have hOf := hOx.out _ hgw12
    have hBf := hBx.out _ hgw12
    have hAL := hL.agr
    have r0 := hL.new_ 0 _ rfl
    have r1 := hL.new_ 1 _ rfl
    clear hL
    go_wp2
    exact bodyPost_ret (v := .tuple #[.agg #[.slice A2 s.flash.length c2, .slice D2 s.disk.length d2], .slice (some ⟨g9, 0, none⟩) (xs.length + 1) c9, .int .i64 ((k10 : Int) - (k11 : Int) / 23 * 9), .bool ((k12 : Int) == 0)]) (by simp [results, Try.results31, go_sem, r0, r1, z0, z1]) rfl ⟨A2, D2, c2, d2, s, (some ⟨g9, 0, none⟩), c9, xs ++ [_], (k10 : Int) - (k11 : Int) / 23 * 9, ((k12 : Int) == 0), by simp, by simp; omega, hcv, by omega, hVf, fun b hb => (by have := HVB.out b hb; omega), StoreD.one HS.out hOf hBf (by omega) (by omega) hAL⟩
  · by_cases h1 : k5 = 1
    · subst h1
      go_wp2_with fail
      refine (spec_pickI 5 5 _ _ (0 + 1250 + 7 + 1) _ rfl (by omega) (by omega) (by omega) hR).mono ?_
      rintro e w6 ⟨k6, rfl, hk6, hR, hA⟩
      have hs6 := hA.size
      obtain ⟨x0, x1, y0, y1⟩ := agr_cells hA (b := bx) (by omega) (by omega) x0 x1 y0 y1
      obtain ⟨q0, q1, f0, f1⟩ := agr_cells hA (b := w.heap.size) (by omega) (by omega) q0 q1 f0 f1
      have hB6 := hB5.trans (hA.below (B := w.heap.size) (by omega) (fun i hi => by omega))
      replace hO := hO.agr hA (fun b h1 h2 h3 => by omega)
      replace hOS := hOS.agr hA (by intro b h1 h2; omega)
      clear hA hB5
      have hb : Below w6.heap.size w6 (w6.alloc (.cells #[.int .i64 2, .int .i64 0, .int .i64 0, .int .i64 ((k6 : Int)), .int .i64 0, .int .i64 0, .int .i64 0, .int .i64 0] 47)) := by (repeat (first | (with_reducible exact Below.refl _ _) | (with_reducible assumption) | (refine Below.setCell ?_ (by first | omega | exact hB.size | exact hb.size | (have h := hB.size; simp; omega) | (have h := hb.size; simp; omega) | (simp; omega) | simp) _) | (refine Below.alloc ?_ (by first | omega | exact hB.size | exact hb.size | (have h := hB.size; simp; omega) | (have h := hb.size; simp; omega) | (simp; omega) | simp) _) | (refine Below.drew ?_)))
      have hOl := hOS.below hb (Nat.le_refl _)
      obtain ⟨x0, x1, y0, y1⟩ := four_cells hb (b := bx) (by omega) x0 x1 y0 y1
      obtain ⟨q0, q1, f0, f1⟩ := four_cells hb (b := w.heap.size) (by omega) q0 q1 f0 f1
      replace hO := hO.below hb (Nat.le_refl _)
      replace hR := hR.below hb (Nat.le_refl _)
      have hBl := hB6.trans (hb.mono (by omega))
      clear hb hOS hB6
      go_wp2_with (at_builtin; refine wpList_step rfl (.tmp 35) (.tmp 39) rfl W.heap.size v xs (⟨2, 0, 0, (k6 : Int), rc0⟩ : Sp) rfl hOl w6.heap.size 0 (xs.length + 1) 1 rfl rfl (Row.new w6 #[.int .i64 2, .int .i64 0, .int .i64 0, .int .i64 ((k6 : Int)), .int .i64 0, .int .i64 0, .int .i64 0, .int .i64 0] 47) (by omega) (by simp; omega) ?_; intro g9 c9 w9 hO9 hB9)
      have hzl : (w6.alloc (.cells #[.int .i64 2, .int .i64 0, .int .i64 0, .int .i64 ((k6 : Int)), .int .i64 0, .int .i64 0, .int .i64 0, .int .i64 0] 47)).heap.size = w6.heap.size + 1 := by simp
      have hs9 := hB9.size
      have hcl : ∀ b, b < W.heap.size → ∀ j, w9.cell? ⟨b, j, none⟩ = (w6.alloc (.cells #[.int .i64 2, .int .i64 0, .int .i64 0, .int .i64 ((k6 : Int)), .int .i64 0, .int .i64 0, .int .i64 0, .int .i64 0] 47)).cell? ⟨b, j, none⟩ := fun b hb j => hB9.cell (p := ⟨b, j, none⟩) hb
      have hfl : ∀ b, b < W.heap.size → ∀ j, w9.frozen? ⟨b, j, none⟩ = (w6.alloc (.cells #[.int .i64 2, .int .i64 0, .int .i64 0, .int .i64 ((k6 : Int)), .int .i64 0, .int .i64 0, .int .i64 0, .int .i64 0] 47)).frozen? ⟨b, j, none⟩ := fun b hb j => hB9.frozen (p := ⟨b, j, none⟩) hb
      replace x0 := (hcl bx (by omega) 0).trans x0
      replace x1 := (hcl bx (by omega) 1).trans x1
      replace y0 := (hfl bx (by omega) 0).trans y0
      replace y1 := (hfl bx (by omega) 1).trans y1
      replace q0 := (hcl w.heap.size (by omega) 0).trans q0
      replace q1 := (hcl w.heap.size (by omega) 1).trans q1
      replace f0 := (hfl w.heap.size (by omega) 0).trans f0
      replace f1 := (hfl w.heap.size (by omega) 1).trans f1
      replace hO := hO.keep fun b h1 h2 hl => hB9.block b (by omega)
      replace hR := hR.keep (w' := w9) fun b hb hl => hB9.block b (by omega)
      have hB9' := hBl.trans (hB9.mono (by omega))
      have hz9 := hB9'.size
      clear hcl hfl hB9 hBl hOl
      have hB9 := hB9'
      clear hB9'
      obtain ⟨_, _, e9, hcv, hRw, hbw⟩ := hO9.shape
      simp only [Value.slice.injEq] at e9
      obtain ⟨rfl, -, rfl⟩ := e9
      clear hO9
      have hzX : w.heap.size + 1 < w9.heap.size := by omega
      have hzY : bx < w9.heap.size := lt_of_cell x0
      have hWX : W.heap.size ≤ w9.heap.size := by omega
      have hq := Lib.hid (fun Y (h : Agr (· = w.heap.size + 1) w9.drew Y) => agr_cells h (b := bx) hzY (by omega) (w := w9.drew) x0 x1 y0 y1)
      have hr := Lib.hid (fun Y (h : Agr (· = w.heap.size + 1) w9.drew Y) => agr_cells h (b := w.heap.size) (by show w.heap.size < w9.heap.size; omega) (by omega) (w := w9.drew) q0 q1 f0 f1)
      have hOx := Lib.hid (fun Y (h : Agr (· = w.heap.size + 1) w9.drew Y) => hO.drew.agr h (fun b h1 h2 h3 => by omega))
      have hVx := Lib.hid (fun Y (h : Agr (· = w.heap.size + 1) w9.drew Y) => hRw.drew.agr h (fun b hb => by have := hbw b hb; omega))
      have hBx := Lib.hid (fun Y (h : Agr (· = w.heap.size + 1) w9.drew Y) => hB9.drew.trans (h.below (B := w.heap.size) (by show w.heap.size ≤ w9.heap.size; omega) (fun i hi => by omega)))
      have hRx := hR.drew
      have hg0 : Agr (· = w.heap.size + 1) w9.drew w9.drew := Agr.refl _ _
      have HVB := Lib.hid hbw
      have hXd : w9.drew.heap.size = w9.heap.size := rfl
      have en : IntKind.i64.wrap (((xs.length : Int) + 1) + 2) = ((xs.length : Int) + 1) + 2 := IntWalk.i64_in _ (by omega)
      clear hO hR hB9 hRw hbw
      go_wp2
      refine wp_region_held_drew (S := fun X => X.cell? ⟨bx, 0, none⟩ = some (.slice A2 s.flash.length c2) ∧ X.cell? ⟨bx, 1, none⟩ = some (.slice D2 s.disk.length d2)) (by kernel_rfl) ⟨(hq.out _ hg0).1, (hq.out _ hg0).2.1⟩ (fun hHeld0 => ?_)
      refine wpAnyH_take (i := 0) (v := ?vb1) rfl (by kernel_rfl) (by kernel_rfl) (by kernel_rfl) (fun _ _ _ h => h) (Or.inl ⟨by kernel_rfl, ?yb1⟩) hHeld0 ?rb1
      case yb1 => (intro w' hS; (try dsimp only at hS); obtain ⟨s0, s1⟩ := hS; (try go_simp); (try with_reducible rfl))
      try simp only [Act.put, List.getElem_toArray, List.getElem_cons_zero, List.getElem_cons_succ, List.setIfInBounds_toArray, List.set_cons_zero, List.set_cons_succ]
      refine wpAnyH_take (i := 1) (v := ?vb2) rfl (by kernel_rfl) (by kernel_rfl) (by kernel_rfl) (fun _ _ _ h => h) (Or.inl ⟨by kernel_rfl, ?yb2⟩) hHeld0 ?rb2
      case yb2 => (intro w' hS; (try dsimp only at hS); obtain ⟨s0, s1⟩ := hS; (try go_simp); (try with_reducible rfl))
      try simp only [Act.put, List.getElem_toArray, List.getElem_cons_zero, List.getElem_cons_succ, List.setIfInBounds_toArray, List.set_cons_zero, List.set_cons_succ]
      refine wpAnyH_take (i := 2) (v := ?vb3) rfl (by kernel_rfl) (by kernel_rfl) (by kernel_rfl) (fun _ _ _ h => h) (Or.inl ⟨by kernel_rfl, ?yb3⟩) hHeld0 ?rb3
      case yb3 => (intro w' hS; (try dsimp only at hS); obtain ⟨s0, s1⟩ := hS; (try go_simp); (try with_reducible rfl))
      try simp only [Act.put, List.getElem_toArray, List.getElem_cons_zero, List.getElem_cons_succ, List.setIfInBounds_toArray, List.set_cons_zero, List.set_cons_succ]
      refine wpAnyH_take (i := 3) (v := ?vb4) rfl (by kernel_rfl) (by kernel_rfl) (by kernel_rfl) (fun _ _ _ h => h) (Or.inl ⟨by kernel_rfl, ?yb4⟩) hHeld0 ?rb4
      case yb4 => (intro w' hS; (try dsimp only at hS); obtain ⟨s0, s1⟩ := hS; (try go_simp); (try with_reducible rfl))
      try simp only [Act.put, List.getElem_toArray, List.getElem_cons_zero, List.getElem_cons_succ, List.setIfInBounds_toArray, List.set_cons_zero, List.set_cons_succ]
      refine wpAnyH_take (i := 4) (v := ?vb5) rfl (by kernel_rfl) (by kernel_rfl) (by kernel_rfl) (fun _ _ _ h => h) (Or.inl ⟨by kernel_rfl, ?yb5⟩) hHeld0 ?rb5
      case yb5 => (intro w' hS; (try dsimp only at hS); obtain ⟨s0, s1⟩ := hS; (try go_simp); (try with_reducible rfl))
      try simp only [Act.put, List.getElem_toArray, List.getElem_cons_zero, List.getElem_cons_succ, List.setIfInBounds_toArray, List.set_cons_zero, List.set_cons_succ]
      refine wpAnyH_take (i := 5) (v := ?vb6) rfl (by kernel_rfl) (by kernel_rfl) (by kernel_rfl) (fun _ _ _ h => h) (Or.inl ⟨by kernel_rfl, ?yb6⟩) hHeld0 ?rb6
      case yb6 => (intro w' hS; (try dsimp only at hS); obtain ⟨s0, s1⟩ := hS; (try go_simp); (try with_reducible rfl))
      try simp only [Act.put, List.getElem_toArray, List.getElem_cons_zero, List.getElem_cons_succ, List.setIfInBounds_toArray, List.set_cons_zero, List.set_cons_succ]
      refine wpAnyH_take (i := 7) (v := ?vb7) rfl (by kernel_rfl) (by kernel_rfl) (by kernel_rfl) (fun _ _ _ h => h) (Or.inl ⟨by kernel_rfl, ?yb7⟩) hHeld0 ?rb7
      case yb7 => (intro w' hS; (try dsimp only at hS); obtain ⟨s0, s1⟩ := hS; (try go_simp); (try with_reducible rfl))
      try simp only [Act.put, List.getElem_toArray, List.getElem_cons_zero, List.getElem_cons_succ, List.setIfInBounds_toArray, List.set_cons_zero, List.set_cons_succ]
      refine wpAnyH_take (i := 12) (v := ?vb8) rfl (by kernel_rfl) (by kernel_rfl) (by kernel_rfl) (fun _ _ _ h => h) (Or.inl ⟨by kernel_rfl, ?yb8⟩) hHeld0 ?rb8
      case yb8 => (intro w' hS; (try dsimp only at hS); obtain ⟨s0, s1⟩ := hS; (try go_simp); (try with_reducible rfl))
      try simp only [Act.put, List.getElem_toArray, List.getElem_cons_zero, List.getElem_cons_succ, List.setIfInBounds_toArray, List.set_cons_zero, List.set_cons_succ]
      refine wpAnyH_ready (rs := [6]) (by kernel_rfl) (by simp) ?_
      refine AllReadyH.cons rfl (fun K hK => ?_) AllReadyH.nil
      go_simp
      refine (spec_pickI (xs.length + 1 + 2) (((xs.length : Int) + 1) + 2) _ _ (0 + 1250 + 7 + 1 + 1) _ (by omega) (by omega) (by omega) (by omega) hRx).mono ?_
      rintro e w10 ⟨k10, rfl, hk10, hRw10, hc⟩
      have hgw10 := hg0.trans hc (fun _ _ h => h)
      clear hc
      go_wp2_with fail
      refine hK.out _ _ (⟨(hq.out _ hgw10).1, (hq.out _ hgw10).2.1⟩) (fun hHb1 => ?_)
      clear hK K
      try simp only [Act.put, List.getElem_toArray, List.getElem_cons_zero, List.getElem_cons_succ, List.setIfInBounds_toArray, List.set_cons_zero, List.set_cons_succ]
      refine wpAnyH_ready (rs := [8]) (by kernel_rfl) (by simp) ?_
      refine AllReadyH.cons rfl (fun K hK => ?_) AllReadyH.nil
      go_simp
      refine (spec_pickI (24) (24) _ _ (0 + 1250 + 7 + 1 + 1 + 1) _ rfl (by omega) (by omega) (by omega) hRw10).mono ?_
      rintro e w11 ⟨k11, rfl, hk11, hRw11, hc⟩
      have hgw11 := hgw10.trans hc (fun _ _ h => h)
      have ek1 : IntKind.i64.wrap ((k11 : Int) / 23) = (k11 : Int) / 23 := IntWalk.i64_in _ (by omega)
      have ek2 : IntKind.i64.wrap ((k11 : Int) / 23 * 9) = (k11 : Int) / 23 * 9 := IntWalk.i64_in _ (by omega)
      have ek3 : IntKind.i64.wrap ((k10 : Int) - (k11 : Int) / 23 * 9) = (k10 : Int) - (k11 : Int) / 23 * 9 := IntWalk.i64_in _ (by omega)
      clear hc
      go_wp2_with fail
      refine hK.out _ _ (⟨(hq.out _ hgw11).1, (hq.out _ hgw11).2.1⟩) (fun hHb2 => ?_)
      clear hK K
      try simp only [Act.put, List.getElem_toArray, List.getElem_cons_zero, List.getElem_cons_succ, List.setIfInBounds_toArray, List.set_cons_zero, List.set_cons_succ]
      refine wpAnyH_take (i := 9) (v := ?vb9) rfl (by kernel_rfl) (by kernel_rfl) (by kernel_rfl) (fun _ _ _ h => h) (Or.inl ⟨by kernel_rfl, ?yb9⟩) hHb2 ?rb9
      case yb9 => (intro w' hS; (try dsimp only at hS); obtain ⟨s0, s1⟩ := hS; (try go_simp); (try with_reducible rfl))
      try simp only [Act.put, List.getElem_toArray, List.getElem_cons_zero, List.getElem_cons_succ, List.setIfInBounds_toArray, List.set_cons_zero, List.set_cons_succ]
      refine wpAnyH_take (i := 10) (v := ?vb10) rfl (by kernel_rfl) (by kernel_rfl) (by kernel_rfl) (fun _ _ _ h => h) (Or.inl ⟨by kernel_rfl, ?yb10⟩) hHb2 ?rb10
      case yb10 => (intro w' hS; (try dsimp only at hS); obtain ⟨s0, s1⟩ := hS; (try go_simp); (try with_reducible rfl))
      try simp only [Act.put, List.getElem_toArray, List.getElem_cons_zero, List.getElem_cons_succ, List.setIfInBounds_toArray, List.set_cons_zero, List.set_cons_succ]
      refine wpAnyH_take (i := 11) (v := ?vb11) rfl (by kernel_rfl) (by kernel_rfl) (by kernel_rfl) (fun _ _ _ h => h) (Or.inl ⟨by kernel_rfl, ?yb11⟩) hHb2 ?rb11
      case yb11 => (intro w' hS; (try dsimp only at hS); obtain ⟨s0, s1⟩ := hS; (try go_simp); (try with_reducible rfl))
      try simp only [Act.put, List.getElem_toArray, List.getElem_cons_zero, List.getElem_cons_succ, List.setIfInBounds_toArray, List.set_cons_zero, List.set_cons_succ]
      refine wpAnyH_ready (rs := [13]) (by kernel_rfl) (by simp) ?_
      refine AllReadyH.cons rfl (fun K hK => ?_) AllReadyH.nil
      go_simp
      refine (spec_pickI (2) (2) _ _ (0 + 1250 + 7 + 1 + 1 + 1 + 1) _ rfl (by omega) (by omega) (by omega) hRw11).mono ?_
      rintro e w12 ⟨k12, rfl, hk12, hRw12, hc⟩
      have hgw12 := hgw11.trans hc (fun _ _ h => h)
      clear hc
      go_wp2_with fail
      refine hK.out _ _ (⟨(hq.out _ hgw12).1, (hq.out _ hgw12).2.1⟩) (fun hHb3 => ?_)
      clear hK K
      try simp only [Act.put, List.getElem_toArray, List.getElem_cons_zero, List.getElem_cons_succ, List.setIfInBounds_toArray, List.set_cons_zero, List.set_cons_succ]
      refine wpAnyH_take (i := 14) (v := ?vb12) rfl (by kernel_rfl) (by kernel_rfl) (by kernel_rfl) (fun _ _ _ h => h) (Or.inl ⟨by kernel_rfl, ?yb12⟩) hHb3 ?rb12
      case yb12 => (intro w' hS; (try dsimp only at hS); obtain ⟨s0, s1⟩ := hS; (try go_simp); (try with_reducible rfl))
      try simp only [Act.put, List.getElem_toArray, List.getElem_cons_zero, List.getElem_cons_succ, List.setIfInBounds_toArray, List.set_cons_zero, List.set_cons_succ]
      refine wpAnyH_ready (rs := [15]) (by kernel_rfl) (by simp) ?_
      refine AllReadyH.cons rfl (fun K hK => ?_) AllReadyH.nil
      obtain ⟨z0, z1, z2, z3⟩ := hr.out _ hgw12
      go_simp
      have hL := laid_cells z0 z1 (.slice A2 s.flash.length c2) (.slice D2 s.disk.length d2)
      have hzb := lt_of_cell (hq.out _ hgw12).1
      refine hK.out _ _ (⟨(hL.agr.cell (b := bx) hzb (by omega) 0).trans (hq.out _ hgw12).1, (hL.agr.cell (b := bx) hzb (by omega) 1).trans (hq.out _ hgw12).2.1⟩) (fun hHb4 => ?_)
      clear hK K
      try simp only [Act.put, List.getElem_toArray, List.getElem_cons_zero, List.getElem_cons_succ, List.setIfInBounds_toArray, List.set_cons_zero, List.set_cons_succ]
      refine wpAnyH_take (i := 16) (v := ?vb13) rfl (by kernel_rfl) (by kernel_rfl) (by kernel_rfl) (fun _ _ _ h => h) (Or.inl ⟨by kernel_rfl, ?yb13⟩) hHb4 ?rb13
      case yb13 => (intro w' hS; (try dsimp only at hS); obtain ⟨s0, s1⟩ := hS; (try go_simp); (try with_reducible rfl))
      try simp only [Act.put, List.getElem_toArray, List.getElem_cons_zero, List.getElem_cons_succ, List.setIfInBounds_toArray, List.set_cons_zero, List.set_cons_succ]
      refine wpAnyH_take (i := 17) (v := ?vb14) rfl (by kernel_rfl) (by kernel_rfl) (by kernel_rfl) (fun _ _ _ h => h) (Or.inl ⟨by kernel_rfl, ?yb14⟩) hHb4 ?rb14
      case yb14 => (intro w' hS; (try dsimp only at hS); obtain ⟨s0, s1⟩ := hS; (try go_simp); (try with_reducible rfl))
      try simp only [Act.put, List.getElem_toArray, List.getElem_cons_zero, List.getElem_cons_succ, List.setIfInBounds_toArray, List.set_cons_zero, List.set_cons_succ]
      refine wpAnyH_take (i := 18) (v := ?vb15) rfl (by kernel_rfl) (by kernel_rfl) (by kernel_rfl) (fun _ _ _ h => h) (Or.inl ⟨by kernel_rfl, ?yb15⟩) hHb4 ?rb15
      case yb15 => (intro w' hS; (try dsimp only at hS); obtain ⟨s0, s1⟩ := hS; (try go_simp); (try with_reducible rfl))
      try simp only [Act.put, List.getElem_toArray, List.getElem_cons_zero, List.getElem_cons_succ, List.setIfInBounds_toArray, List.set_cons_zero, List.set_cons_succ]
      refine wpAnyH_done (by kernel_rfl) ?_ _
      have hVf := (hVx.out _ hgw12).agr hL.agr (fun b hb => by have := HVB.out b hb; omega)
      have hzf := hgw12.size
      have hsz := hL.size
      have hOf := hOx.out _ hgw12
      have hBf := hBx.out _ hgw12
      have hAL := hL.agr
      have r0 := hL.new_ 0 _ rfl
      have r1 := hL.new_ 1 _ rfl
      clear hL
      go_wp2
      exact bodyPost_ret (v := .tuple #[.agg #[.slice A2 s.flash.length c2, .slice D2 s.disk.length d2], .slice (some ⟨g9, 0, none⟩) (xs.length + 1) c9, .int .i64 ((k10 : Int) - (k11 : Int) / 23 * 9), .bool ((k12 : Int) == 0)]) (by simp [results, Try.results31, go_sem, r0, r1, z0, z1]) rfl ⟨A2, D2, c2, d2, s, (some ⟨g9, 0, none⟩), c9, xs ++ [_], (k10 : Int) - (k11 : Int) / 23 * 9, ((k12 : Int) == 0), by simp, by simp; omega, hcv, by omega, hVf, fun b hb => (by have := HVB.out b hb; omega), StoreD.one HS.out hOf hBf (by omega) (by omega) hAL⟩
    · by_cases h2 : k5 = 2
      · subst h2
        go_wp2_with fail
        refine (spec_pickI 4 4 _ _ (0 + 1250 + 7 + 1) _ rfl (by omega) (by omega) (by omega) hR).mono ?_
        rintro e w6 ⟨k6, rfl, hk6, hR, hA⟩
        have hs6 := hA.size
        obtain ⟨x0, x1, y0, y1⟩ := agr_cells hA (b := bx) (by omega) (by omega) x0 x1 y0 y1
        obtain ⟨q0, q1, f0, f1⟩ := agr_cells hA (b := w.heap.size) (by omega) (by omega) q0 q1 f0 f1
        have hB6 := hB5.trans (hA.below (B := w.heap.size) (by omega) (fun i hi => by omega))
        replace hO := hO.agr hA (fun b h1 h2 h3 => by omega)
        replace hOS := hOS.agr hA (by intro b h1 h2; omega)
        clear hA hB5
        go_wp2_with fail
        refine (spec_l71Rec _ _ (0 + 1250 + 7 + 1 + 1) _ (by omega) hR).mono ?_
        rintro e w7 ⟨y, rfl, _, hR, hA⟩
        have hs7 := hA.size
        obtain ⟨x0, x1, y0, y1⟩ := agr_cells hA (b := bx) (by omega) (by omega) x0 x1 y0 y1
        obtain ⟨q0, q1, f0, f1⟩ := agr_cells hA (b := w.heap.size) (by omega) (by omega) q0 q1 f0 f1
        have hB7 := hB6.trans (hA.below (B := w.heap.size) (by omega) (fun i hi => by omega))
        replace hO := hO.agr hA (fun b h1 h2 h3 => by omega)
        replace hOS := hOS.agr hA (by intro b h1 h2; omega)
        clear hA hB6
        have hb : Below w7.heap.size w7 (w7.alloc (.cells #[.int .i64 3, .int .i64 0, .int .i64 0, .int .i64 ((k6 : Int)), .int .i64 y.kind, .int .i64 y.seq, .int .i64 y.addr, .int .i64 y.val] 47)) := by (repeat (first | (with_reducible exact Below.refl _ _) | (with_reducible assumption) | (refine Below.setCell ?_ (by first | omega | exact hB.size | exact hb.size | (have h := hB.size; simp; omega) | (have h := hb.size; simp; omega) | (simp; omega) | simp) _) | (refine Below.alloc ?_ (by first | omega | exact hB.size | exact hb.size | (have h := hB.size; simp; omega) | (have h := hb.size; simp; omega) | (simp; omega) | simp) _) | (refine Below.drew ?_)))
        have hOl := hOS.below hb (Nat.le_refl _)
        obtain ⟨x0, x1, y0, y1⟩ := four_cells hb (b := bx) (by omega) x0 x1 y0 y1
        obtain ⟨q0, q1, f0, f1⟩ := four_cells hb (b := w.heap.size) (by omega) q0 q1 f0 f1
        replace hO := hO.below hb (Nat.le_refl _)
        replace hR := hR.below hb (Nat.le_refl _)
        have hBl := hB7.trans (hb.mono (by omega))
        clear hb hOS hB7
        go_wp2_with (at_builtin; refine wpList_step rfl (.tmp 43) (.tmp 49) rfl W.heap.size v xs (⟨3, 0, 0, (k6 : Int), y⟩ : Sp) rfl hOl w7.heap.size 0 (xs.length + 1) 1 rfl rfl (Row.new w7 #[.int .i64 3, .int .i64 0, .int .i64 0, .int .i64 ((k6 : Int)), .int .i64 y.kind, .int .i64 y.seq, .int .i64 y.addr, .int .i64 y.val] 47) (by omega) (by simp; omega) ?_; intro g9 c9 w9 hO9 hB9)
        have hzl : (w7.alloc (.cells #[.int .i64 3, .int .i64 0, .int .i64 0, .int .i64 ((k6 : Int)), .int .i64 y.kind, .int .i64 y.seq, .int .i64 y.addr, .int .i64 y.val] 47)).heap.size = w7.heap.size + 1 := by simp
        have hs9 := hB9.size
        have hcl : ∀ b, b < W.heap.size → ∀ j, w9.cell? ⟨b, j, none⟩ = (w7.alloc (.cells #[.int .i64 3, .int .i64 0, .int .i64 0, .int .i64 ((k6 : Int)), .int .i64 y.kind, .int .i64 y.seq, .int .i64 y.addr, .int .i64 y.val] 47)).cell? ⟨b, j, none⟩ := fun b hb j => hB9.cell (p := ⟨b, j, none⟩) hb
        have hfl : ∀ b, b < W.heap.size → ∀ j, w9.frozen? ⟨b, j, none⟩ = (w7.alloc (.cells #[.int .i64 3, .int .i64 0, .int .i64 0, .int .i64 ((k6 : Int)), .int .i64 y.kind, .int .i64 y.seq, .int .i64 y.addr, .int .i64 y.val] 47)).frozen? ⟨b, j, none⟩ := fun b hb j => hB9.frozen (p := ⟨b, j, none⟩) hb
        replace x0 := (hcl bx (by omega) 0).trans x0
        replace x1 := (hcl bx (by omega) 1).trans x1
        replace y0 := (hfl bx (by omega) 0).trans y0
        replace y1 := (hfl bx (by omega) 1).trans y1
        replace q0 := (hcl w.heap.size (by omega) 0).trans q0
        replace q1 := (hcl w.heap.size (by omega) 1).trans q1
        replace f0 := (hfl w.heap.size (by omega) 0).trans f0
        replace f1 := (hfl w.heap.size (by omega) 1).trans f1
        replace hO := hO.keep fun b h1 h2 hl => hB9.block b (by omega)
        replace hR := hR.keep (w' := w9) fun b hb hl => hB9.block b (by omega)
        have hB9' := hBl.trans (hB9.mono (by omega))
        have hz9 := hB9'.size
        clear hcl hfl hB9 hBl hOl
        have hB9 := hB9'
        clear hB9'
        obtain ⟨_, _, e9, hcv, hRw, hbw⟩ := hO9.shape
        simp only [Value.slice.injEq] at e9
        obtain ⟨rfl, -, rfl⟩ := e9
        clear hO9
        have hzX : w.heap.size + 1 < w9.heap.size := by omega
        have hzY : bx < w9.heap.size := lt_of_cell x0
        have hWX : W.heap.size ≤ w9.heap.size := by omega
        have hq := Lib.hid (fun Y (h : Agr (· = w.heap.size + 1) w9.drew Y) => agr_cells h (b := bx) hzY (by omega) (w := w9.drew) x0 x1 y0 y1)
        have hr := Lib.hid (fun Y (h : Agr (· = w.heap.size + 1) w9.drew Y) => agr_cells h (b := w.heap.size) (by show w.heap.size < w9.heap.size; omega) (by omega) (w := w9.drew) q0 q1 f0 f1)
        have hOx := Lib.hid (fun Y (h : Agr (· = w.heap.size + 1) w9.drew Y) => hO.drew.agr h (fun b h1 h2 h3 => by omega))
        have hVx := Lib.hid (fun Y (h : Agr (· = w.heap.size + 1) w9.drew Y) => hRw.drew.agr h (fun b hb => by have := hbw b hb; omega))
        have hBx := Lib.hid (fun Y (h : Agr (· = w.heap.size + 1) w9.drew Y) => hB9.drew.trans (h.below (B := w.heap.size) (by show w.heap.size ≤ w9.heap.size; omega) (fun i hi => by omega)))
        have hRx := hR.drew
        have hg0 : Agr (· = w.heap.size + 1) w9.drew w9.drew := Agr.refl _ _
        have HVB := Lib.hid hbw
        have hXd : w9.drew.heap.size = w9.heap.size := rfl
        have en : IntKind.i64.wrap (((xs.length : Int) + 1) + 2) = ((xs.length : Int) + 1) + 2 := IntWalk.i64_in _ (by omega)
        clear hO hR hB9 hRw hbw
        go_wp2
        refine wp_region_held_drew (S := fun X => X.cell? ⟨bx, 0, none⟩ = some (.slice A2 s.flash.length c2) ∧ X.cell? ⟨bx, 1, none⟩ = some (.slice D2 s.disk.length d2)) (by kernel_rfl) ⟨(hq.out _ hg0).1, (hq.out _ hg0).2.1⟩ (fun hHeld0 => ?_)
        refine wpAnyH_take (i := 0) (v := ?vc1) rfl (by kernel_rfl) (by kernel_rfl) (by kernel_rfl) (fun _ _ _ h => h) (Or.inl ⟨by kernel_rfl, ?yc1⟩) hHeld0 ?rc1
        case yc1 => (intro w' hS; (try dsimp only at hS); obtain ⟨s0, s1⟩ := hS; (try go_simp); (try with_reducible rfl))
        try simp only [Act.put, List.getElem_toArray, List.getElem_cons_zero, List.getElem_cons_succ, List.setIfInBounds_toArray, List.set_cons_zero, List.set_cons_succ]
        refine wpAnyH_take (i := 1) (v := ?vc2) rfl (by kernel_rfl) (by kernel_rfl) (by kernel_rfl) (fun _ _ _ h => h) (Or.inl ⟨by kernel_rfl, ?yc2⟩) hHeld0 ?rc2
        case yc2 => (intro w' hS; (try dsimp only at hS); obtain ⟨s0, s1⟩ := hS; (try go_simp); (try with_reducible rfl))
        try simp only [Act.put, List.getElem_toArray, List.getElem_cons_zero, List.getElem_cons_succ, List.setIfInBounds_toArray, List.set_cons_zero, List.set_cons_succ]
        refine wpAnyH_take (i := 2) (v := ?vc3) rfl (by kernel_rfl) (by kernel_rfl) (by kernel_rfl) (fun _ _ _ h => h) (Or.inl ⟨by kernel_rfl, ?yc3⟩) hHeld0 ?rc3
        case yc3 => (intro w' hS; (try dsimp only at hS); obtain ⟨s0, s1⟩ := hS; (try go_simp); (try with_reducible rfl))
        try simp only [Act.put, List.getElem_toArray, List.getElem_cons_zero, List.getElem_cons_succ, List.setIfInBounds_toArray, List.set_cons_zero, List.set_cons_succ]
        refine wpAnyH_take (i := 3) (v := ?vc4) rfl (by kernel_rfl) (by kernel_rfl) (by kernel_rfl) (fun _ _ _ h => h) (Or.inl ⟨by kernel_rfl, ?yc4⟩) hHeld0 ?rc4
        case yc4 => (intro w' hS; (try dsimp only at hS); obtain ⟨s0, s1⟩ := hS; (try go_simp); (try with_reducible rfl))
        try simp only [Act.put, List.getElem_toArray, List.getElem_cons_zero, List.getElem_cons_succ, List.setIfInBounds_toArray, List.set_cons_zero, List.set_cons_succ]
        refine wpAnyH_take (i := 4) (v := ?vc5) rfl (by kernel_rfl) (by kernel_rfl) (by kernel_rfl) (fun _ _ _ h => h) (Or.inl ⟨by kernel_rfl, ?yc5⟩) hHeld0 ?rc5
        case yc5 => (intro w' hS; (try dsimp only at hS); obtain ⟨s0, s1⟩ := hS; (try go_simp); (try with_reducible rfl))
        try simp only [Act.put, List.getElem_toArray, List.getElem_cons_zero, List.getElem_cons_succ, List.setIfInBounds_toArray, List.set_cons_zero, List.set_cons_succ]
        refine wpAnyH_take (i := 5) (v := ?vc6) rfl (by kernel_rfl) (by kernel_rfl) (by kernel_rfl) (fun _ _ _ h => h) (Or.inl ⟨by kernel_rfl, ?yc6⟩) hHeld0 ?rc6
        case yc6 => (intro w' hS; (try dsimp only at hS); obtain ⟨s0, s1⟩ := hS; (try go_simp); (try with_reducible rfl))
        try simp only [Act.put, List.getElem_toArray, List.getElem_cons_zero, List.getElem_cons_succ, List.setIfInBounds_toArray, List.set_cons_zero, List.set_cons_succ]
        refine wpAnyH_take (i := 7) (v := ?vc7) rfl (by kernel_rfl) (by kernel_rfl) (by kernel_rfl) (fun _ _ _ h => h) (Or.inl ⟨by kernel_rfl, ?yc7⟩) hHeld0 ?rc7
        case yc7 => (intro w' hS; (try dsimp only at hS); obtain ⟨s0, s1⟩ := hS; (try go_simp); (try with_reducible rfl))
        try simp only [Act.put, List.getElem_toArray, List.getElem_cons_zero, List.getElem_cons_succ, List.setIfInBounds_toArray, List.set_cons_zero, List.set_cons_succ]
        refine wpAnyH_take (i := 12) (v := ?vc8) rfl (by kernel_rfl) (by kernel_rfl) (by kernel_rfl) (fun _ _ _ h => h) (Or.inl ⟨by kernel_rfl, ?yc8⟩) hHeld0 ?rc8
        case yc8 => (intro w' hS; (try dsimp only at hS); obtain ⟨s0, s1⟩ := hS; (try go_simp); (try with_reducible rfl))
        try simp only [Act.put, List.getElem_toArray, List.getElem_cons_zero, List.getElem_cons_succ, List.setIfInBounds_toArray, List.set_cons_zero, List.set_cons_succ]
        refine wpAnyH_ready (rs := [6]) (by kernel_rfl) (by simp) ?_
        refine AllReadyH.cons rfl (fun K hK => ?_) AllReadyH.nil
        go_simp
        refine (spec_pickI (xs.length + 1 + 2) (((xs.length : Int) + 1) + 2) _ _ (0 + 1250 + 7 + 1 + 1 + 6) _ (by omega) (by omega) (by omega) (by omega) hRx).mono ?_
        rintro e w10 ⟨k10, rfl, hk10, hRw10, hc⟩
        have hgw10 := hg0.trans hc (fun _ _ h => h)
        clear hc
        go_wp2_with fail
        refine hK.out _ _ (⟨(hq.out _ hgw10).1, (hq.out _ hgw10).2.1⟩) (fun hHc1 => ?_)
        clear hK K
        try simp only [Act.put, List.getElem_toArray, List.getElem_cons_zero, List.getElem_cons_succ, List.setIfInBounds_toArray, List.set_cons_zero, List.set_cons_succ]
        refine wpAnyH_ready (rs := [8]) (by kernel_rfl) (by simp) ?_
        refine AllReadyH.cons rfl (fun K hK => ?_) AllReadyH.nil
        go_simp
        refine (spec_pickI (24) (24) _ _ (0 + 1250 + 7 + 1 + 1 + 6 + 1) _ rfl (by omega) (by omega) (by omega) hRw10).mono ?_
        rintro e w11 ⟨k11, rfl, hk11, hRw11, hc⟩
        have hgw11 := hgw10.trans hc (fun _ _ h => h)
        have ek1 : IntKind.i64.wrap ((k11 : Int) / 23) = (k11 : Int) / 23 := IntWalk.i64_in _ (by omega)
        have ek2 : IntKind.i64.wrap ((k11 : Int) / 23 * 9) = (k11 : Int) / 23 * 9 := IntWalk.i64_in _ (by omega)
        have ek3 : IntKind.i64.wrap ((k10 : Int) - (k11 : Int) / 23 * 9) = (k10 : Int) - (k11 : Int) / 23 * 9 := IntWalk.i64_in _ (by omega)
        clear hc
        go_wp2_with fail
        refine hK.out _ _ (⟨(hq.out _ hgw11).1, (hq.out _ hgw11).2.1⟩) (fun hHc2 => ?_)
        clear hK K
        try simp only [Act.put, List.getElem_toArray, List.getElem_cons_zero, List.getElem_cons_succ, List.setIfInBounds_toArray, List.set_cons_zero, List.set_cons_succ]
        refine wpAnyH_take (i := 9) (v := ?vc9) rfl (by kernel_rfl) (by kernel_rfl) (by kernel_rfl) (fun _ _ _ h => h) (Or.inl ⟨by kernel_rfl, ?yc9⟩) hHc2 ?rc9
        case yc9 => (intro w' hS; (try dsimp only at hS); obtain ⟨s0, s1⟩ := hS; (try go_simp); (try with_reducible rfl))
        try simp only [Act.put, List.getElem_toArray, List.getElem_cons_zero, List.getElem_cons_succ, List.setIfInBounds_toArray, List.set_cons_zero, List.set_cons_succ]
        refine wpAnyH_take (i := 10) (v := ?vc10) rfl (by kernel_rfl) (by kernel_rfl) (by kernel_rfl) (fun _ _ _ h => h) (Or.inl ⟨by kernel_rfl, ?yc10⟩) hHc2 ?rc10
        case yc10 => (intro w' hS; (try dsimp only at hS); obtain ⟨s0, s1⟩ := hS; (try go_simp); (try with_reducible rfl))
        try simp only [Act.put, List.getElem_toArray, List.getElem_cons_zero, List.getElem_cons_succ, List.setIfInBounds_toArray, List.set_cons_zero, List.set_cons_succ]
        refine wpAnyH_take (i := 11) (v := ?vc11) rfl (by kernel_rfl) (by kernel_rfl) (by kernel_rfl) (fun _ _ _ h => h) (Or.inl ⟨by kernel_rfl, ?yc11⟩) hHc2 ?rc11
        case yc11 => (intro w' hS; (try dsimp only at hS); obtain ⟨s0, s1⟩ := hS; (try go_simp); (try with_reducible rfl))
        try simp only [Act.put, List.getElem_toArray, List.getElem_cons_zero, List.getElem_cons_succ, List.setIfInBounds_toArray, List.set_cons_zero, List.set_cons_succ]
        refine wpAnyH_ready (rs := [13]) (by kernel_rfl) (by simp) ?_
        refine AllReadyH.cons rfl (fun K hK => ?_) AllReadyH.nil
        go_simp
        refine (spec_pickI (2) (2) _ _ (0 + 1250 + 7 + 1 + 1 + 6 + 1 + 1) _ rfl (by omega) (by omega) (by omega) hRw11).mono ?_
        rintro e w12 ⟨k12, rfl, hk12, hRw12, hc⟩
        have hgw12 := hgw11.trans hc (fun _ _ h => h)
        clear hc
        go_wp2_with fail
        refine hK.out _ _ (⟨(hq.out _ hgw12).1, (hq.out _ hgw12).2.1⟩) (fun hHc3 => ?_)
        clear hK K
        try simp only [Act.put, List.getElem_toArray, List.getElem_cons_zero, List.getElem_cons_succ, List.setIfInBounds_toArray, List.set_cons_zero, List.set_cons_succ]
        refine wpAnyH_take (i := 14) (v := ?vc12) rfl (by kernel_rfl) (by kernel_rfl) (by kernel_rfl) (fun _ _ _ h => h) (Or.inl ⟨by kernel_rfl, ?yc12⟩) hHc3 ?rc12
        case yc12 => (intro w' hS; (try dsimp only at hS); obtain ⟨s0, s1⟩ := hS; (try go_simp); (try with_reducible rfl))
        try simp only [Act.put, List.getElem_toArray, List.getElem_cons_zero, List.getElem_cons_succ, List.setIfInBounds_toArray, List.set_cons_zero, List.set_cons_succ]
        refine wpAnyH_ready (rs := [15]) (by kernel_rfl) (by simp) ?_
        refine AllReadyH.cons rfl (fun K hK => ?_) AllReadyH.nil
        obtain ⟨z0, z1, z2, z3⟩ := hr.out _ hgw12
        go_simp
        have hL := laid_cells z0 z1 (.slice A2 s.flash.length c2) (.slice D2 s.disk.length d2)
        have hzb := lt_of_cell (hq.out _ hgw12).1
        refine hK.out _ _ (⟨(hL.agr.cell (b := bx) hzb (by omega) 0).trans (hq.out _ hgw12).1, (hL.agr.cell (b := bx) hzb (by omega) 1).trans (hq.out _ hgw12).2.1⟩) (fun hHc4 => ?_)
        clear hK K
        try simp only [Act.put, List.getElem_toArray, List.getElem_cons_zero, List.getElem_cons_succ, List.setIfInBounds_toArray, List.set_cons_zero, List.set_cons_succ]
        refine wpAnyH_take (i := 16) (v := ?vc13) rfl (by kernel_rfl) (by kernel_rfl) (by kernel_rfl) (fun _ _ _ h => h) (Or.inl ⟨by kernel_rfl, ?yc13⟩) hHc4 ?rc13
        case yc13 => (intro w' hS; (try dsimp only at hS); obtain ⟨s0, s1⟩ := hS; (try go_simp); (try with_reducible rfl))
        try simp only [Act.put, List.getElem_toArray, List.getElem_cons_zero, List.getElem_cons_succ, List.setIfInBounds_toArray, List.set_cons_zero, List.set_cons_succ]
        refine wpAnyH_take (i := 17) (v := ?vc14) rfl (by kernel_rfl) (by kernel_rfl) (by kernel_rfl) (fun _ _ _ h => h) (Or.inl ⟨by kernel_rfl, ?yc14⟩) hHc4 ?rc14
        case yc14 => (intro w' hS; (try dsimp only at hS); obtain ⟨s0, s1⟩ := hS; (try go_simp); (try with_reducible rfl))
        try simp only [Act.put, List.getElem_toArray, List.getElem_cons_zero, List.getElem_cons_succ, List.setIfInBounds_toArray, List.set_cons_zero, List.set_cons_succ]
        refine wpAnyH_take (i := 18) (v := ?vc15) rfl (by kernel_rfl) (by kernel_rfl) (by kernel_rfl) (fun _ _ _ h => h) (Or.inl ⟨by kernel_rfl, ?yc15⟩) hHc4 ?rc15
        case yc15 => (intro w' hS; (try dsimp only at hS); obtain ⟨s0, s1⟩ := hS; (try go_simp); (try with_reducible rfl))
        try simp only [Act.put, List.getElem_toArray, List.getElem_cons_zero, List.getElem_cons_succ, List.setIfInBounds_toArray, List.set_cons_zero, List.set_cons_succ]
        refine wpAnyH_done (by kernel_rfl) ?_ _
        have hVf := (hVx.out _ hgw12).agr hL.agr (fun b hb => by have := HVB.out b hb; omega)
        have hzf := hgw12.size
        have hsz := hL.size
        have hOf := hOx.out _ hgw12
        have hBf := hBx.out _ hgw12
        have hAL := hL.agr
        have r0 := hL.new_ 0 _ rfl
        have r1 := hL.new_ 1 _ rfl
        clear hL
        go_wp2
        exact bodyPost_ret (v := .tuple #[.agg #[.slice A2 s.flash.length c2, .slice D2 s.disk.length d2], .slice (some ⟨g9, 0, none⟩) (xs.length + 1) c9, .int .i64 ((k10 : Int) - (k11 : Int) / 23 * 9), .bool ((k12 : Int) == 0)]) (by simp [results, Try.results31, go_sem, r0, r1, z0, z1]) rfl ⟨A2, D2, c2, d2, s, (some ⟨g9, 0, none⟩), c9, xs ++ [_], (k10 : Int) - (k11 : Int) / 23 * 9, ((k12 : Int) == 0), by simp, by simp; omega, hcv, by omega, hVf, fun b hb => (by have := HVB.out b hb; omega), StoreD.one HS.out hOf hBf (by omega) (by omega) hAL⟩
      · have m0 : ((k5 : Int) == 0) = false := by rw [beq_eq_false_iff_ne]; omega
        have m1 : ((k5 : Int) == 1) = false := by rw [beq_eq_false_iff_ne]; omega
        have m2 : ((k5 : Int) == 2) = false := by rw [beq_eq_false_iff_ne]; omega
        obtain ⟨Av, cv, rfl, hcv, hRw, hbw⟩ := hOS.shape
        clear hOS
        have hzX : w.heap.size + 1 < w5.heap.size := by omega
        have hzY : bx < w5.heap.size := lt_of_cell x0
        have hWX : W.heap.size ≤ w5.heap.size := by omega
        have hq := Lib.hid (fun Y (h : Agr (· = w.heap.size + 1) w5.drew Y) => agr_cells h (b := bx) hzY (by omega) (w := w5.drew) x0 x1 y0 y1)
        have hr := Lib.hid (fun Y (h : Agr (· = w.heap.size + 1) w5.drew Y) => agr_cells h (b := w.heap.size) (by show w.heap.size < w5.heap.size; omega) (by omega) (w := w5.drew) q0 q1 f0 f1)
        have hOx := Lib.hid (fun Y (h : Agr (· = w.heap.size + 1) w5.drew Y) => hO.drew.agr h (fun b h1 h2 h3 => by omega))
        have hVx := Lib.hid (fun Y (h : Agr (· = w.heap.size + 1) w5.drew Y) => hRw.drew.agr h (fun b hb => by have := hbw b hb; omega))
        have hBx := Lib.hid (fun Y (h : Agr (· = w.heap.size + 1) w5.drew Y) => hB5.drew.trans (h.below (B := w.heap.size) (by show w.heap.size ≤ w5.heap.size; omega) (fun i hi => by omega)))
        have hRx := hR.drew
        have hg0 : Agr (· = w.heap.size + 1) w5.drew w5.drew := Agr.refl _ _
        have HVB := Lib.hid hbw
        have hXd : w5.drew.heap.size = w5.heap.size := rfl
        have en : IntKind.i64.wrap ((xs.length : Int) + 2) = (xs.length : Int) + 2 := IntWalk.i64_in _ (by omega)
        clear hO hR hB5 hRw hbw
        go_wp2
        refine wp_region_held_drew (S := fun X => X.cell? ⟨bx, 0, none⟩ = some (.slice A2 s.flash.length c2) ∧ X.cell? ⟨bx, 1, none⟩ = some (.slice D2 s.disk.length d2)) (by kernel_rfl) ⟨(hq.out _ hg0).1, (hq.out _ hg0).2.1⟩ (fun hHeld0 => ?_)
        refine wpAnyH_take (i := 0) (v := ?vd1) rfl (by kernel_rfl) (by kernel_rfl) (by kernel_rfl) (fun _ _ _ h => h) (Or.inl ⟨by kernel_rfl, ?yd1⟩) hHeld0 ?rd1
        case yd1 => (intro w' hS; (try dsimp only at hS); obtain ⟨s0, s1⟩ := hS; (try go_simp); (try with_reducible rfl))
        try simp only [Act.put, List.getElem_toArray, List.getElem_cons_zero, List.getElem_cons_succ, List.setIfInBounds_toArray, List.set_cons_zero, List.set_cons_succ]
        refine wpAnyH_take (i := 1) (v := ?vd2) rfl (by kernel_rfl) (by kernel_rfl) (by kernel_rfl) (fun _ _ _ h => h) (Or.inl ⟨by kernel_rfl, ?yd2⟩) hHeld0 ?rd2
        case yd2 => (intro w' hS; (try dsimp only at hS); obtain ⟨s0, s1⟩ := hS; (try go_simp); (try with_reducible rfl))
        try simp only [Act.put, List.getElem_toArray, List.getElem_cons_zero, List.getElem_cons_succ, List.setIfInBounds_toArray, List.set_cons_zero, List.set_cons_succ]
        refine wpAnyH_take (i := 2) (v := ?vd3) rfl (by kernel_rfl) (by kernel_rfl) (by kernel_rfl) (fun _ _ _ h => h) (Or.inl ⟨by kernel_rfl, ?yd3⟩) hHeld0 ?rd3
        case yd3 => (intro w' hS; (try dsimp only at hS); obtain ⟨s0, s1⟩ := hS; (try go_simp); (try with_reducible rfl))
        try simp only [Act.put, List.getElem_toArray, List.getElem_cons_zero, List.getElem_cons_succ, List.setIfInBounds_toArray, List.set_cons_zero, List.set_cons_succ]
        refine wpAnyH_take (i := 3) (v := ?vd4) rfl (by kernel_rfl) (by kernel_rfl) (by kernel_rfl) (fun _ _ _ h => h) (Or.inl ⟨by kernel_rfl, ?yd4⟩) hHeld0 ?rd4
        case yd4 => (intro w' hS; (try dsimp only at hS); obtain ⟨s0, s1⟩ := hS; (try go_simp); (try with_reducible rfl))
        try simp only [Act.put, List.getElem_toArray, List.getElem_cons_zero, List.getElem_cons_succ, List.setIfInBounds_toArray, List.set_cons_zero, List.set_cons_succ]
        refine wpAnyH_take (i := 4) (v := ?vd5) rfl (by kernel_rfl) (by kernel_rfl) (by kernel_rfl) (fun _ _ _ h => h) (Or.inl ⟨by kernel_rfl, ?yd5⟩) hHeld0 ?rd5
        case yd5 => (intro w' hS; (try dsimp only at hS); obtain ⟨s0, s1⟩ := hS; (try go_simp); (try with_reducible rfl))
        try simp only [Act.put, List.getElem_toArray, List.getElem_cons_zero, List.getElem_cons_succ, List.setIfInBounds_toArray, List.set_cons_zero, List.set_cons_succ]
        refine wpAnyH_take (i := 5) (v := ?vd6) rfl (by kernel_rfl) (by kernel_rfl) (by kernel_rfl) (fun _ _ _ h => h) (Or.inl ⟨by kernel_rfl, ?yd6⟩) hHeld0 ?rd6
        case yd6 => (intro w' hS; (try dsimp only at hS); obtain ⟨s0, s1⟩ := hS; (try go_simp); (try with_reducible rfl))
        try simp only [Act.put, List.getElem_toArray, List.getElem_cons_zero, List.getElem_cons_succ, List.setIfInBounds_toArray, List.set_cons_zero, List.set_cons_succ]
        refine wpAnyH_take (i := 7) (v := ?vd7) rfl (by kernel_rfl) (by kernel_rfl) (by kernel_rfl) (fun _ _ _ h => h) (Or.inl ⟨by kernel_rfl, ?yd7⟩) hHeld0 ?rd7
        case yd7 => (intro w' hS; (try dsimp only at hS); obtain ⟨s0, s1⟩ := hS; (try go_simp); (try with_reducible rfl))
        try simp only [Act.put, List.getElem_toArray, List.getElem_cons_zero, List.getElem_cons_succ, List.setIfInBounds_toArray, List.set_cons_zero, List.set_cons_succ]
        refine wpAnyH_take (i := 12) (v := ?vd8) rfl (by kernel_rfl) (by kernel_rfl) (by kernel_rfl) (fun _ _ _ h => h) (Or.inl ⟨by kernel_rfl, ?yd8⟩) hHeld0 ?rd8
        case yd8 => (intro w' hS; (try dsimp only at hS); obtain ⟨s0, s1⟩ := hS; (try go_simp); (try with_reducible rfl))
        try simp only [Act.put, List.getElem_toArray, List.getElem_cons_zero, List.getElem_cons_succ, List.setIfInBounds_toArray, List.set_cons_zero, List.set_cons_succ]
        refine wpAnyH_ready (rs := [6]) (by kernel_rfl) (by simp) ?_
        refine AllReadyH.cons rfl (fun K hK => ?_) AllReadyH.nil
        go_simp
        refine (spec_pickI (xs.length + 2) ((xs.length : Int) + 2) _ _ (0 + 1250 + 7 + 1) _ (by omega) (by omega) (by omega) (by omega) hRx).mono ?_
        rintro e w10 ⟨k10, rfl, hk10, hRw10, hc⟩
        have hgw10 := hg0.trans hc (fun _ _ h => h)
        clear hc
        go_wp2_with fail
        refine hK.out _ _ (⟨(hq.out _ hgw10).1, (hq.out _ hgw10).2.1⟩) (fun hHd1 => ?_)
        clear hK K
        try simp only [Act.put, List.getElem_toArray, List.getElem_cons_zero, List.getElem_cons_succ, List.setIfInBounds_toArray, List.set_cons_zero, List.set_cons_succ]
        refine wpAnyH_ready (rs := [8]) (by kernel_rfl) (by simp) ?_
        refine AllReadyH.cons rfl (fun K hK => ?_) AllReadyH.nil
        go_simp
        refine (spec_pickI (24) (24) _ _ (0 + 1250 + 7 + 1 + 1) _ rfl (by omega) (by omega) (by omega) hRw10).mono ?_
        rintro e w11 ⟨k11, rfl, hk11, hRw11, hc⟩
        have hgw11 := hgw10.trans hc (fun _ _ h => h)
        have ek1 : IntKind.i64.wrap ((k11 : Int) / 23) = (k11 : Int) / 23 := IntWalk.i64_in _ (by omega)
        have ek2 : IntKind.i64.wrap ((k11 : Int) / 23 * 9) = (k11 : Int) / 23 * 9 := IntWalk.i64_in _ (by omega)
        have ek3 : IntKind.i64.wrap ((k10 : Int) - (k11 : Int) / 23 * 9) = (k10 : Int) - (k11 : Int) / 23 * 9 := IntWalk.i64_in _ (by omega)
        clear hc
        go_wp2_with fail
        refine hK.out _ _ (⟨(hq.out _ hgw11).1, (hq.out _ hgw11).2.1⟩) (fun hHd2 => ?_)
        clear hK K
        try simp only [Act.put, List.getElem_toArray, List.getElem_cons_zero, List.getElem_cons_succ, List.setIfInBounds_toArray, List.set_cons_zero, List.set_cons_succ]
        refine wpAnyH_take (i := 9) (v := ?vd9) rfl (by kernel_rfl) (by kernel_rfl) (by kernel_rfl) (fun _ _ _ h => h) (Or.inl ⟨by kernel_rfl, ?yd9⟩) hHd2 ?rd9
        case yd9 => (intro w' hS; (try dsimp only at hS); obtain ⟨s0, s1⟩ := hS; (try go_simp); (try with_reducible rfl))
        try simp only [Act.put, List.getElem_toArray, List.getElem_cons_zero, List.getElem_cons_succ, List.setIfInBounds_toArray, List.set_cons_zero, List.set_cons_succ]
        refine wpAnyH_take (i := 10) (v := ?vd10) rfl (by kernel_rfl) (by kernel_rfl) (by kernel_rfl) (fun _ _ _ h => h) (Or.inl ⟨by kernel_rfl, ?yd10⟩) hHd2 ?rd10
        case yd10 => (intro w' hS; (try dsimp only at hS); obtain ⟨s0, s1⟩ := hS; (try go_simp); (try with_reducible rfl))
        try simp only [Act.put, List.getElem_toArray, List.getElem_cons_zero, List.getElem_cons_succ, List.setIfInBounds_toArray, List.set_cons_zero, List.set_cons_succ]
        refine wpAnyH_take (i := 11) (v := ?vd11) rfl (by kernel_rfl) (by kernel_rfl) (by kernel_rfl) (fun _ _ _ h => h) (Or.inl ⟨by kernel_rfl, ?yd11⟩) hHd2 ?rd11
        case yd11 => (intro w' hS; (try dsimp only at hS); obtain ⟨s0, s1⟩ := hS; (try go_simp); (try with_reducible rfl))
        try simp only [Act.put, List.getElem_toArray, List.getElem_cons_zero, List.getElem_cons_succ, List.setIfInBounds_toArray, List.set_cons_zero, List.set_cons_succ]
        refine wpAnyH_ready (rs := [13]) (by kernel_rfl) (by simp) ?_
        refine AllReadyH.cons rfl (fun K hK => ?_) AllReadyH.nil
        go_simp
        refine (spec_pickI (2) (2) _ _ (0 + 1250 + 7 + 1 + 1 + 1) _ rfl (by omega) (by omega) (by omega) hRw11).mono ?_
        rintro e w12 ⟨k12, rfl, hk12, hRw12, hc⟩
        have hgw12 := hgw11.trans hc (fun _ _ h => h)
        clear hc
        go_wp2_with fail
        refine hK.out _ _ (⟨(hq.out _ hgw12).1, (hq.out _ hgw12).2.1⟩) (fun hHd3 => ?_)
        clear hK K
        try simp only [Act.put, List.getElem_toArray, List.getElem_cons_zero, List.getElem_cons_succ, List.setIfInBounds_toArray, List.set_cons_zero, List.set_cons_succ]
        refine wpAnyH_take (i := 14) (v := ?vd12) rfl (by kernel_rfl) (by kernel_rfl) (by kernel_rfl) (fun _ _ _ h => h) (Or.inl ⟨by kernel_rfl, ?yd12⟩) hHd3 ?rd12
        case yd12 => (intro w' hS; (try dsimp only at hS); obtain ⟨s0, s1⟩ := hS; (try go_simp); (try with_reducible rfl))
        try simp only [Act.put, List.getElem_toArray, List.getElem_cons_zero, List.getElem_cons_succ, List.setIfInBounds_toArray, List.set_cons_zero, List.set_cons_succ]
        refine wpAnyH_ready (rs := [15]) (by kernel_rfl) (by simp) ?_
        refine AllReadyH.cons rfl (fun K hK => ?_) AllReadyH.nil
        obtain ⟨z0, z1, z2, z3⟩ := hr.out _ hgw12
        go_simp
        have hL := laid_cells z0 z1 (.slice A2 s.flash.length c2) (.slice D2 s.disk.length d2)
        have hzb := lt_of_cell (hq.out _ hgw12).1
        refine hK.out _ _ (⟨(hL.agr.cell (b := bx) hzb (by omega) 0).trans (hq.out _ hgw12).1, (hL.agr.cell (b := bx) hzb (by omega) 1).trans (hq.out _ hgw12).2.1⟩) (fun hHd4 => ?_)
        clear hK K
        try simp only [Act.put, List.getElem_toArray, List.getElem_cons_zero, List.getElem_cons_succ, List.setIfInBounds_toArray, List.set_cons_zero, List.set_cons_succ]
        refine wpAnyH_take (i := 16) (v := ?vd13) rfl (by kernel_rfl) (by kernel_rfl) (by kernel_rfl) (fun _ _ _ h => h) (Or.inl ⟨by kernel_rfl, ?yd13⟩) hHd4 ?rd13
        case yd13 => (intro w' hS; (try dsimp only at hS); obtain ⟨s0, s1⟩ := hS; (try go_simp); (try with_reducible rfl))
        try simp only [Act.put, List.getElem_toArray, List.getElem_cons_zero, List.getElem_cons_succ, List.setIfInBounds_toArray, List.set_cons_zero, List.set_cons_succ]
        refine wpAnyH_take (i := 17) (v := ?vd14) rfl (by kernel_rfl) (by kernel_rfl) (by kernel_rfl) (fun _ _ _ h => h) (Or.inl ⟨by kernel_rfl, ?yd14⟩) hHd4 ?rd14
        case yd14 => (intro w' hS; (try dsimp only at hS); obtain ⟨s0, s1⟩ := hS; (try go_simp); (try with_reducible rfl))
        try simp only [Act.put, List.getElem_toArray, List.getElem_cons_zero, List.getElem_cons_succ, List.setIfInBounds_toArray, List.set_cons_zero, List.set_cons_succ]
        refine wpAnyH_take (i := 18) (v := ?vd15) rfl (by kernel_rfl) (by kernel_rfl) (by kernel_rfl) (fun _ _ _ h => h) (Or.inl ⟨by kernel_rfl, ?yd15⟩) hHd4 ?rd15
        case yd15 => (intro w' hS; (try dsimp only at hS); obtain ⟨s0, s1⟩ := hS; (try go_simp); (try with_reducible rfl))
        try simp only [Act.put, List.getElem_toArray, List.getElem_cons_zero, List.getElem_cons_succ, List.setIfInBounds_toArray, List.set_cons_zero, List.set_cons_succ]
        refine wpAnyH_done (by kernel_rfl) ?_ _
        have hVf := (hVx.out _ hgw12).agr hL.agr (fun b hb => by have := HVB.out b hb; omega)
        have hzf := hgw12.size
        have hsz := hL.size
        have hOf := hOx.out _ hgw12
        have hBf := hBx.out _ hgw12
        have hAL := hL.agr
        have r0 := hL.new_ 0 _ rfl
        have r1 := hL.new_ 1 _ rfl
        clear hL
        go_wp2
        exact bodyPost_ret (v := .tuple #[.agg #[.slice A2 s.flash.length c2, .slice D2 s.disk.length d2], .slice Av (xs.length) cv, .int .i64 ((k10 : Int) - (k11 : Int) / 23 * 9), .bool ((k12 : Int) == 0)]) (by simp [results, Try.results31, go_sem, r0, r1, z0, z1]) rfl ⟨A2, D2, c2, d2, s, Av, cv, xs, (k10 : Int) - (k11 : Int) / 23 * 9, ((k12 : Int) == 0), rfl, by omega, hcv, by omega, hVf, fun b hb => (by have := HVB.out b hb; omega), StoreD.one HS.out hOf hBf (by omega) (by omega) hAL⟩
end Go.Proofs.Ytbekihiiildgmaa
namespace Go.Proofs.Ytbekihiiildgmaa
set_option linter.unusedVariables false
set_option linter.unusedSimpArgs false
open Go.RowKit Go.WideShapes Go.ChangeShapes
section
variable {H : Type} {enc : TypeId × Value → H} {P : Program}
/-- an argument reads behind the call as before, if below the heap's old size nothing has turned -/
theorem trod_kept {t : TypeId} (hl : laidOutB P = true) (hr : P.readableRec t = true) (hrow : t < P.types.size) {W W' : World} {v : Value} {d : DataW H} {ps qs : List MemPlace} {sp : Nat → Bool}
    (h : DataW.Trod enc P W 0 (fun _ => true) true t v d ps) (hb : Below W.heap.size W W') (hlt : ∀ x ∈ qs, x.block < W.heap.size) (hsp : ∀ p ∈ qs, sp p.block = true) (hq : ∀ x ∈ ps, x ∈ qs) : DataW.Trod enc P W' 0 sp true t v d ps :=
  WideElems.Trod_stays hl hr hrow h (fun x hx => hb.same (hlt x (hq x hx))) (fun x hx => hsp x (hq x hx))
theorem post_of_below {f : Func} {s : ChangeSpec} {apart fresh handsOn again : Bool} {W W' : World} {args : Array Value} {v : Value} {ds gs : List (DataW H)} {before pa pv : List MemPlace}
    (hW : DataW.Whole enc P f.params.toList s.vars apart W args.toList ds gs before)
    (hres : ∀ (b : Nat) (sp : Nat → Bool) (hd : Bool), DataW.TrodAll enc P W' b sp hd f.resultTypes.toList (v.resultList f.resultTypes.size) (s.fn H (ds ++ gs)).results [])
    (hargs : ∀ sp : Nat → Bool, (∀ p ∈ before, sp p.block = true) → DataW.TrodAll enc P W' 0 sp true f.params.toList args.toList (s.fn H (ds ++ gs)).args pa)
    (hvars : ∀ sp : Nat → Bool, (∀ p ∈ before, sp p.block = true) → DataW.TrodVars enc P W' sp s.vars (s.fn H (ds ++ gs)).vars pv)
    (hps : before = pa ++ pv) (hb : Below W.heap.size W W')
    (hok : ∀ (j : Nat) (t : TypeId) (r : Value), f.resultTypes[j]? = some t → (v.resultList f.resultTypes.size)[j]? = some r → Value.okWide P W' .any 0 t r) :
    s.post enc P f apart fresh handsOn again W args v W' := by
  have hlt : ∀ p ∈ before, p.block < W.heap.size := fun p hp => hW.lt p hp
  have hold : ∀ p ∈ before, (fun b => decide (b < W.heap.size)) p.block = true := fun p hp => by simpa using hlt p hp
  refine ⟨ds, gs, before, [], pa, pv, hW, hres _ _ _, hargs _ hold, hvars _ hold, World.keptBut_mono (fun p hp => ⟨hp, ?_⟩) (hb.frame (· ∈ before)), fun _ => ?_⟩
  · rw [hps, List.mem_append] at hp
    exact Or.inr hp
  · obtain ⟨_, _, _, _, _, hz, hn⟩ := hW
    refine ⟨hok, _, _, ([] ++ pa) ++ pv, ⟨[] ++ pa, pv, trodAll_append (hargs _ (fun _ _ => rfl)) (hres _ _ _), hvars _ (fun _ _ => rfl), rfl, ?_, ?_⟩, ?_⟩
    · intro b off hp
      have hin : MemPlace.cell b off ∈ before := by rw [hps]; simpa using hp
      rw [hb.frozen (hlt _ hin)]
      exact hz b off hin
    · intro ha
      have := hn ha
      rw [hps] at this
      simpa using this
    · intro p hp _
      rw [hps]
      simpa using hp
end
end Go.Proofs.Ytbekihiiildgmaa
namespace Go.Proofs.Ytbekihiiildgmaa
set_option linter.unusedVariables false
set_option linter.unusedSimpArgs false
open Go.RowKit Go.ChangeShapes Go.WideShapes Go.Deep
set_option maxRecDepth 100000
section
variable {H : Type} {enc : TypeId × Value → H} {w : World} {base fuel : Nat} {spare : Nat → Bool} {held : Bool}
theorem plain_addr' {w : World} {a : Addr} {u : Value} (h : w.cell? a = some u) : ∃ b o, a = ⟨b, o, none⟩ := by
  obtain ⟨b, o, s⟩ := a
  cases s with
  | none => exact ⟨b, o, rfl⟩
  | some s =>
    have : w.cell? ⟨b, o, some s⟩ = none := by
      unfold World.cell?
      split
      · exact if_pos rfl
      · rfl
    rw [this] at h; cases h
theorem cellsOf_u8 : Try.prog.cellsOf 5 = 1 := by kernel_rfl
theorem bytes_of {cs : List Value} {x : DataW H × List MemPlace} (h : DataW.trod enc Try.prog w base spare held fuel 22 cs = some x) : ∃ A c bs, cs = [.slice A (List.length bs) c] ∧ Code w A bs c := by
  rcases open_ints Try.underlying22 Try.underlying5 cellsOf_u8 h with ⟨rfl, _⟩ | ⟨a, len, cap, zs, rfl, _, hlc, hcm, hzl, _, hcell, hwf⟩
  · exact ⟨none, 0, [], rfl, ⟨Nat.le_refl _, by omega, by simp, fun h => absurd rfl h⟩⟩
  · have hlz : len ≤ zs.length := by rw [hzl]; split <;> omega
    have hz : ∀ i, i < zs.length → zs.getD i 0 ∈ zs := fun i hi => by
      rw [List.getD_eq_getElem?_getD, List.getElem?_eq_getElem hi]
      exact List.getElem_mem hi
    have hr : ∀ n ∈ zs, 0 ≤ n ∧ n < 256 := fun n hn => by
      have := hwf n hn
      have h1 : IntKind.u8.min = 0 := rfl
      have h2 : IntKind.u8.max = 255 := rfl
      change (decide (IntKind.u8.min ≤ n) && decide (n ≤ IntKind.u8.max)) = true at this
      rw [h1, h2] at this
      simp at this
      omega
    refine ⟨some a, cap, (List.range len).map fun i => (zs.getD i 0).toNat, by simp, ⟨by simpa using hlc, by unfold maxLen at hcm; omega, fun b hb => ?_, fun hne => ?_⟩⟩
    · obtain ⟨i, hi, rfl⟩ := List.mem_map.1 hb
      have := hr _ (hz i (by have := List.mem_range.1 hi; omega))
      omega
    · have hn : 0 < len := by
        rcases Nat.eq_zero_or_pos len with h0 | h0
        · rw [h0] at hne; simp [bytes] at hne
        · exact h0
      have h0 := hcell 0 (by omega)
      obtain ⟨b, o, rfl⟩ := plain_addr' (a := a) (by simpa [Addr.add] using h0)
      refine ⟨b, o, rfl, fun j u hj => ?_⟩
      have hjl : j < len := by
        have := (List.getElem?_eq_some_iff.1 hj).1
        simpa [bytes] using this
      have hc := hcell j (by omega)
      rw [addr_add] at hc
      rw [hc]
      have hb := hr _ (hz j (by omega))
      rw [bytes, List.getElem?_map, List.getElem?_map, List.getElem?_range hjl] at hj
      simp only [Option.map_some, Option.some.injEq] at hj
      rw [← hj]
      have : (((zs.getD j 0).toNat : Nat) : Int) = zs.getD j 0 := by omega
      rw [this]
end
end Go.Proofs.Ytbekihiiildgmaa
