/- Walks: a law over steps: FnToDisk. -/
import Derived.Test.YtbekihiiildgmaaX8
import Derived.Test.YtbekihiiildgmaaX9
namespace Go.Proofs.Ytbekihiiildgmaa
set_option linter.unusedVariables false
set_option linter.unusedSimpArgs false
open Go.RowKit Go.Maps
set_option maxHeartbeats 400000
theorem diskTo_take {d : List Int} {xs : List Sp} {k : Nat} {x : Sp} (h : xs[k]? = some x) : diskTo d (xs.take (k + 1)) = if x.kind = 1 then (diskTo d (xs.take k)).set (x.addr - 1).toNat x.val else diskTo d (xs.take k) := by
  rw [List.take_add_one, h]; exact diskTo_snoc _ _ _
theorem take_cut {α : Type} {xs : List α} {cut : Int} {j : Nat} (h1 : j ≤ xs.length) (h2 : (j : Int) ≤ cut) (h3 : ¬ (j < xs.length ∧ (j : Int) < cut)) : xs.take cut.toNat = xs.take j := by
  by_cases h : j < xs.length
  · have : ¬ (j : Int) < cut := fun h4 => h3 ⟨h, h4⟩
    rw [show cut.toNat = j by omega]
  · rw [List.take_of_length_le (by omega), List.take_of_length_le (by omega)]
set_option maxHeartbeats 8000000 in
set_option maxRecDepth 100000 in
theorem law_FnToDisk {w : World} (A : Option Addr) (bs : List Nat) (c : Nat) (hc : Code w A bs c) :
    Calls Try.prog 6 #[.slice A bs.length c] w fun e w' => e = .returned (.bool true) ∧ Below w.heap.size w w' := by
  by_cases hlen : (1048576 : Int) < bs.length
  · go_enter Try.func6, Try.ntmps6
    go_wp2
    go_ret
    exact ⟨rfl, Below.refl _ _⟩
  go_enter Try.func6, Try.ntmps6
  go_wp2_with fail
  refine (spec_DrawStepsTo A bs c _ hc).mono ?_
  rintro e w1 ⟨A1, D1, c1, d1, s, V, vc, xs, cut, torn, rfl, hxl, hxc, hcut, hX, hVb, hsm, hO, hB1⟩
  have hs1 := hB1.size
  have HSM := Lib.hid hsm
  have HCUT := Lib.hid hcut
  clear hsm hcut
  have hHbx := Held.new w1 (c := c1) (d := d1) hO.ofl.fl hO.disk rfl rfl
  replace hX := hX.below ((Below.refl w1.heap.size w1).alloc (Nat.le_refl _) (.cells #[.slice A1 s.flash.length c1, .slice D1 s.disk.length d1] 26)) (Nat.le_refl _)
  have hBW1 := hB1.alloc hB1.size (.cells #[.slice A1 s.flash.length c1, .slice D1 s.disk.length d1] 26)
  have hzW1 : (w1.alloc (.cells #[.slice A1 s.flash.length c1, .slice D1 s.disk.length d1] 26)).heap.size = w1.heap.size + 1 := by simp
  obtain ⟨W1, hEW1⟩ : ∃ W, w1.alloc (.cells #[.slice A1 s.flash.length c1, .slice D1 s.disk.length d1] 26) = W := ⟨_, rfl⟩
  obtain ⟨bx, hEbx⟩ : ∃ b, w1.heap.size = b := ⟨_, rfl⟩
  rw [hEW1] at hHbx hBW1 hzW1 hX
  rw [hEbx] at hHbx hzW1
  have x0 := hHbx.x0
  have x1 := hHbx.x1
  clear hB1
  clear hO
  have HVB : Hid (∀ b, blk V b → b < W1.heap.size) := fun b hb => by have := hVb b hb; omega
  clear hVb
  by_cases hok : (toR s xs cut torn).2 = true
  · obtain ⟨hc0, hos, hst, htr⟩ := toR_true hok
    have HOK := Lib.hid hos
    have HST := Lib.hid hst
    have HC0 := Lib.hid hc0
    have HTF : Hid (stFine (doTo s xs cut torn)) := doTo_fine hos.fine (fun x hx => stepB_fine (hst x hx)) _ _
    have HTI : Hid (∀ d, d = (doTo s xs cut torn).disk → d = diskTo s.disk (xs.take cut.toNat)) := fun d hd => hd.trans (doTo_told s xs cut torn)
    have HSP : Hid (∀ k : Nat, (k : Int) ≤ cut → k ≤ xs.length → doTo (doTo s (xs.take k) k false) (xs.drop k) (cut - k) torn = doTo s xs cut torn) := fun k hk hx => doTo_split hk hx
    obtain ⟨t, htd⟩ : ∃ t, doTo s xs cut torn = t := ⟨_, rfl⟩
    rw [htd] at htr HTF HTI HSP
    have HTR := Lib.hid htr
    clear hok hos hst htr hc0 htd
    have HL4 : Hid (s.flash.length = 4) := flashOk_len HOK.out.flash
    have HL6 : Hid (s.disk.length = 6) := HOK.out.len
    rw [HL4.out, HL6.out] at hHbx
    replace x0 := hHbx.x0
    replace x1 := hHbx.x1
    go_wp2_with fail
    refine (spec_StepsTo_t HTR.out HTF.out (by omega) (small_fl HSM.out) A1 D1 V 4 6 c1 d1 vc _ _ hHbx.hn hHbx.hm rfl hHbx.fl hHbx.dk hX (fun b hb => by have := HVB.out b hb; omega)).mono ?_
    rintro e w2 ⟨A2, c2, D2, d2, rfl, hF2, hD2, _, hb⟩
    have hs2 := hb.size
    have hB2 := hBW1.trans (hb.mono hBW1.size)
    replace hHbx := hHbx.below hb (Nat.le_refl _)
    replace x0 := hHbx.x0
    replace x1 := hHbx.x1
    replace hX := hX.below hb (Nat.le_refl _)
    clear hb hBW1
    have hHbw := Held.fine HTF.out c2 d2 hF2.fl hD2
    replace hHbx := hHbx.below ((Below.refl w2.heap.size w2).alloc (Nat.le_refl _) (.cells #[.slice A2 4 c2, .slice D2 6 d2] 26)) (Nat.le_refl _)
    replace hX := hX.below ((Below.refl w2.heap.size w2).alloc (Nat.le_refl _) (.cells #[.slice A2 4 c2, .slice D2 6 d2] 26)) (Nat.le_refl _)
    have hBW2 := hB2.alloc hB2.size (.cells #[.slice A2 4 c2, .slice D2 6 d2] 26)
    have hzW2 : (w2.alloc (.cells #[.slice A2 4 c2, .slice D2 6 d2] 26)).heap.size = w2.heap.size + 1 := by simp
    obtain ⟨W2, hEW2⟩ : ∃ W, w2.alloc (.cells #[.slice A2 4 c2, .slice D2 6 d2] 26) = W := ⟨_, rfl⟩
    obtain ⟨bw, hEbw⟩ : ∃ b, w2.heap.size = b := ⟨_, rfl⟩
    rw [hEW2] at hHbw hBW2 hzW2 hHbx hX
    rw [hEbw] at hHbw hzW2
    have m0 := hHbw.x0
    have m1 := hHbw.x1
    replace x0 := hHbx.x0
    replace x1 := hHbx.x1
    clear hB2
    clear hF2 hD2
    go_wp2_with fail
    refine (impl_StepsTo_t HTR.out HTF.out (by omega) A1 D1 V 4 6 c1 d1 vc _ _ hHbx.hn hHbx.hm rfl hHbx.fl hHbx.dk hX).mono ?_
    rintro e w3 ⟨A3, c3, D3, d3, rfl, hF3, hD3, _, hb⟩
    have hs3 := hb.size
    have hB3 := hBW2.trans (hb.mono hBW2.size)
    replace hHbx := hHbx.below hb (Nat.le_refl _)
    replace x0 := hHbx.x0
    replace x1 := hHbx.x1
    replace hHbw := hHbw.below hb (Nat.le_refl _)
    replace m0 := hHbw.x0
    replace m1 := hHbw.x1
    replace hX := hX.below hb (Nat.le_refl _)
    clear hb hBW2
    have hHbt := Held.fine HTF.out c3 d3 hF3.fl hD3
    replace hHbx := hHbx.below ((Below.refl w3.heap.size w3).alloc (Nat.le_refl _) (.cells #[.slice A3 4 c3, .slice D3 6 d3] 26)) (Nat.le_refl _)
    replace hHbw := hHbw.below ((Below.refl w3.heap.size w3).alloc (Nat.le_refl _) (.cells #[.slice A3 4 c3, .slice D3 6 d3] 26)) (Nat.le_refl _)
    replace hX := hX.below ((Below.refl w3.heap.size w3).alloc (Nat.le_refl _) (.cells #[.slice A3 4 c3, .slice D3 6 d3] 26)) (Nat.le_refl _)
    have hBW3 := hB3.alloc hB3.size (.cells #[.slice A3 4 c3, .slice D3 6 d3] 26)
    have hzW3 : (w3.alloc (.cells #[.slice A3 4 c3, .slice D3 6 d3] 26)).heap.size = w3.heap.size + 1 := by simp
    obtain ⟨W3, hEW3⟩ : ∃ W, w3.alloc (.cells #[.slice A3 4 c3, .slice D3 6 d3] 26) = W := ⟨_, rfl⟩
    obtain ⟨bt, hEbt⟩ : ∃ b, w3.heap.size = b := ⟨_, rfl⟩
    rw [hEW3] at hHbt hBW3 hzW3 hHbx hHbw hX
    rw [hEbt] at hHbt hzW3
    have t0 := hHbt.x0
    have t1 := hHbt.x1
    replace x0 := hHbx.x0
    replace x1 := hHbx.x1
    replace m0 := hHbw.x0
    replace m1 := hHbw.x1
    clear hB3
    clear hF3 hD3
    go_wp2_with fail
    refine (laws_lqStore_fine HTF.out A3 D3 A2 D2 c3 d3 c2 d2 _ hHbt.fl hHbt.dk hHbw.fl hHbw.dk).mono ?_
    rintro e w4 ⟨rfl, hb⟩
    have hs4 := hb.size
    have hB4 := hBW3.trans (hb.mono hBW3.size)
    replace hHbx := hHbx.below hb (Nat.le_refl _)
    replace x0 := hHbx.x0
    replace x1 := hHbx.x1
    replace hHbt := hHbt.below hb (Nat.le_refl _)
    replace t0 := hHbt.x0
    replace t1 := hHbt.x1
    replace hX := hX.below hb (Nat.le_refl _)
    clear hb hBW3
    clear hHbw m0 m1
    obtain ⟨db, dO, rfl⟩ := hHbx.dk.addr (ints_ne' (by intro e; have := HL6.out; rw [e] at this; simp at this))
    have hOn := OwnI.lit w4 w4.heap.size (Nat.le_refl _)
    have hBn : Below w4.heap.size w4 (w4.alloc (.cells #[] 3)) := by (repeat (first | (with_reducible exact Below.refl _ _) | (with_reducible assumption) | (refine Below.setCell ?_ (by first | omega | exact hB.size | exact hb.size | (have h := hB.size; simp; omega) | (have h := hb.size; simp; omega) | (simp; omega) | simp) _) | (refine Below.alloc ?_ (by first | omega | exact hB.size | exact hb.size | (have h := hB.size; simp; omega) | (have h := hb.size; simp; omega) | (simp; omega) | simp) _) | (refine Below.drew ?_)))
    have hDn := hHbx.dk.alloc (.cells #[] 3)
    have x0n := (hHbx.below hBn (Nat.le_refl _)).x0
    have x1n := (hHbx.below hBn (Nat.le_refl _)).x1
    clear x0 x1
    go_wp2_with (at_builtin; refine wpList_ints rfl (.tmp 60) (.tmp 62) rfl w4.heap.size (.slice (some ⟨w4.heap.size, 0, none⟩) 0 0) [] s.disk rfl hOn db dO 6 6 d1 rfl HL6.out.symm (by simp) hDn (by omega) (by omega) (by simp) ?_; intro g7 c7 w7 hO7 hB7)
    obtain ⟨_, _, e7, hR7, hb7, _⟩ := hO7.out
    simp only [Value.slice.injEq] at e7
    obtain ⟨rfl, -, rfl⟩ := e7
    have hg7 := (hb7 g7 (blk_some.2 rfl)).1
    have hB47 := hBn.trans hB7
    replace hR7 : Row w7 (some ⟨g7, 0, none⟩) (ints s.disk) := hR7
    clear hO7 hB7 hb7 hOn hBn hDn x0n x1n
    go_wp2
    go_loopw [12] (fun i wr => ∃ j : Nat, j ≤ xs.length ∧ (j : Int) ≤ cut ∧ i = .int .i64 j ∧ Row wr (some ⟨g7, 0, none⟩) (ints (diskTo s.disk (xs.take j))) ∧ Below w4.heap.size w4 wr) (fun i _ => xs.length - (intOf i).toNat)
    case atStart => exact ⟨0, by omega, HC0.out, rfl, hR7, hB47⟩
    case round =>
      obtain ⟨j, hj1, hj2, rfl, hRr, hBr⟩ := hrel
      by_cases hlt : j < xs.length
      · have hi1 : (j : Int) < xs.length := by omega
        by_cases hlc : (j : Int) < cut
        · obtain ⟨⟨xk, xa, xv, xb, xr⟩, hx⟩ := get_some hlt
          have hsf := stepB_fine (HST.out _ (List.mem_of_getElem? hx))
          have hne : sps xs ≠ [] := by intro e; have := sps_len xs; rw [e] at this; simp at this; omega
          obtain ⟨lb, lo, rfl⟩ := hX.addr hne
          have hlb := hX.lt hne (blk_some.2 rfl)
          obtain ⟨p0, p1, p2, _⟩ := (hX.below hBr (Nat.le_refl _)).sp hx
          dsimp only at p0 p1 p2
          have ew : IntKind.i64.wrap ((j : Int) + 1) = (j : Int) + 1 := IntWalk.i64_in _ (by omega)
          have hdt := diskTo_take (d := s.disk) hx
          dsimp only at hdt
          clear hne
          by_cases hk : xk = 1
          · have hk1 : (xk == 1) = true := by rw [hk]; rfl
            rw [if_pos hk] at hdt
            obtain ⟨ha1, ha6, _⟩ := hsf.1 hk
            dsimp only at ha1 ha6
            clear hk hsf
            obtain ⟨k, hka, hk6⟩ : ∃ k : Nat, xa = (k : Int) + 1 ∧ k < 6 := ⟨(xa - 1).toNat, by omega, by omega⟩
            subst hka
            have e2 : IntKind.i64.wrap ((k : Int) + 1 - 1) = (k : Int) := by rw [IntWalk.i64_in _ (by omega)]; omega
            have e3 : IntKind.i64.wrap (k : Int) = (k : Int) := IntWalk.i64_in _ (by omega)
            have hkk : (k : Int) < 6 := by omega
            rw [show ((k : Int) + 1 - 1).toNat = k by omega] at hdt
            have hdl : (diskTo s.disk (xs.take j)).length = 6 := by rw [diskTo_len, HL6.out]
            have HDL := Lib.hid hdl
            clear hdl
            obtain ⟨y, hy⟩ := get_some (l := diskTo s.disk (xs.take j)) (k := k) (by rw [HDL.out]; exact hk6)
            obtain ⟨cg, fg⟩ := hRr.int_ hy
            rw [Nat.zero_add] at cg fg
            have HDT := Lib.hid hdt
            clear hy hx hdt ha1 ha6 t0 t1
            go_wp2
            refine wp_region_held_drew (S := fun X => X.cell? ⟨lb, lo + j * 8 + 1, none⟩ = some (.int .i64 ((k : Int) + 1)) ∧ X.cell? ⟨lb, lo + j * 8 + 2, none⟩ = some (.int .i64 xv)) (by kernel_rfl) ⟨(show wr.drew.cell? _ = _ from p1), (show wr.drew.cell? _ = _ from p2)⟩ (fun hHeld0 => ?_)
            refine wpAnyH_take (i := 0) (v := ?va1) rfl (by kernel_rfl) (by kernel_rfl) (by kernel_rfl) (fun _ _ _ h => h) (Or.inl ⟨by kernel_rfl, ?ya1⟩) hHeld0 ?ra1
            case ya1 => (intro w' hS; (try dsimp only at hS); obtain ⟨s0, s1⟩ := hS; (try go_simp); (try with_reducible rfl))
            try simp only [Act.put, List.getElem_toArray, List.getElem_cons_zero, List.getElem_cons_succ, List.setIfInBounds_toArray, List.set_cons_zero, List.set_cons_succ]
            refine wpAnyH_take (i := 1) (v := ?va2) rfl (by kernel_rfl) (by kernel_rfl) (by kernel_rfl) (fun _ _ _ h => h) (Or.inl ⟨by kernel_rfl, ?ya2⟩) hHeld0 ?ra2
            case ya2 => (intro w' hS; (try dsimp only at hS); obtain ⟨s0, s1⟩ := hS; (try go_simp); (try with_reducible rfl))
            try simp only [Act.put, List.getElem_toArray, List.getElem_cons_zero, List.getElem_cons_succ, List.setIfInBounds_toArray, List.set_cons_zero, List.set_cons_succ]
            refine wpAnyH_take (i := 2) (v := ?va3) rfl (by kernel_rfl) (by kernel_rfl) (by kernel_rfl) (fun _ _ _ h => h) (Or.inl ⟨by kernel_rfl, ?ya3⟩) hHeld0 ?ra3
            case ya3 => (intro w' hS; (try dsimp only at hS); obtain ⟨s0, s1⟩ := hS; (try go_simp); (try with_reducible rfl))
            try simp only [Act.put, List.getElem_toArray, List.getElem_cons_zero, List.getElem_cons_succ, List.setIfInBounds_toArray, List.set_cons_zero, List.set_cons_succ]
            refine wpAnyH_take (i := 3) (v := ?va4) rfl (by kernel_rfl) (by kernel_rfl) (by kernel_rfl) (fun _ _ _ h => h) (Or.inl ⟨by kernel_rfl, ?ya4⟩) hHeld0 ?ra4
            case ya4 => (intro w' hS; (try dsimp only at hS); obtain ⟨s0, s1⟩ := hS; (try go_simp); (try with_reducible rfl))
            try simp only [Act.put, List.getElem_toArray, List.getElem_cons_zero, List.getElem_cons_succ, List.setIfInBounds_toArray, List.set_cons_zero, List.set_cons_succ]
            refine wpAnyH_take (i := 4) (v := ?va5) rfl (by kernel_rfl) (by kernel_rfl) (by kernel_rfl) (fun _ _ _ h => h) (Or.inl ⟨by kernel_rfl, ?ya5⟩) hHeld0 ?ra5
            case ya5 => (intro w' hS; (try dsimp only at hS); obtain ⟨s0, s1⟩ := hS; (try go_simp); (try with_reducible rfl))
            try simp only [Act.put, List.getElem_toArray, List.getElem_cons_zero, List.getElem_cons_succ, List.setIfInBounds_toArray, List.set_cons_zero, List.set_cons_succ]
            refine wpAnyH_take (i := 5) (v := ?va6) rfl (by kernel_rfl) (by kernel_rfl) (by kernel_rfl) (fun _ _ _ h => h) (Or.inl ⟨by kernel_rfl, ?ya6⟩) hHeld0 ?ra6
            case ya6 => (intro w' hS; (try dsimp only at hS); obtain ⟨s0, s1⟩ := hS; (try go_simp); (try with_reducible rfl))
            try simp only [Act.put, List.getElem_toArray, List.getElem_cons_zero, List.getElem_cons_succ, List.setIfInBounds_toArray, List.set_cons_zero, List.set_cons_succ]
            refine wpAnyH_take (i := 6) (v := ?va7) rfl (by kernel_rfl) (by kernel_rfl) (by kernel_rfl) (fun _ _ _ h => h) (Or.inl ⟨by kernel_rfl, ?ya7⟩) hHeld0 ?ra7
            case ya7 => (intro w' hS; (try dsimp only at hS); obtain ⟨s0, s1⟩ := hS; (try go_simp); (try with_reducible rfl))
            try simp only [Act.put, List.getElem_toArray, List.getElem_cons_zero, List.getElem_cons_succ, List.setIfInBounds_toArray, List.set_cons_zero, List.set_cons_succ]
            refine wpAnyH_take (i := 7) (v := ?va8) rfl (by kernel_rfl) (by kernel_rfl) (by kernel_rfl) (fun _ _ _ h => h) (Or.inl ⟨by kernel_rfl, ?ya8⟩) hHeld0 ?ra8
            case ya8 => (intro w' hS; (try dsimp only at hS); obtain ⟨s0, s1⟩ := hS; (try go_simp); (try with_reducible rfl))
            try simp only [Act.put, List.getElem_toArray, List.getElem_cons_zero, List.getElem_cons_succ, List.setIfInBounds_toArray, List.set_cons_zero, List.set_cons_succ]
            refine wpAnyH_take (i := 8) (v := ?va9) rfl (by kernel_rfl) (by kernel_rfl) (by kernel_rfl) (fun _ _ _ h => h) (Or.inl ⟨by kernel_rfl, ?ya9⟩) hHeld0 ?ra9
            case ya9 => (intro w' hS; (try dsimp only at hS); obtain ⟨s0, s1⟩ := hS; (try go_simp); (try with_reducible rfl))
            try simp only [Act.put, List.getElem_toArray, List.getElem_cons_zero, List.getElem_cons_succ, List.setIfInBounds_toArray, List.set_cons_zero, List.set_cons_succ]
            refine wpAnyH_take (i := 9) (v := ?va10) rfl (by kernel_rfl) (by kernel_rfl) (by kernel_rfl) (fun _ _ _ h => h) (Or.inl ⟨by kernel_rfl, ?ya10⟩) hHeld0 ?ra10
            case ya10 => (intro w' hS; (try dsimp only at hS); obtain ⟨s0, s1⟩ := hS; (try go_simp); (try with_reducible rfl))
            try simp only [Act.put, List.getElem_toArray, List.getElem_cons_zero, List.getElem_cons_succ, List.setIfInBounds_toArray, List.set_cons_zero, List.set_cons_succ]
            refine wpAnyH_take (i := 10) (v := ?va11) rfl (by kernel_rfl) (by kernel_rfl) (by kernel_rfl) (fun _ _ _ h => h) (Or.inl ⟨by kernel_rfl, ?ya11⟩) hHeld0 ?ra11
            case ya11 => (intro w' hS; (try dsimp only at hS); obtain ⟨s0, s1⟩ := hS; (try go_simp); (try with_reducible rfl))
            try simp only [Act.put, List.getElem_toArray, List.getElem_cons_zero, List.getElem_cons_succ, List.setIfInBounds_toArray, List.set_cons_zero, List.set_cons_succ]
            refine wpAnyH_take (i := 11) (v := ?va12) rfl (by kernel_rfl) (by kernel_rfl) (by kernel_rfl) (fun _ _ _ h => h) (Or.inl ⟨by kernel_rfl, ?ya12⟩) hHeld0 ?ra12
            case ya12 => (intro w' hS; (try dsimp only at hS); obtain ⟨s0, s1⟩ := hS; (try go_simp); (try with_reducible rfl))
            try simp only [Act.put, List.getElem_toArray, List.getElem_cons_zero, List.getElem_cons_succ, List.setIfInBounds_toArray, List.set_cons_zero, List.set_cons_succ]
            refine wpAnyH_take (i := 12) (v := ?va13) rfl (by kernel_rfl) (by kernel_rfl) (by kernel_rfl) (fun _ _ _ h => h) (Or.inl ⟨by kernel_rfl, ?ya13⟩) hHeld0 ?ra13
            case ya13 => (intro w' hS; (try dsimp only at hS); obtain ⟨s0, s1⟩ := hS; (try go_simp); (try with_reducible rfl))
            try simp only [Act.put, List.getElem_toArray, List.getElem_cons_zero, List.getElem_cons_succ, List.setIfInBounds_toArray, List.set_cons_zero, List.set_cons_succ]
            refine wpAnyH_ready (rs := [13]) (by kernel_rfl) (by simp) ?_
            refine AllReadyH.cons rfl (fun K hK => ?_) AllReadyH.nil
            go_simp
            have hWr := wrote_one (w := wr.drew) (show wr.drew.cell? ⟨g7, k, none⟩ = some (.int .i64 y) from cg) (.int .i64 xv)
            have hsw : w4.heap.size ≤ wr.drew.heap.size := hBr.size
            have hBw := hWr.agr.below (B := w4.heap.size) hsw (fun i hi => by omega)
            refine hK.out _ _ (⟨(hBw.cell (p := ⟨lb, lo + j * 8 + 1, none⟩) (by show lb < _; omega)).trans (show wr.drew.cell? _ = _ from p1), (hBw.cell (p := ⟨lb, lo + j * 8 + 2, none⟩) (by show lb < _; omega)).trans (show wr.drew.cell? _ = _ from p2)⟩) (fun hHa1 => ?_)
            clear hK K
            try simp only [Act.put, List.getElem_toArray, List.getElem_cons_zero, List.getElem_cons_succ, List.setIfInBounds_toArray, List.set_cons_zero, List.set_cons_succ]
            refine wpAnyH_done (by kernel_rfl) ?_ _
            have hRn : Row (wr.drew.setCell ⟨g7, k, none⟩ (.int .i64 xv)) (some ⟨g7, 0, none⟩) (ints (diskTo s.disk (xs.take (j + 1)))) := by
              rw [HDT.out, ints_set]
              exact Wrote.row (w := wr.drew) (by rw [Nat.zero_add]; exact hWr) hRr.drew (by rw [ints_len, HDL.out]; simp; omega)
            have hBn := hBr.drew.trans hBw
            clear hWr hBw
            go_wp2
            go_roundw
            (case rel => exact ⟨j + 1, by omega, by omega, by go_num, hRn, hBn⟩)
            (case measure => simp [intOf]; omega)
          · have hk1 : (xk == 1) = false := by simpa using hk
            rw [if_neg hk] at hdt
            rw [← hdt] at hRr
            clear hk hsf hdt hx
            go_wp2
            go_roundw
            (case rel => exact ⟨j + 1, by omega, by omega, by go_num, hRr, hBr⟩)
            (case measure => simp [intOf]; omega)
        · have hd : diskTo s.disk (xs.take j) = t.disk := (by rw [HTI.out _ rfl, take_cut hj1 hj2 (by omega)])
          have HD := Lib.hid hd
          have hHt := hHbt.below hBr (Nat.le_refl _)
          replace t0 := hHt.x0
          replace t1 := hHt.x1
          have hB8 := hB4.trans (hBr.mono hB4.size)
          clear hd
          go_wp2_with fail
          refine (laws_lqInts_6 HD.out (by rw [diskTo_len, HL6.out]) _ D3 c7 d3 _ hRr hHt.dk).mono ?_
          rintro e w9 ⟨rfl, hb⟩
          have hBf := hB8.trans (hb.mono hB8.size)
          go_wp2
          go_ret
          exact ⟨rfl, hBf⟩
      · have hi1 : ¬ (j : Int) < xs.length := by omega
        have hd : diskTo s.disk (xs.take j) = t.disk := (by rw [HTI.out _ rfl, take_cut hj1 hj2 (by omega)])
        have HD := Lib.hid hd
        have hHt := hHbt.below hBr (Nat.le_refl _)
        replace t0 := hHt.x0
        replace t1 := hHt.x1
        have hB8 := hB4.trans (hBr.mono hB4.size)
        clear hd
        go_wp2_with fail
        refine (laws_lqInts_6 HD.out (by rw [diskTo_len, HL6.out]) _ D3 c7 d3 _ hRr hHt.dk).mono ?_
        rintro e w9 ⟨rfl, hb⟩
        have hBf := hB8.trans (hb.mono hB8.size)
        go_wp2
        go_ret
        exact ⟨rfl, hBf⟩
  · have HTN := Lib.hid (toR_false hok)
    clear hok
    go_wp2_with fail
    refine (spec_StepsTo_f HTN.out (by omega) (small_fl HSM.out) A1 D1 V _ _ c1 d1 vc _ _ hHbx.hn hHbx.hm rfl hHbx.fl hHbx.dk hX (fun b hb => by have := HVB.out b hb; omega)).mono ?_
    rintro e w2 ⟨A2, c2, D2, d2, rfl, hb⟩
    have hs2 := hb.size
    have hB2 := hBW1.trans (hb.mono hBW1.size)
    replace hHbx := hHbx.below hb (Nat.le_refl _)
    replace x0 := hHbx.x0
    replace x1 := hHbx.x1
    replace hX := hX.below hb (Nat.le_refl _)
    clear hb hBW1
    have hHbw := Held.no w2 A2 D2 c2 d2
    replace hHbx := hHbx.below ((Below.refl w2.heap.size w2).alloc (Nat.le_refl _) (.cells #[.slice A2 0 c2, .slice D2 0 d2] 26)) (Nat.le_refl _)
    replace hX := hX.below ((Below.refl w2.heap.size w2).alloc (Nat.le_refl _) (.cells #[.slice A2 0 c2, .slice D2 0 d2] 26)) (Nat.le_refl _)
    have hBW2 := hB2.alloc hB2.size (.cells #[.slice A2 0 c2, .slice D2 0 d2] 26)
    have hzW2 : (w2.alloc (.cells #[.slice A2 0 c2, .slice D2 0 d2] 26)).heap.size = w2.heap.size + 1 := by simp
    obtain ⟨W2, hEW2⟩ : ∃ W, w2.alloc (.cells #[.slice A2 0 c2, .slice D2 0 d2] 26) = W := ⟨_, rfl⟩
    obtain ⟨bw, hEbw⟩ : ∃ b, w2.heap.size = b := ⟨_, rfl⟩
    rw [hEW2] at hHbw hBW2 hzW2 hHbx hX
    rw [hEbw] at hHbw hzW2
    have m0 := hHbw.x0
    have m1 := hHbw.x1
    replace x0 := hHbx.x0
    replace x1 := hHbx.x1
    clear hB2
    go_wp2_with fail
    refine (impl_StepsTo_f HTN.out (by omega) A1 D1 V _ _ c1 d1 vc _ _ hHbx.hn hHbx.hm rfl hHbx.fl hHbx.dk hX).mono ?_
    rintro e w3 ⟨A3, c3, D3, d3, rfl, hb⟩
    have hs3 := hb.size
    have hB3 := hBW2.trans (hb.mono hBW2.size)
    replace hHbx := hHbx.below hb (Nat.le_refl _)
    replace x0 := hHbx.x0
    replace x1 := hHbx.x1
    replace hHbw := hHbw.below hb (Nat.le_refl _)
    replace m0 := hHbw.x0
    replace m1 := hHbw.x1
    replace hX := hX.below hb (Nat.le_refl _)
    clear hb hBW2
    have hHbt := Held.no w3 A3 D3 c3 d3
    replace hHbx := hHbx.below ((Below.refl w3.heap.size w3).alloc (Nat.le_refl _) (.cells #[.slice A3 0 c3, .slice D3 0 d3] 26)) (Nat.le_refl _)
    replace hHbw := hHbw.below ((Below.refl w3.heap.size w3).alloc (Nat.le_refl _) (.cells #[.slice A3 0 c3, .slice D3 0 d3] 26)) (Nat.le_refl _)
    replace hX := hX.below ((Below.refl w3.heap.size w3).alloc (Nat.le_refl _) (.cells #[.slice A3 0 c3, .slice D3 0 d3] 26)) (Nat.le_refl _)
    have hBW3 := hB3.alloc hB3.size (.cells #[.slice A3 0 c3, .slice D3 0 d3] 26)
    have hzW3 : (w3.alloc (.cells #[.slice A3 0 c3, .slice D3 0 d3] 26)).heap.size = w3.heap.size + 1 := by simp
    obtain ⟨W3, hEW3⟩ : ∃ W, w3.alloc (.cells #[.slice A3 0 c3, .slice D3 0 d3] 26) = W := ⟨_, rfl⟩
    obtain ⟨bt, hEbt⟩ : ∃ b, w3.heap.size = b := ⟨_, rfl⟩
    rw [hEW3] at hHbt hBW3 hzW3 hHbx hHbw hX
    rw [hEbt] at hHbt hzW3
    have t0 := hHbt.x0
    have t1 := hHbt.x1
    replace x0 := hHbx.x0
    replace x1 := hHbx.x1
    replace m0 := hHbw.x0
    replace m1 := hHbw.x1
    clear hB3
    go_wp2_with fail
    refine (laws_lqStore_no A3 D3 A2 D2 c3 d3 c2 d2 _).mono ?_
    rintro e w4 ⟨rfl, hb⟩
    have hs4 := hb.size
    have hB4 := hBW3.trans (hb.mono hBW3.size)
    replace hHbx := hHbx.below hb (Nat.le_refl _)
    replace x0 := hHbx.x0
    replace x1 := hHbx.x1
    replace hHbw := hHbw.below hb (Nat.le_refl _)
    replace m0 := hHbw.x0
    replace m1 := hHbw.x1
    replace hHbt := hHbt.below hb (Nat.le_refl _)
    replace t0 := hHbt.x0
    replace t1 := hHbt.x1
    clear hb hBW3
    go_wp2_with fail
    refine (laws_lqStore_no A3 D3 A2 D2 c3 d3 c2 d2 _).mono ?_
    rintro e w5 ⟨rfl, hb⟩
    have hs5 := hb.size
    have hB5 := hB4.trans (hb.mono hB4.size)
    clear hb hB4
    go_wp2
    go_ret
    exact ⟨rfl, hB5⟩
end Go.Proofs.Ytbekihiiildgmaa
