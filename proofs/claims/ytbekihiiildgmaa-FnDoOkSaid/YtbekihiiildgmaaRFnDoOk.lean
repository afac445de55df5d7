/- Walks: a law over steps: FnDoOk. -/
import Derived.Test.YtbekihiiildgmaaW9
namespace Go.Proofs.Ytbekihiiildgmaa
set_option linter.unusedVariables false
set_option linter.unusedSimpArgs false
open Go.RowKit Go.Maps
set_option maxHeartbeats 400000
theorem laws_lqTouched (k a v cc : Int) (tt : Bool) (w : World) : Calls Try.prog 22 #[.agg #[.int .i64 k, .int .i64 a, .int .i64 v, .int .i64 cc, .bool tt]] w fun e w' => e = .returned (.int .i64 (if k = 1 then a else 0)) ∧ Below w.heap.size w w' := by
  by_cases hk : k = 1
  · have hk1 : (k == 1) = true := by rw [hk]; rfl
    rw [if_pos hk]
    clear hk
    go_enter Try.func22, Try.ntmps22
    go_wp2
    go_ret
    exact ⟨rfl, by (repeat (first | (with_reducible exact Below.refl _ _) | (with_reducible assumption) | (refine Below.setCell ?_ (by first | omega | exact hB.size | exact hb.size | (have h := hB.size; simp; omega) | (have h := hb.size; simp; omega) | (simp; omega) | simp) _) | (refine Below.alloc ?_ (by first | omega | exact hB.size | exact hb.size | (have h := hB.size; simp; omega) | (have h := hb.size; simp; omega) | (simp; omega) | simp) _) | (refine Below.drew ?_)))⟩
  · have hk1 : (k == 1) = false := by simpa using hk
    rw [if_neg hk]
    clear hk
    go_enter Try.func22, Try.ntmps22
    go_wp2
    go_ret
    exact ⟨rfl, by (repeat (first | (with_reducible exact Below.refl _ _) | (with_reducible assumption) | (refine Below.setCell ?_ (by first | omega | exact hB.size | exact hb.size | (have h := hB.size; simp; omega) | (have h := hb.size; simp; omega) | (simp; omega) | simp) _) | (refine Below.alloc ?_ (by first | omega | exact hB.size | exact hb.size | (have h := hB.size; simp; omega) | (have h := hb.size; simp; omega) | (simp; omega) | simp) _) | (refine Below.drew ?_)))⟩
theorem spec_PlayDo_ok {s : St} (hs : Okay s) (k a b v : Int) (t : Bool) (A D : Option Addr) (c d : Nat) (w : World) (hF : Fl w A s.flash) (hD : Row w D (ints s.disk)) :
    Calls Try.prog 18 #[.agg #[.slice A 4 c, .slice D 6 d], .agg #[.int .i64 k, .int .i64 a, .int .i64 b, .int .i64 v, .bool t]] w (DoneP (doEv s ⟨k, a, b, v, t⟩) w) :=
  (spec_PlayDo s ⟨k, a, b, v, t⟩ A D 4 6 c d w (flashOk_len hs.flash).symm hs.len.symm (by rw [flashOk_len hs.flash]; omega) hF hD).mono fun e w' q => by
    have hok := (doEv_evt hs ⟨k, a, b, v, t⟩).ok
    have hp : plDo s ⟨k, a, b, v, t⟩ = doEv s ⟨k, a, b, v, t⟩ := by unfold plDo; rw [if_pos (storeOk_iff.2 hs)]
    rw [hp] at q
    obtain ⟨A', c', D', d', rfl, h1, h2, h3, h4⟩ := q
    exact ⟨A', c', D', d', by rw [flashOk_len hok.flash, hok.len], h1, h2, h3, h4⟩
theorem spec_PlayDo_no {s : St} {k a b v : Int} {t : Bool} (hp : plDo s ⟨k, a, b, v, t⟩ = st0) (A D : Option Addr) (n m c d : Nat) (w : World) (hn : n = s.flash.length) (hm : m = s.disk.length) (hl : s.flash.length < 1000000000000) (hF : Fl w A s.flash) (hD : Row w D (ints s.disk)) :
    Calls Try.prog 18 #[.agg #[.slice A n c, .slice D m d], .agg #[.int .i64 k, .int .i64 a, .int .i64 b, .int .i64 v, .bool t]] w fun e w' => ∃ A' c' D' d', e = .returned (.agg #[.slice A' 0 c', .slice D' 0 d']) ∧ Below w.heap.size w w' :=
  (spec_PlayDo s ⟨k, a, b, v, t⟩ A D n m c d w hn hm hl hF hD).mono fun e w' q => by
    rw [hp] at q
    obtain ⟨A', c', D', d', rfl, h1, h2, h3, h4⟩ := q
    exact ⟨A', c', D', d', rfl, h4⟩
theorem spec_StoreOk_ok {s : St} (hs : Okay s) (A D : Option Addr) (c d : Nat) (w : World) (hF : Fl w A s.flash) (hD : Row w D (ints s.disk)) :
    Calls Try.prog 19 #[.agg #[.slice A 4 c, .slice D 6 d]] w fun e w' => e = .returned (.bool true) ∧ Below w.heap.size w w' :=
  (spec_StoreOk s A D 4 6 c d w (flashOk_len hs.flash).symm hs.len.symm (by rw [flashOk_len hs.flash]; omega) hF hD).mono fun e w' q => by rw [storeOk_iff.2 hs] at q; exact q
set_option maxHeartbeats 8000000 in
set_option maxRecDepth 100000 in
theorem law_FnDoOk {w : World} (A : Option Addr) (bs : List Nat) (c : Nat) (hc : Code w A bs c) :
    Calls Try.prog 3 #[.slice A bs.length c] w fun e w' => e = .returned (.bool true) ∧ Below w.heap.size w w' := by
  by_cases hlen : (1048576 : Int) < bs.length
  · go_enter Try.func3, Try.ntmps3
    go_wp2
    go_ret
    exact ⟨rfl, Below.refl _ _⟩
  go_enter Try.func3, Try.ntmps3
  go_wp2_with fail
  refine (spec_DrawPlayDo A bs c _ hc).mono ?_
  rintro e w1 ⟨A1, D1, c1, d1, s, ⟨k, a, v, cc, tt⟩, rfl, hev, hsm, hO, hB1⟩
  dsimp only
  have hs1 := hB1.size
  have HSM := Lib.hid hsm
  have HEV := Lib.hid hev
  clear hsm hev
  have hHbx := Held.new w1 (c := c1) (d := d1) hO.ofl.fl hO.disk rfl rfl
  have hBW1 := hB1.alloc hB1.size (.cells #[.slice A1 s.flash.length c1, .slice D1 s.disk.length d1] 26)
  have hzW1 : (w1.alloc (.cells #[.slice A1 s.flash.length c1, .slice D1 s.disk.length d1] 26)).heap.size = w1.heap.size + 1 := by simp
  obtain ⟨W1, hEW1⟩ : ∃ W, w1.alloc (.cells #[.slice A1 s.flash.length c1, .slice D1 s.disk.length d1] 26) = W := ⟨_, rfl⟩
  obtain ⟨bx, hEbx⟩ : ∃ b, w1.heap.size = b := ⟨_, rfl⟩
  rw [hEW1] at hHbx hBW1 hzW1
  rw [hEbx] at hHbx hzW1
  have x0 := hHbx.x0
  have x1 := hHbx.x1
  clear hB1
  clear hO
  have hEv := Row.new W1 #[.int .i64 k, .int .i64 a, .int .i64 v, .int .i64 cc, .bool tt] 28
  replace hHbx := hHbx.below ((Below.refl W1.heap.size W1).alloc (Nat.le_refl _) (.cells #[.int .i64 k, .int .i64 a, .int .i64 v, .int .i64 cc, .bool tt] 28)) (Nat.le_refl _)
  have hBW2 := hBW1.alloc hBW1.size (.cells #[.int .i64 k, .int .i64 a, .int .i64 v, .int .i64 cc, .bool tt] 28)
  have hzW2 : (W1.alloc (.cells #[.int .i64 k, .int .i64 a, .int .i64 v, .int .i64 cc, .bool tt] 28)).heap.size = W1.heap.size + 1 := by simp
  obtain ⟨W2, hEW2⟩ : ∃ W, W1.alloc (.cells #[.int .i64 k, .int .i64 a, .int .i64 v, .int .i64 cc, .bool tt] 28) = W := ⟨_, rfl⟩
  rw [hEW2] at hEv hBW2 hzW2 hHbx
  rw [hzW1] at hEv hzW2
  obtain ⟨⟨e0, e1, e2, e3, e4⟩, _⟩ := hEv.ev5
  replace x0 := hHbx.x0
  replace x1 := hHbx.x1
  clear hBW1
  by_cases hok : storeOk s = true
  · have HOK := Lib.hid (storeOk_iff.1 hok)
    clear hok
    have HL4 : Hid (s.flash.length = 4) := flashOk_len HOK.out.flash
    have HL6 : Hid (s.disk.length = 6) := HOK.out.len
    rw [HL4.out, HL6.out] at hHbx
    replace x0 := hHbx.x0
    replace x1 := hHbx.x1
    have HEV := Lib.hid (doEv_evt HOK.out ⟨k, a, v, cc, tt⟩)
    have HPL : Hid (plDo s ⟨k, a, v, cc, tt⟩ = doEv s ⟨k, a, v, cc, tt⟩) := by unfold Hid plDo; rw [if_pos (storeOk_iff.2 HOK.out)]
    have HSD := Lib.hid (fun (X : World) (hF : Fl X A1 s.flash) (hD : Row X D1 (ints s.disk)) => spec_PlayDo_ok HOK.out k a v cc tt A1 D1 c1 d1 X hF hD)
    go_wp2_with fail
    refine (impl_PlayDo_ok HOK.out k a v cc tt A1 D1 c1 d1 _ hHbx.fl hHbx.dk).mono ?_
    rintro e w5 ⟨A5, c5, D5, d5, rfl, hF5, hD5, _, hb⟩
    have hs5 := hb.size
    have hB5 := hBW2.trans (hb.mono hBW2.size)
    replace hHbx := hHbx.below hb (Nat.le_refl _)
    replace x0 := hHbx.x0
    replace x1 := hHbx.x1
    replace hEv := hEv.below hb (Nat.le_refl _)
    obtain ⟨⟨e0, e1, e2, e3, e4⟩, _⟩ := hEv.ev5
    clear hb hBW2
    generalize doEv s ⟨k, a, v, cc, tt⟩ = t at *
    have hHbt := Held.ok HEV.out.ok c5 d5 hF5.fl hD5
    replace hHbx := hHbx.below ((Below.refl w5.heap.size w5).alloc (Nat.le_refl _) (.cells #[.slice A5 4 c5, .slice D5 6 d5] 26)) (Nat.le_refl _)
    replace hEv := hEv.below ((Below.refl w5.heap.size w5).alloc (Nat.le_refl _) (.cells #[.slice A5 4 c5, .slice D5 6 d5] 26)) (Nat.le_refl _)
    have hBW5 := hB5.alloc hB5.size (.cells #[.slice A5 4 c5, .slice D5 6 d5] 26)
    have hzW5 : (w5.alloc (.cells #[.slice A5 4 c5, .slice D5 6 d5] 26)).heap.size = w5.heap.size + 1 := by simp
    obtain ⟨W5, hEW5⟩ : ∃ W, w5.alloc (.cells #[.slice A5 4 c5, .slice D5 6 d5] 26) = W := ⟨_, rfl⟩
    obtain ⟨bt, hEbt⟩ : ∃ b, w5.heap.size = b := ⟨_, rfl⟩
    rw [hEW5] at hHbt hBW5 hzW5 hHbx hEv
    rw [hEbt] at hHbt hzW5
    have t0 := hHbt.x0
    have t1 := hHbt.x1
    replace x0 := hHbx.x0
    replace x1 := hHbx.x1
    clear hB5
    obtain ⟨⟨e0, e1, e2, e3, e4⟩, _⟩ := hEv.ev5
    clear hF5 hD5
    have hvd : Below w.heap.size w W5.drew := hBW5.drew
    have hs := Lib.hid (fun X (h : Below W5.drew.heap.size W5.drew X) => hHbx.drew.below h (Nat.le_refl _))
    have ht := Lib.hid (fun X (h : Below W5.drew.heap.size W5.drew X) => hHbt.drew.below h (Nat.le_refl _))
    have hvb : Below W5.drew.heap.size W5.drew W5.drew := Below.refl _ _
    have hev := Lib.hid (fun X (h : Below W5.drew.heap.size W5.drew X) => (hEv.drew.below h (Nat.le_refl _)).ev5.1)
    clear hHbx hHbt hEv
    go_wp2
    refine wp_region_held_drew (S := fun X => X.cell? ⟨bx, 0, none⟩ = some (.slice A1 4 c1) ∧ X.cell? ⟨bx, 1, none⟩ = some (.slice D1 6 d1) ∧ X.cell? ⟨bt, 0, none⟩ = some (.slice A5 4 c5) ∧ X.cell? ⟨bt, 1, none⟩ = some (.slice D5 6 d5) ∧ X.cell? ⟨bx + 1, 0, none⟩ = some (.int .i64 k) ∧ X.cell? ⟨bx + 1, 1, none⟩ = some (.int .i64 a) ∧ X.cell? ⟨bx + 1, 2, none⟩ = some (.int .i64 v) ∧ X.cell? ⟨bx + 1, 3, none⟩ = some (.int .i64 cc) ∧ X.cell? ⟨bx + 1, 4, none⟩ = some (.bool tt)) (by kernel_rfl) ⟨(hs.out _ hvb).x0, (hs.out _ hvb).x1, (ht.out _ hvb).x0, (ht.out _ hvb).x1, (hev.out _ hvb).1, (hev.out _ hvb).2.1, (hev.out _ hvb).2.2.1, (hev.out _ hvb).2.2.2.1, (hev.out _ hvb).2.2.2.2⟩ (fun hHeld0 => ?_)
    refine wpAnyH_take (i := 0) (v := ?va1) rfl (by kernel_rfl) (by kernel_rfl) (by kernel_rfl) (fun _ _ _ h => h) (Or.inl ⟨by kernel_rfl, ?ya1⟩) hHeld0 ?ra1
    case ya1 => (intro w' hS; (try dsimp only at hS); obtain ⟨s0, s1, s2, s3, s4, s5, s6, s7, s8⟩ := hS; (try go_simp); (try with_reducible rfl))
    try simp only [Act.put, jA, jB, jC, jD, jE, jF]
    refine wpAnyH_take (i := 1) (v := ?va2) rfl (by kernel_rfl) (by kernel_rfl) (by kernel_rfl) (fun _ _ _ h => h) (Or.inl ⟨by kernel_rfl, ?ya2⟩) hHeld0 ?ra2
    case ya2 => (intro w' hS; (try dsimp only at hS); obtain ⟨s0, s1, s2, s3, s4, s5, s6, s7, s8⟩ := hS; (try go_simp); (try with_reducible rfl))
    try simp only [Act.put, jA, jB, jC, jD, jE, jF]
    refine wpAnyH_take (i := 2) (v := ?va3) rfl (by kernel_rfl) (by kernel_rfl) (by kernel_rfl) (fun _ _ _ h => h) (Or.inl ⟨by kernel_rfl, ?ya3⟩) hHeld0 ?ra3
    case ya3 => (intro w' hS; (try dsimp only at hS); obtain ⟨s0, s1, s2, s3, s4, s5, s6, s7, s8⟩ := hS; (try go_simp); (try with_reducible rfl))
    try simp only [Act.put, jA, jB, jC, jD, jE, jF]
    refine wpAnyH_ready (rs := [3]) (by kernel_rfl) (by simp) ?_
    refine AllReadyH.cons rfl (fun K hK => ?_) AllReadyH.nil
    go_simp
    refine (HSD.out _ (hs.out _ hvb).fl (hs.out _ hvb).dk).mono ?_
    rintro e au1 ⟨A6, c6, D6, d6, rfl, hF6, hD6, _, hc⟩
    have ab1 := hvb.trans (hc.mono hvb.size)
    replace hF6 := hF6.fl
    clear hc
    go_wp2_with fail
    refine hK.out _ _ (⟨(hs.out _ ab1).x0, (hs.out _ ab1).x1, (ht.out _ ab1).x0, (ht.out _ ab1).x1, (hev.out _ ab1).1, (hev.out _ ab1).2.1, (hev.out _ ab1).2.2.1, (hev.out _ ab1).2.2.2.1, (hev.out _ ab1).2.2.2.2⟩) (fun hHa1 => ?_)
    clear hK K
    try simp only [Act.put, jA, jB, jC, jD, jE, jF]
    refine wpAnyH_ready (rs := [4]) (by kernel_rfl) (by simp) ?_
    refine AllReadyH.cons rfl (fun K hK => ?_) AllReadyH.nil
    go_simp
    refine (laws_lqStore_ok HEV.out.ok A5 D5 A6 D6 c5 d5 c6 d6 _ (ht.out _ ab1).fl (ht.out _ ab1).dk hF6 hD6).mono ?_
    rintro e au2 ⟨rfl, hc⟩
    have ab2 := ab1.trans (hc.mono ab1.size)
    clear hc
    go_wp2_with fail
    refine hK.out _ _ (⟨(hs.out _ ab2).x0, (hs.out _ ab2).x1, (ht.out _ ab2).x0, (ht.out _ ab2).x1, (hev.out _ ab2).1, (hev.out _ ab2).2.1, (hev.out _ ab2).2.2.1, (hev.out _ ab2).2.2.2.1, (hev.out _ ab2).2.2.2.2⟩) (fun hHa2 => ?_)
    clear hK K
    try simp only [Act.put, jA, jB, jC, jD, jE, jF]
    refine wpAnyH_take (i := 5) (v := ?va4) rfl (by kernel_rfl) (by kernel_rfl) (by kernel_rfl) (fun _ _ _ h => h) (Or.inl ⟨by kernel_rfl, ?ya4⟩) hHa2 ?ra4
    case ya4 => (intro w' hS; (try dsimp only at hS); obtain ⟨s0, s1, s2, s3, s4, s5, s6, s7, s8⟩ := hS; (try go_simp); (try with_reducible rfl))
    try simp only [Act.put, jA, jB, jC, jD, jE, jF]
    refine wpAnyH_take (i := 6) (v := ?va5) rfl (by kernel_rfl) (by kernel_rfl) (by kernel_rfl) (fun _ _ _ h => h) (Or.inl ⟨by kernel_rfl, ?ya5⟩) hHa2 ?ra5
    case ya5 => (intro w' hS; (try dsimp only at hS); obtain ⟨s0, s1, s2, s3, s4, s5, s6, s7, s8⟩ := hS; (try go_simp); (try with_reducible rfl))
    try simp only [Act.put, jA, jB, jC, jD, jE, jF]
    refine wpAnyH_take (i := 7) (v := ?va6) rfl (by kernel_rfl) (by kernel_rfl) (by kernel_rfl) (fun _ _ _ h => h) (Or.inl ⟨by kernel_rfl, ?ya6⟩) hHa2 ?ra6
    case ya6 => (intro w' hS; (try dsimp only at hS); obtain ⟨s0, s1, s2, s3, s4, s5, s6, s7, s8⟩ := hS; (try go_simp); (try with_reducible rfl))
    try simp only [Act.put, jA, jB, jC, jD, jE, jF]
    refine wpAnyH_ready (rs := [8]) (by kernel_rfl) (by simp) ?_
    refine AllReadyH.cons rfl (fun K hK => ?_) AllReadyH.nil
    go_simp
    refine (spec_StoreOk_ok HOK.out A1 D1 c1 d1 _ (hs.out _ ab2).fl (hs.out _ ab2).dk).mono ?_
    rintro e au3 ⟨rfl, hc⟩
    have ab3 := ab2.trans (hc.mono ab2.size)
    clear hc
    go_wp2_with fail
    refine hK.out _ _ (⟨(hs.out _ ab3).x0, (hs.out _ ab3).x1, (ht.out _ ab3).x0, (ht.out _ ab3).x1, (hev.out _ ab3).1, (hev.out _ ab3).2.1, (hev.out _ ab3).2.2.1, (hev.out _ ab3).2.2.2.1, (hev.out _ ab3).2.2.2.2⟩) (fun hHa3 => ?_)
    clear hK K
    try simp only [Act.put, jA, jB, jC, jD, jE, jF]
    refine wpAnyH_take (i := 9) (v := ?va7) rfl (by kernel_rfl) (by kernel_rfl) (by kernel_rfl) (fun _ _ _ h => h) (Or.inl ⟨by kernel_rfl, ?ya7⟩) hHa3 ?ra7
    case ya7 => (intro w' hS; (try dsimp only at hS); obtain ⟨s0, s1, s2, s3, s4, s5, s6, s7, s8⟩ := hS; (try go_simp); (try with_reducible rfl))
    try simp only [Act.put, jA, jB, jC, jD, jE, jF]
    refine wpAnyH_take (i := 10) (v := ?va8) rfl (by kernel_rfl) (by kernel_rfl) (by kernel_rfl) (fun _ _ _ h => h) (Or.inl ⟨by kernel_rfl, ?ya8⟩) hHa3 ?ra8
    case ya8 => (intro w' hS; (try dsimp only at hS); obtain ⟨s0, s1, s2, s3, s4, s5, s6, s7, s8⟩ := hS; (try go_simp); (try with_reducible rfl))
    try simp only [Act.put, jA, jB, jC, jD, jE, jF]
    refine wpAnyH_done (by kernel_rfl) ?_ _
    have hHs := hs.out _ ab3
    have hHt := ht.out _ ab3
    have hEe := hev.out _ ab3
    obtain ⟨e0, e1, e2, e3, e4⟩ := hEe
    have hB6 := hvd.trans (ab3.mono (by have h := hvd.size; exact h))
    have hEr := Lib.hid (fun X (h : Below W5.drew.heap.size W5.drew X) => (hev.out X h))
    have hvX := ab3
    replace x0 := hHs.x0
    replace x1 := hHs.x1
    replace t0 := hHt.x0
    replace t1 := hHt.x1
    go_wp2_with fail
    refine (impl_StoreAll_ok HOK.out A1 D1 c1 d1 _ hHs.fl hHs.dk).mono ?_
    rintro e w7 ⟨A7, c7, rfl, hL7, hb⟩
    have hB7 := hB6.trans (hb.mono hB6.size)
    have hv7 := hvX.trans (hb.mono hvX.size)
    have hHt7 := hHt.below hb (Nat.le_refl _)
    replace t0 := hHt7.x0
    replace t1 := hHt7.x1
    clear hb hB6
    go_wp2_with fail
    refine (impl_StoreAll_ok HEV.out.ok A5 D5 c5 d5 _ hHt7.fl hHt7.dk).mono ?_
    rintro e w8 ⟨A8, c8, rfl, hL8, hb⟩
    have hB8 := hB7.trans (hb.mono hB7.size)
    have hv8 := hv7.trans (hb.mono hv7.size)
    have hHt8 := hHt7.below hb (Nat.le_refl _)
    replace hL7 := hL7.below hb (Nat.le_refl _)
    replace t0 := hHt8.x0
    replace t1 := hHt8.x1
    clear hb hB7
    go_wp2_with fail
    refine (impl_StoreOk_ok HEV.out.ok A5 D5 c5 d5 _ hHt8.fl hHt8.dk).mono ?_
    rintro e w9 ⟨rfl, hb⟩
    have hB9 := hB8.trans (hb.mono hB8.size)
    have hv9 := hv8.trans (hb.mono hv8.size)
    replace hL7 := hL7.below hb (Nat.le_refl _)
    replace hL8 := hL8.below hb (Nat.le_refl _)
    clear hb hB8
    go_wp2
    go_loopw [8] (fun i wr => ∃ j : Nat, j ≤ 6 ∧ i = .int .i64 j ∧ Below w9.heap.size w9 wr) (fun i _ => 6 - (intOf i).toNat)
    case atStart => exact ⟨0, by omega, rfl, Below.refl _ _⟩
    case round =>
      obtain ⟨j, hj, rfl, hBr⟩ := hrel
      have hvr := hv9.trans (hBr.mono hv9.size)
      by_cases hlt : j < 6
      · have hj1 : (j : Int) < 6 := by omega
        have e5 : IntKind.i64.wrap ((j : Int) + 1) = (j : Int) + 1 := IntWalk.i64_in _ (by omega)
        have HVL := Lib.hid (HEV.out.vals ((j : Int) + 1) (by omega) (by omega))
        have HG7 := Lib.hid (allV_get s hlt)
        have HG8 := Lib.hid (allV_get t hlt)
        obtain ⟨lb, lo, rfl⟩ := hL7.addr (ints_ne' (by intro e; have := congrArg List.length e; rw [allV_len] at this; simp at this))
        obtain ⟨mb, mo, rfl⟩ := hL8.addr (ints_ne' (by intro e; have := congrArg List.length e; rw [allV_len] at this; simp at this))
        generalize readV s ((j : Int) + 1) = p at *
        generalize readV t ((j : Int) + 1) = q at *
        have hl7 := Lib.hid (fun X (h : Below wr.drew.heap.size wr.drew X) => (((hL7.below hBr (Nat.le_refl _)).drew.below h (Nat.le_refl _)).int_ HG7.out).1)
        have hl8 := Lib.hid (fun X (h : Below wr.drew.heap.size wr.drew X) => (((hL8.below hBr (Nat.le_refl _)).drew.below h (Nat.le_refl _)).int_ HG8.out).1)
        have hvr2 : Below W5.drew.heap.size W5.drew wr.drew := hvr.drew
        have hee := Lib.hid (fun X (h : Below wr.drew.heap.size wr.drew X) => hEr.out X (hvr2.trans (h.mono hvr2.size)))
        have hvb2 : Below wr.drew.heap.size wr.drew wr.drew := Below.refl _ _
        have hBd : Below w9.heap.size w9 wr.drew := hBr.drew
        go_wp2
        by_cases hpe : p = q
        · have hpq : (p != q) = false := by rw [hpe]; simp
          clear hpe
          refine wp_region_held_drew (S := fun X => X.cell? ⟨lb, lo + j, none⟩ = some (.int .i64 p) ∧ X.cell? ⟨mb, mo + j, none⟩ = some (.int .i64 q) ∧ X.cell? ⟨bx + 1, 0, none⟩ = some (.int .i64 k) ∧ X.cell? ⟨bx + 1, 1, none⟩ = some (.int .i64 a) ∧ X.cell? ⟨bx + 1, 2, none⟩ = some (.int .i64 v) ∧ X.cell? ⟨bx + 1, 3, none⟩ = some (.int .i64 cc) ∧ X.cell? ⟨bx + 1, 4, none⟩ = some (.bool tt)) (by kernel_rfl) ⟨hl7.out _ hvb2, hl8.out _ hvb2, (hee.out _ hvb2).1, (hee.out _ hvb2).2.1, (hee.out _ hvb2).2.2.1, (hee.out _ hvb2).2.2.2.1, (hee.out _ hvb2).2.2.2.2⟩ (fun hHeld0 => ?_)
          refine wpAnyH_take (i := 0) (v := ?vg1) rfl (by kernel_rfl) (by kernel_rfl) (by kernel_rfl) (fun _ _ _ h => h) (Or.inl ⟨by kernel_rfl, ?yg1⟩) hHeld0 ?rg1
          case yg1 => (intro w' hS; (try dsimp only at hS); obtain ⟨s0, s1, s2, s3, s4, s5, s6⟩ := hS; (try go_simp); (try with_reducible rfl))
          try simp only [Act.put, jA, jB, jC, jD, jE, jF]
          refine wpAnyH_take (i := 1) (v := ?vg2) rfl (by kernel_rfl) (by kernel_rfl) (by kernel_rfl) (fun _ _ _ h => h) (Or.inl ⟨by kernel_rfl, ?yg2⟩) hHeld0 ?rg2
          case yg2 => (intro w' hS; (try dsimp only at hS); obtain ⟨s0, s1, s2, s3, s4, s5, s6⟩ := hS; (try go_simp); (try with_reducible rfl))
          try simp only [Act.put, jA, jB, jC, jD, jE, jF]
          refine wpAnyH_take (i := 2) (v := ?vg3) rfl (by kernel_rfl) (by kernel_rfl) (by kernel_rfl) (fun _ _ _ h => h) (Or.inl ⟨by kernel_rfl, ?yg3⟩) hHeld0 ?rg3
          case yg3 => (intro w' hS; (try dsimp only at hS); obtain ⟨s0, s1, s2, s3, s4, s5, s6⟩ := hS; (try go_simp); (try with_reducible rfl))
          try simp only [Act.put, jA, jB, jC, jD, jE, jF]
          refine wpAnyH_take (i := 3) (v := ?vg4) rfl (by kernel_rfl) (by kernel_rfl) (by kernel_rfl) (fun _ _ _ h => h) (Or.inl ⟨by kernel_rfl, ?yg4⟩) hHeld0 ?rg4
          case yg4 => (intro w' hS; (try dsimp only at hS); obtain ⟨s0, s1, s2, s3, s4, s5, s6⟩ := hS; (try go_simp); (try with_reducible rfl))
          try simp only [Act.put, jA, jB, jC, jD, jE, jF]
          refine wpAnyH_take (i := 4) (v := ?vg5) rfl (by kernel_rfl) (by kernel_rfl) (by kernel_rfl) (fun _ _ _ h => h) (Or.inl ⟨by kernel_rfl, ?yg5⟩) hHeld0 ?rg5
          case yg5 => (intro w' hS; (try dsimp only at hS); obtain ⟨s0, s1, s2, s3, s4, s5, s6⟩ := hS; (try go_simp); (try with_reducible rfl))
          try simp only [Act.put, jA, jB, jC, jD, jE, jF]
          refine wpAnyH_take (i := 5) (v := ?vg6) rfl (by kernel_rfl) (by kernel_rfl) (by kernel_rfl) (fun _ _ _ h => h) (Or.inl ⟨by kernel_rfl, ?yg6⟩) hHeld0 ?rg6
          case yg6 => (intro w' hS; (try dsimp only at hS); obtain ⟨s0, s1, s2, s3, s4, s5, s6⟩ := hS; (try go_simp); (try with_reducible rfl))
          try simp only [Act.put, jA, jB, jC, jD, jE, jF]
          refine wpAnyH_take (i := 6) (v := ?vg7) rfl (by kernel_rfl) (by kernel_rfl) (by kernel_rfl) (fun _ _ _ h => h) (Or.inl ⟨by kernel_rfl, ?yg7⟩) hHeld0 ?rg7
          case yg7 => (intro w' hS; (try dsimp only at hS); obtain ⟨s0, s1, s2, s3, s4, s5, s6⟩ := hS; (try go_simp); (try with_reducible rfl))
          try simp only [Act.put, jA, jB, jC, jD, jE, jF]
          refine wpAnyH_take (i := 7) (v := ?vg8) rfl (by kernel_rfl) (by kernel_rfl) (by kernel_rfl) (fun _ _ _ h => h) (Or.inl ⟨by kernel_rfl, ?yg8⟩) hHeld0 ?rg8
          case yg8 => (intro w' hS; (try dsimp only at hS); obtain ⟨s0, s1, s2, s3, s4, s5, s6⟩ := hS; (try go_simp); (try with_reducible rfl))
          try simp only [Act.put, jA, jB, jC, jD, jE, jF]
          refine wpAnyH_take (i := 8) (v := ?vg9) rfl (by kernel_rfl) (by kernel_rfl) (by kernel_rfl) (fun _ _ _ h => h) (Or.inl ⟨by kernel_rfl, ?yg9⟩) hHeld0 ?rg9
          case yg9 => (intro w' hS; (try dsimp only at hS); obtain ⟨s0, s1, s2, s3, s4, s5, s6⟩ := hS; (try go_simp); (try with_reducible rfl))
          try simp only [Act.put, jA, jB, jC, jD, jE, jF]
          refine wpAnyH_take (i := 9) (v := ?vg10) rfl (by kernel_rfl) (by kernel_rfl) (by kernel_rfl) (fun _ _ _ h => h) (Or.inl ⟨by kernel_rfl, ?yg10⟩) hHeld0 ?rg10
          case yg10 => (intro w' hS; (try dsimp only at hS); obtain ⟨s0, s1, s2, s3, s4, s5, s6⟩ := hS; (try go_simp); (try with_reducible rfl))
          try simp only [Act.put, jA, jB, jC, jD, jE, jF]
          refine wpAnyH_take (i := 10) (v := undef) rfl (by kernel_rfl) (by kernel_rfl) (by kernel_rfl) (fun _ _ _ h => h) (Or.inr ⟨by kernel_rfl, rfl⟩) hHeld0 ?_
          try simp only [Act.put, jA, jB, jC, jD, jE, jF]
          refine wpAnyH_take (i := 11) (v := undef) rfl (by kernel_rfl) (by kernel_rfl) (by kernel_rfl) (fun _ _ _ h => h) (Or.inr ⟨by kernel_rfl, rfl⟩) hHeld0 ?_
          try simp only [Act.put, jA, jB, jC, jD, jE, jF]
          refine wpAnyH_take (i := 12) (v := undef) rfl (by kernel_rfl) (by kernel_rfl) (by kernel_rfl) (fun _ _ _ h => h) (Or.inr ⟨by kernel_rfl, rfl⟩) hHeld0 ?_
          try simp only [Act.put, jA, jB, jC, jD, jE, jF]
          refine wpAnyH_take (i := 13) (v := undef) rfl (by kernel_rfl) (by kernel_rfl) (by kernel_rfl) (fun _ _ _ h => h) (Or.inr ⟨by kernel_rfl, rfl⟩) hHeld0 ?_
          try simp only [Act.put, jA, jB, jC, jD, jE, jF]
          refine wpAnyH_take (i := 14) (v := undef) rfl (by kernel_rfl) (by kernel_rfl) (by kernel_rfl) (fun _ _ _ h => h) (Or.inr ⟨by kernel_rfl, rfl⟩) hHeld0 ?_
          try simp only [Act.put, jA, jB, jC, jD, jE, jF]
          refine wpAnyH_take (i := 15) (v := undef) rfl (by kernel_rfl) (by kernel_rfl) (by kernel_rfl) (fun _ _ _ h => h) (Or.inr ⟨by kernel_rfl, rfl⟩) hHeld0 ?_
          try simp only [Act.put, jA, jB, jC, jD, jE, jF]
          refine wpAnyH_take (i := 16) (v := undef) rfl (by kernel_rfl) (by kernel_rfl) (by kernel_rfl) (fun _ _ _ h => h) (Or.inr ⟨by kernel_rfl, rfl⟩) hHeld0 ?_
          try simp only [Act.put, jA, jB, jC, jD, jE, jF]
          refine wpAnyH_take (i := 17) (v := undef) rfl (by kernel_rfl) (by kernel_rfl) (by kernel_rfl) (fun _ _ _ h => h) (Or.inr ⟨by kernel_rfl, rfl⟩) hHeld0 ?_
          try simp only [Act.put, jA, jB, jC, jD, jE, jF]
          refine wpAnyH_take (i := 18) (v := undef) rfl (by kernel_rfl) (by kernel_rfl) (by kernel_rfl) (fun _ _ _ h => h) (Or.inr ⟨by kernel_rfl, rfl⟩) hHeld0 ?_
          try simp only [Act.put, jA, jB, jC, jD, jE, jF]
          refine wpAnyH_take (i := 19) (v := undef) rfl (by kernel_rfl) (by kernel_rfl) (by kernel_rfl) (fun _ _ _ h => h) (Or.inr ⟨by kernel_rfl, rfl⟩) hHeld0 ?_
          try simp only [Act.put, jA, jB, jC, jD, jE, jF]
          refine wpAnyH_take (i := 20) (v := undef) rfl (by kernel_rfl) (by kernel_rfl) (by kernel_rfl) (fun _ _ _ h => h) (Or.inr ⟨by kernel_rfl, rfl⟩) hHeld0 ?_
          try simp only [Act.put, jA, jB, jC, jD, jE, jF]
          refine wpAnyH_take (i := 21) (v := undef) rfl (by kernel_rfl) (by kernel_rfl) (by kernel_rfl) (fun _ _ _ h => h) (Or.inr ⟨by kernel_rfl, rfl⟩) hHeld0 ?_
          try simp only [Act.put, jA, jB, jC, jD, jE, jF]
          refine wpAnyH_take (i := 22) (v := undef) rfl (by kernel_rfl) (by kernel_rfl) (by kernel_rfl) (fun _ _ _ h => h) (Or.inr ⟨by kernel_rfl, rfl⟩) hHeld0 ?_
          try simp only [Act.put, jA, jB, jC, jD, jE, jF]
          refine wpAnyH_take (i := 23) (v := undef) rfl (by kernel_rfl) (by kernel_rfl) (by kernel_rfl) (fun _ _ _ h => h) (Or.inr ⟨by kernel_rfl, rfl⟩) hHeld0 ?_
          try simp only [Act.put, jA, jB, jC, jD, jE, jF]
          refine wpAnyH_take (i := 24) (v := ?vg11) rfl (by kernel_rfl) (by kernel_rfl) (by kernel_rfl) (fun _ _ _ h => h) (Or.inl ⟨by kernel_rfl, ?yg11⟩) hHeld0 ?rg11
          case yg11 => (intro w' hS; (try dsimp only at hS); obtain ⟨s0, s1, s2, s3, s4, s5, s6⟩ := hS; (try go_simp); (try with_reducible rfl))
          try simp only [Act.put, jA, jB, jC, jD, jE, jF]
          refine wpAnyH_done (by kernel_rfl) ?_ _
          have hBn := hBd.trans (hvb2.mono (by have h := hBd.size; exact h))
          go_wp2
          go_roundw
          (case rel => exact ⟨j + 1, by omega, by go_num, hBn⟩)
          (case measure => simp [intOf]; omega)
        · have hpq : (p != q) = true := by rw [bne_iff_ne]; exact hpe
          have hch : k = 1 ∧ (j : Int) + 1 = a ∧ q = v := by
            rcases HVL.out with h | ⟨h1, _, h2, h3⟩
            · exact absurd h.symm hpe
            · exact ⟨h1, h2, h3⟩
          have HTC : Hid ((if k = 1 then a else 0) = (j : Int) + 1) := by rw [Hid, if_pos hch.1]; exact hch.2.1.symm
          have hqv : (q != v) = false := by rw [hch.2.2]; simp
          have hjj : ((j : Int) + 1 != (j : Int) + 1) = false := by simp
          clear hpe hch HVL
          refine wp_region_held_drew (S := fun X => X.cell? ⟨lb, lo + j, none⟩ = some (.int .i64 p) ∧ X.cell? ⟨mb, mo + j, none⟩ = some (.int .i64 q) ∧ X.cell? ⟨bx + 1, 0, none⟩ = some (.int .i64 k) ∧ X.cell? ⟨bx + 1, 1, none⟩ = some (.int .i64 a) ∧ X.cell? ⟨bx + 1, 2, none⟩ = some (.int .i64 v) ∧ X.cell? ⟨bx + 1, 3, none⟩ = some (.int .i64 cc) ∧ X.cell? ⟨bx + 1, 4, none⟩ = some (.bool tt)) (by kernel_rfl) ⟨hl7.out _ hvb2, hl8.out _ hvb2, (hee.out _ hvb2).1, (hee.out _ hvb2).2.1, (hee.out _ hvb2).2.2.1, (hee.out _ hvb2).2.2.2.1, (hee.out _ hvb2).2.2.2.2⟩ (fun hHeld0 => ?_)
          refine wpAnyH_take (i := 0) (v := ?vh1) rfl (by kernel_rfl) (by kernel_rfl) (by kernel_rfl) (fun _ _ _ h => h) (Or.inl ⟨by kernel_rfl, ?yh1⟩) hHeld0 ?rh1
          case yh1 => (intro w' hS; (try dsimp only at hS); obtain ⟨s0, s1, s2, s3, s4, s5, s6⟩ := hS; (try go_simp); (try with_reducible rfl))
          try simp only [Act.put, jA, jB, jC, jD, jE, jF]
          refine wpAnyH_take (i := 1) (v := ?vh2) rfl (by kernel_rfl) (by kernel_rfl) (by kernel_rfl) (fun _ _ _ h => h) (Or.inl ⟨by kernel_rfl, ?yh2⟩) hHeld0 ?rh2
          case yh2 => (intro w' hS; (try dsimp only at hS); obtain ⟨s0, s1, s2, s3, s4, s5, s6⟩ := hS; (try go_simp); (try with_reducible rfl))
          try simp only [Act.put, jA, jB, jC, jD, jE, jF]
          refine wpAnyH_take (i := 2) (v := ?vh3) rfl (by kernel_rfl) (by kernel_rfl) (by kernel_rfl) (fun _ _ _ h => h) (Or.inl ⟨by kernel_rfl, ?yh3⟩) hHeld0 ?rh3
          case yh3 => (intro w' hS; (try dsimp only at hS); obtain ⟨s0, s1, s2, s3, s4, s5, s6⟩ := hS; (try go_simp); (try with_reducible rfl))
          try simp only [Act.put, jA, jB, jC, jD, jE, jF]
          refine wpAnyH_take (i := 3) (v := ?vh4) rfl (by kernel_rfl) (by kernel_rfl) (by kernel_rfl) (fun _ _ _ h => h) (Or.inl ⟨by kernel_rfl, ?yh4⟩) hHeld0 ?rh4
          case yh4 => (intro w' hS; (try dsimp only at hS); obtain ⟨s0, s1, s2, s3, s4, s5, s6⟩ := hS; (try go_simp); (try with_reducible rfl))
          try simp only [Act.put, jA, jB, jC, jD, jE, jF]
          refine wpAnyH_take (i := 4) (v := ?vh5) rfl (by kernel_rfl) (by kernel_rfl) (by kernel_rfl) (fun _ _ _ h => h) (Or.inl ⟨by kernel_rfl, ?yh5⟩) hHeld0 ?rh5
          case yh5 => (intro w' hS; (try dsimp only at hS); obtain ⟨s0, s1, s2, s3, s4, s5, s6⟩ := hS; (try go_simp); (try with_reducible rfl))
          try simp only [Act.put, jA, jB, jC, jD, jE, jF]
          refine wpAnyH_take (i := 5) (v := ?vh6) rfl (by kernel_rfl) (by kernel_rfl) (by kernel_rfl) (fun _ _ _ h => h) (Or.inl ⟨by kernel_rfl, ?yh6⟩) hHeld0 ?rh6
          case yh6 => (intro w' hS; (try dsimp only at hS); obtain ⟨s0, s1, s2, s3, s4, s5, s6⟩ := hS; (try go_simp); (try with_reducible rfl))
          try simp only [Act.put, jA, jB, jC, jD, jE, jF]
          refine wpAnyH_take (i := 6) (v := ?vh7) rfl (by kernel_rfl) (by kernel_rfl) (by kernel_rfl) (fun _ _ _ h => h) (Or.inl ⟨by kernel_rfl, ?yh7⟩) hHeld0 ?rh7
          case yh7 => (intro w' hS; (try dsimp only at hS); obtain ⟨s0, s1, s2, s3, s4, s5, s6⟩ := hS; (try go_simp); (try with_reducible rfl))
          try simp only [Act.put, jA, jB, jC, jD, jE, jF]
          refine wpAnyH_take (i := 7) (v := ?vh8) rfl (by kernel_rfl) (by kernel_rfl) (by kernel_rfl) (fun _ _ _ h => h) (Or.inl ⟨by kernel_rfl, ?yh8⟩) hHeld0 ?rh8
          case yh8 => (intro w' hS; (try dsimp only at hS); obtain ⟨s0, s1, s2, s3, s4, s5, s6⟩ := hS; (try go_simp); (try with_reducible rfl))
          try simp only [Act.put, jA, jB, jC, jD, jE, jF]
          refine wpAnyH_take (i := 8) (v := ?vh9) rfl (by kernel_rfl) (by kernel_rfl) (by kernel_rfl) (fun _ _ _ h => h) (Or.inl ⟨by kernel_rfl, ?yh9⟩) hHeld0 ?rh9
          case yh9 => (intro w' hS; (try dsimp only at hS); obtain ⟨s0, s1, s2, s3, s4, s5, s6⟩ := hS; (try go_simp); (try with_reducible rfl))
          try simp only [Act.put, jA, jB, jC, jD, jE, jF]
          refine wpAnyH_take (i := 9) (v := ?vh10) rfl (by kernel_rfl) (by kernel_rfl) (by kernel_rfl) (fun _ _ _ h => h) (Or.inl ⟨by kernel_rfl, ?yh10⟩) hHeld0 ?rh10
          case yh10 => (intro w' hS; (try dsimp only at hS); obtain ⟨s0, s1, s2, s3, s4, s5, s6⟩ := hS; (try go_simp); (try with_reducible rfl))
          try simp only [Act.put, jA, jB, jC, jD, jE, jF]
          refine wpAnyH_take (i := 10) (v := ?vh11) rfl (by kernel_rfl) (by kernel_rfl) (by kernel_rfl) (fun _ _ _ h => h) (Or.inl ⟨by kernel_rfl, ?yh11⟩) hHeld0 ?rh11
          case yh11 => (intro w' hS; (try dsimp only at hS); obtain ⟨s0, s1, s2, s3, s4, s5, s6⟩ := hS; (try go_simp); (try with_reducible rfl))
          try simp only [Act.put, jA, jB, jC, jD, jE, jF]
          refine wpAnyH_take (i := 11) (v := ?vh12) rfl (by kernel_rfl) (by kernel_rfl) (by kernel_rfl) (fun _ _ _ h => h) (Or.inl ⟨by kernel_rfl, ?yh12⟩) hHeld0 ?rh12
          case yh12 => (intro w' hS; (try dsimp only at hS); obtain ⟨s0, s1, s2, s3, s4, s5, s6⟩ := hS; (try go_simp); (try with_reducible rfl))
          try simp only [Act.put, jA, jB, jC, jD, jE, jF]
          refine wpAnyH_take (i := 12) (v := ?vh13) rfl (by kernel_rfl) (by kernel_rfl) (by kernel_rfl) (fun _ _ _ h => h) (Or.inl ⟨by kernel_rfl, ?yh13⟩) hHeld0 ?rh13
          case yh13 => (intro w' hS; (try dsimp only at hS); obtain ⟨s0, s1, s2, s3, s4, s5, s6⟩ := hS; (try go_simp); (try with_reducible rfl))
          try simp only [Act.put, jA, jB, jC, jD, jE, jF]
          refine wpAnyH_ready (rs := [13]) (by kernel_rfl) (by simp) ?_
          refine AllReadyH.cons rfl (fun K hK => ?_) AllReadyH.nil
          go_simp
          refine (laws_lqTouched k a v cc tt _).mono ?_
          rintro e hu1 ⟨he, hc⟩
          have hb1 := hvb2.trans (hc.mono hvb2.size)
          rw [HTC.out] at he
          subst he
          clear hc
          go_wp2_with fail
          refine hK.out _ _ (⟨hl7.out _ hb1, hl8.out _ hb1, (hee.out _ hb1).1, (hee.out _ hb1).2.1, (hee.out _ hb1).2.2.1, (hee.out _ hb1).2.2.2.1, (hee.out _ hb1).2.2.2.2⟩) (fun hHh1 => ?_)
          clear hK K
          try simp only [Act.put, jA, jB, jC, jD, jE, jF]
          refine wpAnyH_take (i := 14) (v := ?vh14) rfl (by kernel_rfl) (by kernel_rfl) (by kernel_rfl) (fun _ _ _ h => h) (Or.inl ⟨by kernel_rfl, ?yh14⟩) hHh1 ?rh14
          case yh14 => (intro w' hS; (try dsimp only at hS); obtain ⟨s0, s1, s2, s3, s4, s5, s6⟩ := hS; (try go_simp); (try with_reducible rfl))
          try simp only [Act.put, jA, jB, jC, jD, jE, jF]
          refine wpAnyH_take (i := 15) (v := ?vh15) rfl (by kernel_rfl) (by kernel_rfl) (by kernel_rfl) (fun _ _ _ h => h) (Or.inl ⟨by kernel_rfl, ?yh15⟩) hHh1 ?rh15
          case yh15 => (intro w' hS; (try dsimp only at hS); obtain ⟨s0, s1, s2, s3, s4, s5, s6⟩ := hS; (try go_simp); (try with_reducible rfl))
          try simp only [Act.put, jA, jB, jC, jD, jE, jF]
          refine wpAnyH_take (i := 16) (v := ?vh16) rfl (by kernel_rfl) (by kernel_rfl) (by kernel_rfl) (fun _ _ _ h => h) (Or.inl ⟨by kernel_rfl, ?yh16⟩) hHh1 ?rh16
          case yh16 => (intro w' hS; (try dsimp only at hS); obtain ⟨s0, s1, s2, s3, s4, s5, s6⟩ := hS; (try go_simp); (try with_reducible rfl))
          try simp only [Act.put, jA, jB, jC, jD, jE, jF]
          refine wpAnyH_take (i := 17) (v := ?vh17) rfl (by kernel_rfl) (by kernel_rfl) (by kernel_rfl) (fun _ _ _ h => h) (Or.inl ⟨by kernel_rfl, ?yh17⟩) hHh1 ?rh17
          case yh17 => (intro w' hS; (try dsimp only at hS); obtain ⟨s0, s1, s2, s3, s4, s5, s6⟩ := hS; (try go_simp); (try with_reducible rfl))
          try simp only [Act.put, jA, jB, jC, jD, jE, jF]
          refine wpAnyH_take (i := 18) (v := ?vh18) rfl (by kernel_rfl) (by kernel_rfl) (by kernel_rfl) (fun _ _ _ h => h) (Or.inl ⟨by kernel_rfl, ?yh18⟩) hHh1 ?rh18
          case yh18 => (intro w' hS; (try dsimp only at hS); obtain ⟨s0, s1, s2, s3, s4, s5, s6⟩ := hS; (try go_simp); (try with_reducible rfl))
          try simp only [Act.put, jA, jB, jC, jD, jE, jF]
          refine wpAnyH_take (i := 19) (v := ?vh19) rfl (by kernel_rfl) (by kernel_rfl) (by kernel_rfl) (fun _ _ _ h => h) (Or.inl ⟨by kernel_rfl, ?yh19⟩) hHh1 ?rh19
          case yh19 => (intro w' hS; (try dsimp only at hS); obtain ⟨s0, s1, s2, s3, s4, s5, s6⟩ := hS; (try go_simp); (try with_reducible rfl))
          try simp only [Act.put, jA, jB, jC, jD, jE, jF]
          refine wpAnyH_take (i := 20) (v := ?vh20) rfl (by kernel_rfl) (by kernel_rfl) (by kernel_rfl) (fun _ _ _ h => h) (Or.inl ⟨by kernel_rfl, ?yh20⟩) hHh1 ?rh20
          case yh20 => (intro w' hS; (try dsimp only at hS); obtain ⟨s0, s1, s2, s3, s4, s5, s6⟩ := hS; (try go_simp); (try with_reducible rfl))
          try simp only [Act.put, jA, jB, jC, jD, jE, jF]
          refine wpAnyH_take (i := 21) (v := ?vh21) rfl (by kernel_rfl) (by kernel_rfl) (by kernel_rfl) (fun _ _ _ h => h) (Or.inl ⟨by kernel_rfl, ?yh21⟩) hHh1 ?rh21
          case yh21 => (intro w' hS; (try dsimp only at hS); obtain ⟨s0, s1, s2, s3, s4, s5, s6⟩ := hS; (try go_simp); (try with_reducible rfl))
          try simp only [Act.put, jA, jB, jC, jD, jE, jF]
          refine wpAnyH_take (i := 22) (v := ?vh22) rfl (by kernel_rfl) (by kernel_rfl) (by kernel_rfl) (fun _ _ _ h => h) (Or.inl ⟨by kernel_rfl, ?yh22⟩) hHh1 ?rh22
          case yh22 => (intro w' hS; (try dsimp only at hS); obtain ⟨s0, s1, s2, s3, s4, s5, s6⟩ := hS; (try go_simp); (try with_reducible rfl))
          try simp only [Act.put, jA, jB, jC, jD, jE, jF]
          refine wpAnyH_take (i := 23) (v := ?vh23) rfl (by kernel_rfl) (by kernel_rfl) (by kernel_rfl) (fun _ _ _ h => h) (Or.inl ⟨by kernel_rfl, ?yh23⟩) hHh1 ?rh23
          case yh23 => (intro w' hS; (try dsimp only at hS); obtain ⟨s0, s1, s2, s3, s4, s5, s6⟩ := hS; (try go_simp); (try with_reducible rfl))
          try simp only [Act.put, jA, jB, jC, jD, jE, jF]
          refine wpAnyH_take (i := 24) (v := ?vh24) rfl (by kernel_rfl) (by kernel_rfl) (by kernel_rfl) (fun _ _ _ h => h) (Or.inl ⟨by kernel_rfl, ?yh24⟩) hHh1 ?rh24
          case yh24 => (intro w' hS; (try dsimp only at hS); obtain ⟨s0, s1, s2, s3, s4, s5, s6⟩ := hS; (try go_simp); (try with_reducible rfl))
          try simp only [Act.put, jA, jB, jC, jD, jE, jF]
          refine wpAnyH_done (by kernel_rfl) ?_ _
          have hBn := hBd.trans (hb1.mono (by have h := hBd.size; exact h))
          go_wp2
          go_roundw
          (case rel => exact ⟨j + 1, by omega, by go_num, hBn⟩)
          (case measure => simp [intOf]; omega)
      · have hj1 : ¬ (j : Int) < 6 := by omega
        have hBf := hB9.trans (hBr.mono hB9.size)
        go_wp2
        go_ret
        exact ⟨rfl, hBf⟩
  · have HPL : Hid (plDo s ⟨k, a, v, cc, tt⟩ = st0) := by unfold Hid plDo; rw [if_neg hok]
    have HSF : Hid (storeOk s = false) := by simpa [Hid] using hok
    clear hok
    go_wp2_with fail
    refine (impl_PlayDo s ⟨k, a, v, cc, tt⟩ A1 D1 _ _ c1 d1 _ hHbx.hn hHbx.hm hHbx.fl hHbx.dk).mono ?_
    rw [HPL.out]
    rintro e w5 ⟨A5, c5, D5, d5, rfl, _, _, _, hb⟩
    dsimp only [st0, List.length_nil]
    have hs5 := hb.size
    have hB5 := hBW2.trans (hb.mono hBW2.size)
    replace hHbx := hHbx.below hb (Nat.le_refl _)
    replace x0 := hHbx.x0
    replace x1 := hHbx.x1
    replace hEv := hEv.below hb (Nat.le_refl _)
    obtain ⟨⟨e0, e1, e2, e3, e4⟩, _⟩ := hEv.ev5
    clear hb hBW2
    have hHbt := Held.no w5 A5 D5 c5 d5
    replace hHbx := hHbx.below ((Below.refl w5.heap.size w5).alloc (Nat.le_refl _) (.cells #[.slice A5 0 c5, .slice D5 0 d5] 26)) (Nat.le_refl _)
    replace hEv := hEv.below ((Below.refl w5.heap.size w5).alloc (Nat.le_refl _) (.cells #[.slice A5 0 c5, .slice D5 0 d5] 26)) (Nat.le_refl _)
    have hBW5 := hB5.alloc hB5.size (.cells #[.slice A5 0 c5, .slice D5 0 d5] 26)
    have hzW5 : (w5.alloc (.cells #[.slice A5 0 c5, .slice D5 0 d5] 26)).heap.size = w5.heap.size + 1 := by simp
    obtain ⟨W5, hEW5⟩ : ∃ W, w5.alloc (.cells #[.slice A5 0 c5, .slice D5 0 d5] 26) = W := ⟨_, rfl⟩
    obtain ⟨bt, hEbt⟩ : ∃ b, w5.heap.size = b := ⟨_, rfl⟩
    rw [hEW5] at hHbt hBW5 hzW5 hHbx hEv
    rw [hEbt] at hHbt hzW5
    have t0 := hHbt.x0
    have t1 := hHbt.x1
    replace x0 := hHbx.x0
    replace x1 := hHbx.x1
    clear hB5
    obtain ⟨⟨e0, e1, e2, e3, e4⟩, _⟩ := hEv.ev5
    have hvd : Below w.heap.size w W5.drew := hBW5.drew
    have hs := Lib.hid (fun X (h : Below W5.drew.heap.size W5.drew X) => hHbx.drew.below h (Nat.le_refl _))
    have ht := Lib.hid (fun X (h : Below W5.drew.heap.size W5.drew X) => hHbt.drew.below h (Nat.le_refl _))
    have hvb : Below W5.drew.heap.size W5.drew W5.drew := Below.refl _ _
    have hev := Lib.hid (fun X (h : Below W5.drew.heap.size W5.drew X) => (hEv.drew.below h (Nat.le_refl _)).ev5.1)
    have HSD := Lib.hid (fun X (h : Below W5.drew.heap.size W5.drew X) => spec_PlayDo_no (HPL.out) A1 D1 _ _ c1 d1 X (hs.out X h).hn (hs.out X h).hm (small_fl HSM.out) (hs.out X h).fl (hs.out X h).dk)
    clear hHbx hHbt hEv
    go_wp2
    refine wp_region_held_drew (S := fun X => X.cell? ⟨bx, 0, none⟩ = some (.slice A1 s.flash.length c1) ∧ X.cell? ⟨bx, 1, none⟩ = some (.slice D1 s.disk.length d1) ∧ X.cell? ⟨bt, 0, none⟩ = some (.slice A5 0 c5) ∧ X.cell? ⟨bt, 1, none⟩ = some (.slice D5 0 d5) ∧ X.cell? ⟨bx + 1, 0, none⟩ = some (.int .i64 k) ∧ X.cell? ⟨bx + 1, 1, none⟩ = some (.int .i64 a) ∧ X.cell? ⟨bx + 1, 2, none⟩ = some (.int .i64 v) ∧ X.cell? ⟨bx + 1, 3, none⟩ = some (.int .i64 cc) ∧ X.cell? ⟨bx + 1, 4, none⟩ = some (.bool tt)) (by kernel_rfl) ⟨(hs.out _ hvb).x0, (hs.out _ hvb).x1, (ht.out _ hvb).x0, (ht.out _ hvb).x1, (hev.out _ hvb).1, (hev.out _ hvb).2.1, (hev.out _ hvb).2.2.1, (hev.out _ hvb).2.2.2.1, (hev.out _ hvb).2.2.2.2⟩ (fun hHeld0 => ?_)
    refine wpAnyH_take (i := 0) (v := ?vn1) rfl (by kernel_rfl) (by kernel_rfl) (by kernel_rfl) (fun _ _ _ h => h) (Or.inl ⟨by kernel_rfl, ?yn1⟩) hHeld0 ?rn1
    case yn1 => (intro w' hS; (try dsimp only at hS); obtain ⟨s0, s1, s2, s3, s4, s5, s6, s7, s8⟩ := hS; (try go_simp); (try with_reducible rfl))
    try simp only [Act.put, jA, jB, jC, jD, jE, jF]
    refine wpAnyH_take (i := 1) (v := ?vn2) rfl (by kernel_rfl) (by kernel_rfl) (by kernel_rfl) (fun _ _ _ h => h) (Or.inl ⟨by kernel_rfl, ?yn2⟩) hHeld0 ?rn2
    case yn2 => (intro w' hS; (try dsimp only at hS); obtain ⟨s0, s1, s2, s3, s4, s5, s6, s7, s8⟩ := hS; (try go_simp); (try with_reducible rfl))
    try simp only [Act.put, jA, jB, jC, jD, jE, jF]
    refine wpAnyH_take (i := 2) (v := ?vn3) rfl (by kernel_rfl) (by kernel_rfl) (by kernel_rfl) (fun _ _ _ h => h) (Or.inl ⟨by kernel_rfl, ?yn3⟩) hHeld0 ?rn3
    case yn3 => (intro w' hS; (try dsimp only at hS); obtain ⟨s0, s1, s2, s3, s4, s5, s6, s7, s8⟩ := hS; (try go_simp); (try with_reducible rfl))
    try simp only [Act.put, jA, jB, jC, jD, jE, jF]
    refine wpAnyH_ready (rs := [3]) (by kernel_rfl) (by simp) ?_
    refine AllReadyH.cons rfl (fun K hK => ?_) AllReadyH.nil
    go_simp
    refine (HSD.out _ hvb).mono ?_
    rintro e nu1 ⟨A6, c6, D6, d6, rfl, hc⟩
    have nb1 := hvb.trans (hc.mono hvb.size)
    clear hc
    go_wp2_with fail
    refine hK.out _ _ (⟨(hs.out _ nb1).x0, (hs.out _ nb1).x1, (ht.out _ nb1).x0, (ht.out _ nb1).x1, (hev.out _ nb1).1, (hev.out _ nb1).2.1, (hev.out _ nb1).2.2.1, (hev.out _ nb1).2.2.2.1, (hev.out _ nb1).2.2.2.2⟩) (fun hHn1 => ?_)
    clear hK K
    try simp only [Act.put, jA, jB, jC, jD, jE, jF]
    refine wpAnyH_ready (rs := [4]) (by kernel_rfl) (by simp) ?_
    refine AllReadyH.cons rfl (fun K hK => ?_) AllReadyH.nil
    go_simp
    refine (laws_lqStore_no A5 D5 A6 D6 c5 d5 c6 d6 _).mono ?_
    rintro e nu2 ⟨rfl, hc⟩
    have nb2 := nb1.trans (hc.mono nb1.size)
    clear hc
    go_wp2_with fail
    refine hK.out _ _ (⟨(hs.out _ nb2).x0, (hs.out _ nb2).x1, (ht.out _ nb2).x0, (ht.out _ nb2).x1, (hev.out _ nb2).1, (hev.out _ nb2).2.1, (hev.out _ nb2).2.2.1, (hev.out _ nb2).2.2.2.1, (hev.out _ nb2).2.2.2.2⟩) (fun hHn2 => ?_)
    clear hK K
    try simp only [Act.put, jA, jB, jC, jD, jE, jF]
    refine wpAnyH_take (i := 5) (v := ?vn4) rfl (by kernel_rfl) (by kernel_rfl) (by kernel_rfl) (fun _ _ _ h => h) (Or.inl ⟨by kernel_rfl, ?yn4⟩) hHn2 ?rn4
    case yn4 => (intro w' hS; (try dsimp only at hS); obtain ⟨s0, s1, s2, s3, s4, s5, s6, s7, s8⟩ := hS; (try go_simp); (try with_reducible rfl))
    try simp only [Act.put, jA, jB, jC, jD, jE, jF]
    refine wpAnyH_take (i := 6) (v := ?vn5) rfl (by kernel_rfl) (by kernel_rfl) (by kernel_rfl) (fun _ _ _ h => h) (Or.inl ⟨by kernel_rfl, ?yn5⟩) hHn2 ?rn5
    case yn5 => (intro w' hS; (try dsimp only at hS); obtain ⟨s0, s1, s2, s3, s4, s5, s6, s7, s8⟩ := hS; (try go_simp); (try with_reducible rfl))
    try simp only [Act.put, jA, jB, jC, jD, jE, jF]
    refine wpAnyH_take (i := 7) (v := ?vn6) rfl (by kernel_rfl) (by kernel_rfl) (by kernel_rfl) (fun _ _ _ h => h) (Or.inl ⟨by kernel_rfl, ?yn6⟩) hHn2 ?rn6
    case yn6 => (intro w' hS; (try dsimp only at hS); obtain ⟨s0, s1, s2, s3, s4, s5, s6, s7, s8⟩ := hS; (try go_simp); (try with_reducible rfl))
    try simp only [Act.put, jA, jB, jC, jD, jE, jF]
    refine wpAnyH_ready (rs := [8]) (by kernel_rfl) (by simp) ?_
    refine AllReadyH.cons rfl (fun K hK => ?_) AllReadyH.nil
    go_simp
    refine (spec_StoreOk s A1 D1 _ _ c1 d1 _ (hs.out _ nb2).hn (hs.out _ nb2).hm (small_fl HSM.out) (hs.out _ nb2).fl (hs.out _ nb2).dk).mono ?_
    rintro e nu3 ⟨he, hc⟩
    have nb3 := nb2.trans (hc.mono nb2.size)
    rw [HSF.out] at he
    subst he
    clear hc
    go_wp2_with fail
    refine hK.out _ _ (⟨(hs.out _ nb3).x0, (hs.out _ nb3).x1, (ht.out _ nb3).x0, (ht.out _ nb3).x1, (hev.out _ nb3).1, (hev.out _ nb3).2.1, (hev.out _ nb3).2.2.1, (hev.out _ nb3).2.2.2.1, (hev.out _ nb3).2.2.2.2⟩) (fun hHn3 => ?_)
    clear hK K
    try simp only [Act.put, jA, jB, jC, jD, jE, jF]
    refine wpAnyH_take (i := 9) (v := ?vn7) rfl (by kernel_rfl) (by kernel_rfl) (by kernel_rfl) (fun _ _ _ h => h) (Or.inl ⟨by kernel_rfl, ?yn7⟩) hHn3 ?rn7
    case yn7 => (intro w' hS; (try dsimp only at hS); obtain ⟨s0, s1, s2, s3, s4, s5, s6, s7, s8⟩ := hS; (try go_simp); (try with_reducible rfl))
    try simp only [Act.put, jA, jB, jC, jD, jE, jF]
    refine wpAnyH_take (i := 10) (v := ?vn8) rfl (by kernel_rfl) (by kernel_rfl) (by kernel_rfl) (fun _ _ _ h => h) (Or.inl ⟨by kernel_rfl, ?yn8⟩) hHn3 ?rn8
    case yn8 => (intro w' hS; (try dsimp only at hS); obtain ⟨s0, s1, s2, s3, s4, s5, s6, s7, s8⟩ := hS; (try go_simp); (try with_reducible rfl))
    try simp only [Act.put, jA, jB, jC, jD, jE, jF]
    refine wpAnyH_done (by kernel_rfl) ?_ _
    have hB6 := hvd.trans (nb3.mono (by have h := hvd.size; exact h))
    have hvX := nb3
    go_wp2
    have hvX2 : Below W5.drew.heap.size W5.drew nu3.drew := hvX.drew
    refine wp_region_held_drew (S := fun X => X.cell? ⟨bx, 0, none⟩ = some (.slice A1 s.flash.length c1) ∧ X.cell? ⟨bx, 1, none⟩ = some (.slice D1 s.disk.length d1) ∧ X.cell? ⟨bt, 0, none⟩ = some (.slice A5 0 c5) ∧ X.cell? ⟨bt, 1, none⟩ = some (.slice D5 0 d5) ∧ X.cell? ⟨bx + 1, 0, none⟩ = some (.int .i64 k) ∧ X.cell? ⟨bx + 1, 1, none⟩ = some (.int .i64 a) ∧ X.cell? ⟨bx + 1, 2, none⟩ = some (.int .i64 v) ∧ X.cell? ⟨bx + 1, 3, none⟩ = some (.int .i64 cc) ∧ X.cell? ⟨bx + 1, 4, none⟩ = some (.bool tt)) (by kernel_rfl) ⟨(hs.out _ hvX2).x0, (hs.out _ hvX2).x1, (ht.out _ hvX2).x0, (ht.out _ hvX2).x1, (hev.out _ hvX2).1, (hev.out _ hvX2).2.1, (hev.out _ hvX2).2.2.1, (hev.out _ hvX2).2.2.2.1, (hev.out _ hvX2).2.2.2.2⟩ (fun hHeld0 => ?_)
    refine wpAnyH_take (i := 0) (v := ?vm1) rfl (by kernel_rfl) (by kernel_rfl) (by kernel_rfl) (fun _ _ _ h => h) (Or.inl ⟨by kernel_rfl, ?ym1⟩) hHeld0 ?rm1
    case ym1 => (intro w' hS; (try dsimp only at hS); obtain ⟨s0, s1, s2, s3, s4, s5, s6, s7, s8⟩ := hS; (try go_simp); (try with_reducible rfl))
    try simp only [Act.put, jA, jB, jC, jD, jE, jF]
    refine wpAnyH_take (i := 1) (v := ?vm2) rfl (by kernel_rfl) (by kernel_rfl) (by kernel_rfl) (fun _ _ _ h => h) (Or.inl ⟨by kernel_rfl, ?ym2⟩) hHeld0 ?rm2
    case ym2 => (intro w' hS; (try dsimp only at hS); obtain ⟨s0, s1, s2, s3, s4, s5, s6, s7, s8⟩ := hS; (try go_simp); (try with_reducible rfl))
    try simp only [Act.put, jA, jB, jC, jD, jE, jF]
    refine wpAnyH_take (i := 2) (v := ?vm3) rfl (by kernel_rfl) (by kernel_rfl) (by kernel_rfl) (fun _ _ _ h => h) (Or.inl ⟨by kernel_rfl, ?ym3⟩) hHeld0 ?rm3
    case ym3 => (intro w' hS; (try dsimp only at hS); obtain ⟨s0, s1, s2, s3, s4, s5, s6, s7, s8⟩ := hS; (try go_simp); (try with_reducible rfl))
    try simp only [Act.put, jA, jB, jC, jD, jE, jF]
    refine wpAnyH_ready (rs := [3]) (by kernel_rfl) (by simp) ?_
    refine AllReadyH.cons rfl (fun K hK => ?_) AllReadyH.nil
    go_simp
    refine (HSD.out _ hvX2).mono ?_
    rintro e mu1 ⟨A6, c6, D6, d6, rfl, hc⟩
    have mb1 := hvX2.trans (hc.mono hvX2.size)
    clear hc
    go_wp2_with fail
    refine hK.out _ _ (⟨(hs.out _ mb1).x0, (hs.out _ mb1).x1, (ht.out _ mb1).x0, (ht.out _ mb1).x1, (hev.out _ mb1).1, (hev.out _ mb1).2.1, (hev.out _ mb1).2.2.1, (hev.out _ mb1).2.2.2.1, (hev.out _ mb1).2.2.2.2⟩) (fun hHm1 => ?_)
    clear hK K
    try simp only [Act.put, jA, jB, jC, jD, jE, jF]
    refine wpAnyH_ready (rs := [4]) (by kernel_rfl) (by simp) ?_
    refine AllReadyH.cons rfl (fun K hK => ?_) AllReadyH.nil
    go_simp
    refine (laws_lqStore_no A5 D5 A6 D6 c5 d5 c6 d6 _).mono ?_
    rintro e mu2 ⟨rfl, hc⟩
    have mb2 := mb1.trans (hc.mono mb1.size)
    clear hc
    go_wp2_with fail
    refine hK.out _ _ (⟨(hs.out _ mb2).x0, (hs.out _ mb2).x1, (ht.out _ mb2).x0, (ht.out _ mb2).x1, (hev.out _ mb2).1, (hev.out _ mb2).2.1, (hev.out _ mb2).2.2.1, (hev.out _ mb2).2.2.2.1, (hev.out _ mb2).2.2.2.2⟩) (fun hHm2 => ?_)
    clear hK K
    try simp only [Act.put, jA, jB, jC, jD, jE, jF]
    refine wpAnyH_take (i := 5) (v := ?vm4) rfl (by kernel_rfl) (by kernel_rfl) (by kernel_rfl) (fun _ _ _ h => h) (Or.inl ⟨by kernel_rfl, ?ym4⟩) hHm2 ?rm4
    case ym4 => (intro w' hS; (try dsimp only at hS); obtain ⟨s0, s1, s2, s3, s4, s5, s6, s7, s8⟩ := hS; (try go_simp); (try with_reducible rfl))
    try simp only [Act.put, jA, jB, jC, jD, jE, jF]
    refine wpAnyH_done (by kernel_rfl) ?_ _
    have hBf := hvd.trans (mb2.mono (by have h := hvd.size; exact h))
    go_wp2
    go_ret
    exact ⟨rfl, hBf⟩
end Go.Proofs.Ytbekihiiildgmaa
