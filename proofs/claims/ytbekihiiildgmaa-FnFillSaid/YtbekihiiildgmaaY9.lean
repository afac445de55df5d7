/- What the laws' walks share: words, plain laws, and the walks of functions, part 9. -/
import Derived.Below
import Derived.ChangeSame
import Derived.WalkKit
import Derived.ProofKit
import Derived.Carry
import Derived.Test.YtbekihiiildgmaaProg
import Derived.Deep.Slices
import Derived.ChangeSlices
import Derived.ChangeArms
import Derived.Test.YtbekihiiildgmaaY8
namespace Go.Proofs.Ytbekihiiildgmaa
set_option linter.unusedVariables false
set_option linter.unusedSimpArgs false
open Go.RowKit Go.Maps
set_option maxHeartbeats 400000
set_option maxHeartbeats 4000000 in
set_option maxRecDepth 100000 in
theorem spec_StoreDirty (s : St) (A D : Option Addr) (n m c d : Nat) (w : World) (hn : n = s.flash.length) (hm : m = s.disk.length) (hl : s.flash.length < 1000000000000) (hF : Fl w A s.flash) (hD : Row w D (ints s.disk)) :
    Calls Try.prog 88 #[.agg #[.slice A n c, .slice D m d]] w fun e w' => ∃ v, e = .returned v ∧ OwnI w' w.heap.size v (dirtyL s) ∧ Below w.heap.size w w' := by
  subst hn; subst hm
  obtain ⟨W0, hW0⟩ : ∃ W0, (w.alloc (.cells #[.slice A s.flash.length c, .slice D s.disk.length d] 26)).alloc (.cells #[] 3) = W0 := ⟨_, rfl⟩
  have hB0 : Below w.heap.size w W0 := by rw [← hW0]; (repeat (first | (with_reducible exact Below.refl _ _) | (with_reducible assumption) | (refine Below.setCell ?_ (by first | omega | exact hB.size | exact hb.size | (have h := hB.size; simp; omega) | (have h := hb.size; simp; omega) | (simp; omega) | simp) _) | (refine Below.alloc ?_ (by first | omega | exact hB.size | exact hb.size | (have h := hB.size; simp; omega) | (have h := hb.size; simp; omega) | (simp; omega) | simp) _) | (refine Below.drew ?_)))
  have hs0 : W0.heap.size = w.heap.size + 2 := by rw [← hW0]; simp
  have hO0 : OwnI W0 (w.heap.size + 1) (.slice (some ⟨w.heap.size + 1, 0, none⟩) 0 0) [] := by
    have := OwnI.lit (w.alloc (.cells #[.slice A s.flash.length c, .slice D s.disk.length d] 26)) (w.heap.size + 1) (by simp)
    simp only [World.size_alloc] at this
    rw [← hW0]; exact this
  have x0 : W0.cell? ⟨w.heap.size, 0, none⟩ = some (.slice A s.flash.length c) := by rw [← hW0]; simp [go_sem]
  have x1 : W0.cell? ⟨w.heap.size, 1, none⟩ = some (.slice D s.disk.length d) := by rw [← hW0]; simp [go_sem]
  have hF0 := hF.below hB0 (Nat.le_refl _)
  have hD0 := hD.below hB0 (Nat.le_refl _)
  go_enter Try.func88, Try.ntmps88
  go_wp2_with fail
  refine (spec_StoreOk s A D _ _ c d _ rfl rfl hl hF0 hD0).mono ?_
  rintro e w1 ⟨rfl, hb⟩
  have hs1 := hb.size
  replace x0 := (hb.cell (p := ⟨w.heap.size, 0, none⟩) (by show w.heap.size < _; omega)).trans x0
  replace x1 := (hb.cell (p := ⟨w.heap.size, 1, none⟩) (by show w.heap.size < _; omega)).trans x1
  have hO1 := hO0.below hb (Nat.le_refl _)
  have hB1 := hB0.trans (hb.mono (by omega))
  have hww : w.heap.size + 2 ≤ w1.heap.size := by omega
  clear hb hF0 hD0 hB0 hO0 hW0 hs0 hs1
  by_cases hsok : storeOk s = true
  · have HOK := Lib.hid (storeOk_iff.1 hsok)
    have hfin : Hid (dirtyL s = dirtyTo s.flash 6) := by unfold Hid dirtyL; rw [if_pos hsok]
    have HPL := Lib.hid (okay_pages HOK.out)
    rw [hsok]
    clear hsok
    go_wp2
    go_loopw [3, 4] (fun q i wr => ∃ k : Nat, k ≤ 6 ∧ i = .int .i64 ((k : Int) + 1) ∧ Below (w.heap.size + 1) w1 wr ∧ OwnI wr (w.heap.size + 1) q (dirtyTo s.flash k)) (fun _ i _ => 8 - (intOf i).toNat)
    case atStart => exact ⟨0, by omega, rfl, Below.refl _ _, hO1⟩
    case round =>
      obtain ⟨k, hk, rfl, hB, hO⟩ := hrel
      have hBw := hB1.trans (hB.mono (by omega))
      by_cases hlt : k < 6
      · have hk1 : (k : Int) + 1 ≤ 6 := by omega
        have e1 : IntKind.i64.wrap ((k : Int) + 1 + 1) = (k : Int) + 1 + 1 := IntWalk.i64_in _ (by omega)
        have hxl := dirtyTo_len s.flash k
        have y0 := (hB.cell (p := ⟨w.heap.size, 0, none⟩) (by show w.heap.size < _; omega)).trans x0
        have y1 := (hB.cell (p := ⟨w.heap.size, 1, none⟩) (by show w.heap.size < _; omega)).trans x1
        have hcall := spec_l11Dirty s.flash ((k : Int) + 1) A D c s.disk.length d wr hl HPL.out (hF.below hBw (Nat.le_refl _))
        have hsw := hB.size
        by_cases hdd : dirty s.flash ((k : Int) + 1) = true
        · have hst : Hid (dirtyTo s.flash (k + 1) = dirtyTo s.flash k ++ [(k : Int) + 1]) := by rw [Hid, dirtyTo, if_pos hdd]
          rw [hdd] at hcall
          clear hdd
          generalize dirtyTo s.flash k = xs at *
          go_wp2_with fail
          refine hcall.mono ?_
          clear hcall
          rintro e w3 ⟨rfl, hb3⟩
          have hs3 := hb3.size
          have hB3 := hB.trans (hb3.mono (by omega))
          have hO4 := (hO.below hb3 (Nat.le_refl _)).alloc (.cells #[.int .i64 ((k : Int) + 1)] 3)
          have hB4 := hB3.alloc (by omega) (.cells #[.int .i64 ((k : Int) + 1)] 3)
          clear hb3 hO
          go_wp2_with (at_builtin; refine wpList_ints rfl (.tmp 17) (.tmp 19) rfl (w.heap.size + 1) u3 xs [(k : Int) + 1] rfl hO4 w3.heap.size 0 1 (xs.length + 1) 1 rfl rfl rfl (Row.new w3 #[.int .i64 ((k : Int) + 1)] 3) (by omega) (by omega) (by simp; omega) ?_; intro g7 c7 w7 hO7 hB7)
          have hB8 : Below (w.heap.size + 1) w1 w7 := hB4.trans hB7
          rw [← hst.out] at hO7
          clear hB7 hB4 hO4 hB3
          go_wp2
          go_roundw
          (case rel => exact ⟨k + 1, by omega, by go_num, hB8, hO7⟩)
          (case measure => simp [intOf]; omega)
        · have hst : Hid (dirtyTo s.flash (k + 1) = dirtyTo s.flash k) := by rw [Hid, dirtyTo, if_neg hdd]
          rw [show dirty s.flash ((k : Int) + 1) = false from by simpa using hdd] at hcall
          clear hdd
          go_wp2_with fail
          refine hcall.mono ?_
          clear hcall
          rintro e w3 ⟨rfl, hb3⟩
          have hO3 := hO.below hb3 (Nat.le_refl _)
          have hB3 := hB.trans (hb3.mono (by omega))
          rw [← hst.out] at hO3
          clear hb3 hO
          go_wp2
          go_roundw
          (case rel => exact ⟨k + 1, by omega, by go_num, hB3, hO3⟩)
          (case measure => simp [intOf]; omega)
      · have hk4 : ¬ ((k : Int) + 1 ≤ 6) := by omega
        have hkk : k = 6 := by omega
        have hOf : OwnI wr w.heap.size u3 (dirtyL s) := by rw [hfin.out]; rw [hkk] at hO; exact World.ownsRow.mono hO (by omega)
        clear hO hkk
        go_wp2
        go_ret
        exact ⟨u3, rfl, hOf, hBw⟩
  · have hfin : dirtyL s = [] := by unfold dirtyL; rw [if_neg hsok]
    rw [show storeOk s = false from by simpa using hsok]
    have hOf : OwnI w1 w.heap.size (.slice (some ⟨w.heap.size + 1, 0, none⟩) 0 0) (dirtyL s) := by rw [hfin]; exact World.ownsRow.mono hO1 (by omega)
    clear hsok hfin hO1
    go_wp2
    go_ret
    exact ⟨_, rfl, hOf, hB1⟩
theorem spec_FindLast (f : List Bk) (a : Int) (A : Option Addr) (n c : Nat) (w : World) (hn : n = f.length) (hl : f.length < 1000000000000) (hF : Fl w A f) :
    Calls Try.prog 91 #[.slice A n c, .int .i64 a] w fun e w' => e = .returned (.tuple #[rcA (findLast f a).1, .bool (findLast f a).2]) ∧ Below w.heap.size w w' := by
  subst hn
  have hB0 : Below w.heap.size w (w.alloc (.cells #[.int .i64 0, .int .i64 0, .int .i64 0, .int .i64 0] 45)) := by (repeat (first | (with_reducible exact Below.refl _ _) | (with_reducible assumption) | (refine Below.setCell ?_ (by first | omega | exact hB.size | exact hb.size | (have h := hB.size; simp; omega) | (have h := hb.size; simp; omega) | (simp; omega) | simp) _) | (refine Below.alloc ?_ (by first | omega | exact hB.size | exact hb.size | (have h := hB.size; simp; omega) | (have h := hb.size; simp; omega) | (simp; omega) | simp) _) | (refine Below.drew ?_)))
  have HSO := Lib.hid (spec_FlashOk f A c _ hl (hF.below hB0 (Nat.le_refl _)))
  by_cases hok : flashOk f = true
  · by_cases ha : addrB a = true
    · have hfin : Hid (findLast f a = (last f a, decide (0 < (last f a).seq))) := by unfold Hid findLast; rw [if_pos ⟨ha, hok⟩]
      have HPL := Lib.hid (show ∀ b ∈ f, b.pages.length < 1000000000000 from fun b hb => by rw [(flashOk_shape hok b hb).1]; omega)
      obtain ⟨a1, a2⟩ := addrB_iff.1 ha
      rw [hok] at HSO
      clear hok ha
      go_enter Try.func91, Try.ntmps91
      go_wp2_with fail
      with_reducible refine HSO.out.mono ?_
      rintro e w1 ⟨rfl, hb⟩
      have hB1 := hB0.trans (hb.mono (by simp))
      have hs1 : w.heap.size + 1 ≤ w1.heap.size := by have := hb.size; simpa using this
      obtain ⟨hcc, hff⟩ := bcell hb
      have r0 : w1.cell? ⟨w.heap.size, 0, none⟩ = some (.int .i64 0) := (hcc _ _ (by simp)).trans (by simp)
      have r1 : w1.cell? ⟨w.heap.size, 1, none⟩ = some (.int .i64 0) := (hcc _ _ (by simp)).trans (by simp)
      have r2 : w1.cell? ⟨w.heap.size, 2, none⟩ = some (.int .i64 0) := (hcc _ _ (by simp)).trans (by simp)
      have r3 : w1.cell? ⟨w.heap.size, 3, none⟩ = some (.int .i64 0) := (hcc _ _ (by simp)).trans (by simp)
      have q0 : w1.frozen? ⟨w.heap.size, 0, none⟩ = false := (hff _ _ (by simp)).trans (by simp)
      have q1 : w1.frozen? ⟨w.heap.size, 1, none⟩ = false := (hff _ _ (by simp)).trans (by simp)
      have q2 : w1.frozen? ⟨w.heap.size, 2, none⟩ = false := (hff _ _ (by simp)).trans (by simp)
      have q3 : w1.frozen? ⟨w.heap.size, 3, none⟩ = false := (hff _ _ (by simp)).trans (by simp)
      clear hcc hff hb HSO hB0
      go_wp2_with fail
      refine (spec_l6In a 1 6 _).mono ?_
      rintro e w2 ⟨rfl, rfl⟩
      have hdd : (decide (1 ≤ a) && decide (a ≤ 6)) = true := by simp [a1, a2]
      go_wp2_with fail
      refine (spec_l3Last' f.length f a A c _ rfl hl HPL.out (hF.below hB1 (Nat.le_refl _))).mono ?_
      rintro e w3 ⟨rfl, hb⟩
      have hB3 := hB1.trans (hb.mono hB1.size)
      replace r0 := (hb.cell (p := ⟨w.heap.size, 0, none⟩) (by show w.heap.size < _; omega)).trans r0
      replace r1 := (hb.cell (p := ⟨w.heap.size, 1, none⟩) (by show w.heap.size < _; omega)).trans r1
      replace r2 := (hb.cell (p := ⟨w.heap.size, 2, none⟩) (by show w.heap.size < _; omega)).trans r2
      replace r3 := (hb.cell (p := ⟨w.heap.size, 3, none⟩) (by show w.heap.size < _; omega)).trans r3
      replace q0 := (hb.frozen (p := ⟨w.heap.size, 0, none⟩) (by show w.heap.size < _; omega)).trans q0
      replace q1 := (hb.frozen (p := ⟨w.heap.size, 1, none⟩) (by show w.heap.size < _; omega)).trans q1
      replace q2 := (hb.frozen (p := ⟨w.heap.size, 2, none⟩) (by show w.heap.size < _; omega)).trans q2
      replace q3 := (hb.frozen (p := ⟨w.heap.size, 3, none⟩) (by show w.heap.size < _; omega)).trans q3
      have hz3 : w.heap.size < w3.heap.size := by have := hb.size; omega
      generalize last f a = r at *
      obtain ⟨rk, rs, ra, rv⟩ := r
      clear hb
      go_wp2
      refine bodyPost_ret (v := .tuple #[.agg #[.int .i64 rk, .int .i64 rs, .int .i64 ra, .int .i64 rv], .bool (decide (0 < rs))]) (by simp [results, Try.results91, go_sem, hz3, r0, r1, r2, r3]) rfl ?_
      rw [hfin.out]
      exact ⟨rfl, (((hB3.setCell (p := ⟨w.heap.size, 0, none⟩) (Nat.le_refl _) _).setCell (p := ⟨w.heap.size, 1, none⟩) (Nat.le_refl _) _).setCell (p := ⟨w.heap.size, 2, none⟩) (Nat.le_refl _) _).setCell (p := ⟨w.heap.size, 3, none⟩) (Nat.le_refl _) _⟩
    · have hfin : Hid (findLast f a = (rc0, false)) := by unfold Hid findLast; rw [if_neg (fun h => ha h.1)]
      have hdd : (decide (1 ≤ a) && decide (a ≤ 6)) = false := by unfold addrB at ha; simpa using ha
      rw [hok] at HSO
      clear hok ha
      go_enter Try.func91, Try.ntmps91
      go_wp2_with fail
      with_reducible refine HSO.out.mono ?_
      rintro e w1 ⟨rfl, hb⟩
      have hB1 := hB0.trans (hb.mono (by simp))
      have hs1 : w.heap.size + 1 ≤ w1.heap.size := by have := hb.size; simpa using this
      obtain ⟨hcc, hff⟩ := bcell hb
      have r0 : w1.cell? ⟨w.heap.size, 0, none⟩ = some (.int .i64 0) := (hcc _ _ (by simp)).trans (by simp)
      have r1 : w1.cell? ⟨w.heap.size, 1, none⟩ = some (.int .i64 0) := (hcc _ _ (by simp)).trans (by simp)
      have r2 : w1.cell? ⟨w.heap.size, 2, none⟩ = some (.int .i64 0) := (hcc _ _ (by simp)).trans (by simp)
      have r3 : w1.cell? ⟨w.heap.size, 3, none⟩ = some (.int .i64 0) := (hcc _ _ (by simp)).trans (by simp)
      have q0 : w1.frozen? ⟨w.heap.size, 0, none⟩ = false := (hff _ _ (by simp)).trans (by simp)
      have q1 : w1.frozen? ⟨w.heap.size, 1, none⟩ = false := (hff _ _ (by simp)).trans (by simp)
      have q2 : w1.frozen? ⟨w.heap.size, 2, none⟩ = false := (hff _ _ (by simp)).trans (by simp)
      have q3 : w1.frozen? ⟨w.heap.size, 3, none⟩ = false := (hff _ _ (by simp)).trans (by simp)
      clear hcc hff hb HSO hB0
      go_wp2_with fail
      refine (spec_l6In a 1 6 _).mono ?_
      rintro e w2 ⟨rfl, rfl⟩
      go_wp2
      have hz1 : w.heap.size < w1.heap.size := by omega
      refine bodyPost_ret (v := .tuple #[.agg #[.int .i64 0, .int .i64 0, .int .i64 0, .int .i64 0], .bool false]) (by simp [results, Try.results91, go_sem, hz1, r0, r1, r2, r3]) rfl ?_
      rw [hfin.out]
      exact ⟨rfl, (((hB1.setCell (p := ⟨w.heap.size, 0, none⟩) (Nat.le_refl _) _).setCell (p := ⟨w.heap.size, 1, none⟩) (Nat.le_refl _) _).setCell (p := ⟨w.heap.size, 2, none⟩) (Nat.le_refl _) _).setCell (p := ⟨w.heap.size, 3, none⟩) (Nat.le_refl _) _⟩
  · have hfin : Hid (findLast f a = (rc0, false)) := by unfold Hid findLast; rw [if_neg (fun h => hok h.2)]
    rw [show flashOk f = false from by simpa using hok] at HSO
    clear hok
    go_enter Try.func91, Try.ntmps91
    go_wp2_with fail
    with_reducible refine HSO.out.mono ?_
    rintro e w1 ⟨rfl, hb⟩
    have hB1 := hB0.trans (hb.mono (by simp))
    have hs1 : w.heap.size + 1 ≤ w1.heap.size := by have := hb.size; simpa using this
    obtain ⟨hcc, hff⟩ := bcell hb
    have r0 : w1.cell? ⟨w.heap.size, 0, none⟩ = some (.int .i64 0) := (hcc _ _ (by simp)).trans (by simp)
    have r1 : w1.cell? ⟨w.heap.size, 1, none⟩ = some (.int .i64 0) := (hcc _ _ (by simp)).trans (by simp)
    have r2 : w1.cell? ⟨w.heap.size, 2, none⟩ = some (.int .i64 0) := (hcc _ _ (by simp)).trans (by simp)
    have r3 : w1.cell? ⟨w.heap.size, 3, none⟩ = some (.int .i64 0) := (hcc _ _ (by simp)).trans (by simp)
    have q0 : w1.frozen? ⟨w.heap.size, 0, none⟩ = false := (hff _ _ (by simp)).trans (by simp)
    have q1 : w1.frozen? ⟨w.heap.size, 1, none⟩ = false := (hff _ _ (by simp)).trans (by simp)
    have q2 : w1.frozen? ⟨w.heap.size, 2, none⟩ = false := (hff _ _ (by simp)).trans (by simp)
    have q3 : w1.frozen? ⟨w.heap.size, 3, none⟩ = false := (hff _ _ (by simp)).trans (by simp)
    clear hcc hff hb HSO hB0
    have hz1 : w.heap.size < w1.heap.size := by omega
    go_wp2
    refine bodyPost_ret (v := .tuple #[.agg #[.int .i64 0, .int .i64 0, .int .i64 0, .int .i64 0], .bool false]) (by simp [results, Try.results91, go_sem, hz1, r0, r1, r2, r3]) rfl ?_
    rw [hfin.out]
    exact ⟨rfl, (((hB1.setCell (p := ⟨w.heap.size, 0, none⟩) (Nat.le_refl _) _).setCell (p := ⟨w.heap.size, 1, none⟩) (Nat.le_refl _) _).setCell (p := ⟨w.heap.size, 2, none⟩) (Nat.le_refl _) _).setCell (p := ⟨w.heap.size, 3, none⟩) (Nat.le_refl _) _⟩
end Go.Proofs.Ytbekihiiildgmaa
open Go.RowKit Go.IntWalk Go.Maps
namespace Go.Proofs.Ytbekihiiildgmaa
set_option linter.unusedVariables false
set_option linter.unusedSimpArgs false
set_option maxHeartbeats 4000000
set_option maxRecDepth 100000
theorem four_cells {W X : World} {b : Nat} {u v : Value} (h : Below W.heap.size W X) (hb : b < W.heap.size) (h0 : W.cell? ⟨b, 0, none⟩ = some u) (h1 : W.cell? ⟨b, 1, none⟩ = some v) (f0 : W.frozen? ⟨b, 0, none⟩ = false) (f1 : W.frozen? ⟨b, 1, none⟩ = false) :
    X.cell? ⟨b, 0, none⟩ = some u ∧ X.cell? ⟨b, 1, none⟩ = some v ∧ X.frozen? ⟨b, 0, none⟩ = false ∧ X.frozen? ⟨b, 1, none⟩ = false :=
  ⟨(h.cell (p := ⟨b, 0, none⟩) hb).trans h0, (h.cell (p := ⟨b, 1, none⟩) hb).trans h1, (h.frozen (p := ⟨b, 0, none⟩) hb).trans f0, (h.frozen (p := ⟨b, 1, none⟩) hb).trans f1⟩
theorem toR_yes {s : St} {xs : List Sp} {cut : Int} {torn : Bool} (h1 : 0 ≤ cut) (h2 : storeOk s = true) (h3 : allB xs = true) : toR s xs cut torn = (doTo s xs cut torn, true) := by
  unfold toR
  rw [if_neg (by rintro (e | e | e); omega; rw [h2] at e; cases e; rw [h3] at e; cases e)]
end Go.Proofs.Ytbekihiiildgmaa
namespace Go.Proofs.Ytbekihiiildgmaa
set_option linter.unusedVariables false
set_option linter.unusedSimpArgs false
theorem okSteps_okay {s : St} {xs : List Sp} (h : okSteps s xs ≠ []) : Okay s ∧ okSteps s xs = xs := by
  unfold okSteps at h ⊢
  split
  · rename_i hs; exact ⟨storeOk_iff.1 hs, rfl⟩
  · rename_i hs; rw [if_neg hs] at h; exact absurd rfl h
theorem ev_flush (s : St) (a c : Int) (t : Bool) : stepsOf s ⟨2, a, 0, c, t⟩ = flush s a := by unfold stepsOf; rw [if_neg (show ¬ (2 : Int) = 1 by decide), if_pos rfl]
theorem ev_fill (s : St) (a c : Int) (t : Bool) : stepsOf s ⟨3, a, 0, c, t⟩ = fill s a := by unfold stepsOf; rw [if_neg (show ¬ (3 : Int) = 1 by decide), if_neg (show ¬ (3 : Int) = 2 by decide), if_pos rfl]
/-- whatever the cut, such steps are done: what StepsTo answers -/
theorem toR_steps {s : St} (h : Okay s) (e : Ev) {cut : Int} (hc : 0 ≤ cut) (torn : Bool) : toR s (stepsOf s e) cut torn = (doTo s (stepsOf s e) cut torn, true) :=
  toR_yes hc (storeOk_iff.2 h) (steps_allB h e)
theorem cut_mid {s : St} (h : Okay s) (e : Ev) {cut : Int} (hc : 0 ≤ cut) (hl : cut < (stepsOf s e).length) (torn : Bool) : Mid s (doTo s (stepsOf s e) cut torn) := by
  have hne : stepsOf s e ≠ [] := by intro e'; rw [e'] at hl; simp at hl; omega
  exact ((steps_safe h hne).to cut torn).2 (by omega)
theorem cut_done {s : St} (h : Okay s) (e : Ev) (hne : stepsOf s e ≠ []) {cut : Int} (hl : ((stepsOf s e).length : Int) ≤ cut) (torn : Bool) : Done s e (doTo s (stepsOf s e) cut torn) :=
  ((steps_safe h hne).to cut torn).1 (by omega)
theorem put_addr {s : St} {a v : Int} (hne : wr s.flash 1 a v ≠ []) : (1 ≤ a ∧ a ≤ 6) ∧ 0 ≤ v ∧ v ≤ 9 := (recOk_mk.1 (wr_iff.1 hne).2).2.2
/-- what is flushed the slow disk has -/
structure FlushAll (s : St) (a : Int) (t : St) : Prop where
  ok : Okay t
  addr : 1 ≤ a ∧ a ≤ 6
  clean : dirty t.flash a = false
  disk : dk t a = readV s a
  same : allV t = allV s
  again : flush t a = []
theorem flush_all {s : St} (h : Okay s) {a : Int} (hne : flush s a ≠ []) {cut : Int} (hl : ((flush s a).length : Int) ≤ cut) (torn : Bool) : FlushAll s a (doTo s (flush s a) cut torn) := by
  obtain ⟨ha, _, _, _⟩ := flush_parts hne
  have k := cut_done h ⟨2, a, 0, cut, torn⟩ (by rw [ev_flush]; exact hne) (cut := cut) (by rw [ev_flush]; exact hl) torn
  rw [ev_flush] at k
  have hd : dirty (doTo s (flush s a) cut torn).flash a = false := clean_of_two (n := next s.flash) (v := readV s a) k.fin.rec_
  refine ⟨k.fin.ok, ha, hd, k.told rfl, allV_same fun b b1 b2 => ?_, ?_⟩
  · have := k.fin.read b b1 b2
    rw [this]
    split
    · rename_i e; rw [e]; rfl
    · rfl
  · by_cases hf : flush (doTo s (flush s a) cut torn) a = []
    · exact hf
    · have := (flush_parts hf).2.1; rw [hd] at this; cases this
/-- what is filled is read as it was -/
theorem fill_cut {s : St} (h : Okay s) {a : Int} (hne : fill s a ≠ []) {cut : Int} (hc : 0 ≤ cut) (torn : Bool) : Okay (doTo s (fill s a) cut torn) ∧ allV (doTo s (fill s a) cut torn) = allV s := by
  by_cases hl : cut < (fill s a).length
  · have k := cut_mid h ⟨3, a, 0, cut, torn⟩ hc (by rw [ev_fill]; exact hl) torn
    rw [ev_fill] at k
    exact ⟨k.ok, allV_same k.same⟩
  · have k := cut_done h ⟨3, a, 0, cut, torn⟩ (by rw [ev_fill]; exact hne) (cut := cut) (by rw [ev_fill]; omega) torn
    rw [ev_fill] at k
    refine ⟨k.fin.ok, allV_same fun b b1 b2 => ?_⟩
    rw [k.fin.read b b1 b2]
    split
    · rename_i e; rw [e]; rfl
    · rfl
theorem fill_all {s : St} (h : Okay s) {a : Int} (hne : fill s a ≠ []) {cut : Int} (hl : ((fill s a).length : Int) ≤ cut) (torn : Bool) : findLast (doTo s (fill s a) cut torn).flash a = (⟨2, next s.flash, a, readV s a⟩, true) ∧ (findLast s.flash a).2 = false := by
  obtain ⟨ha, h0, _⟩ := fill_parts hne
  have k := cut_done h ⟨3, a, 0, cut, torn⟩ (by rw [ev_fill]; exact hne) (cut := cut) (by rw [ev_fill]; exact hl) torn
  rw [ev_fill] at k
  have hr : last (doTo s (fill s a) cut torn).flash a = ⟨2, next s.flash, a, readV s a⟩ := k.fin.rec_
  have := next_pos s.flash
  refine ⟨?_, ?_⟩
  · unfold findLast
    rw [if_pos ⟨addrB_iff.2 ha, k.fin.ok.flash⟩, hr]
    simp
    omega
  · unfold findLast
    rw [if_pos ⟨addrB_iff.2 ha, h.flash⟩]
    simpa using h0
theorem fill_none {s : St} (h : Okay s) {a : Int} (ha : 1 ≤ a ∧ a ≤ 6) (hn : fill s a = []) (hf : (findLast s.flash a).2 = false) : wr s.flash 1 a 1 = [] := by
  have h0 : ¬ 0 < (last s.flash a).seq := by
    unfold findLast at hf
    rw [if_pos ⟨addrB_iff.2 ha, h.flash⟩] at hf
    simpa using hf
  have hw : wr s.flash 2 a (dk s a) = [] := by
    have e : fill s a = wr s.flash 2 a (dk s a) := by unfold fill; rw [if_neg (by rw [addrB_iff.2 ha]; simp; omega)]; rfl
    rw [← e]; exact hn
  by_cases hw1 : wr s.flash 1 a 1 = []
  · exact hw1
  · obtain ⟨h1, h2⟩ := wr_iff.1 hw1
    have hv := valB_iff.1 (h.val a ha.1 ha.2)
    have := recOk_mk.1 h2
    exact absurd hw (wr_iff.2 ⟨h1, recOk_mk.2 ⟨.inr rfl, this.2.1, ha, hv⟩⟩)
theorem dirtyTo_dirty (f : List Bk) : ∀ k, ∀ a ∈ dirtyTo f k, dirty f a = true
  | 0, a, h => by cases h
  | k + 1, a, h => by
    unfold dirtyTo at h
    split at h
    · rename_i hd
      rcases List.mem_append.1 h with h | h
      · exact dirtyTo_dirty f k a h
      · rw [List.mem_singleton] at h; subst h; exact hd
    · exact dirtyTo_dirty f k a h
theorem dirtyL_not {t : St} {a x : Int} (hd : dirty t.flash a = false) (hx : x ∈ dirtyL t) : x ≠ a := fun e => by
  unfold dirtyL at hx
  split at hx
  · have := dirtyTo_dirty _ _ _ hx; rw [e, hd] at this; cases this
  · cases hx
end Go.Proofs.Ytbekihiiildgmaa
open Go.RowKit Go.IntWalk Go.Maps
namespace Go.Proofs.Ytbekihiiildgmaa
set_option linter.unusedVariables false
set_option linter.unusedSimpArgs false
set_option maxHeartbeats 1000000
set_option maxRecDepth 20000
end Go.Proofs.Ytbekihiiildgmaa
namespace Go.Proofs.Ytbekihiiildgmaa
set_option linter.unusedVariables false
set_option linter.unusedSimpArgs false
open Go.RowKit Go.Maps
set_option maxHeartbeats 400000
theorem Row.part {w : World} {V : Option Addr} {xs ys : List Value} (h : Row w V (xs ++ ys)) : Row w V xs := fun hn => by
  obtain ⟨b, o, hV, hc⟩ := h (by intro e; exact hn (List.append_eq_nil_iff.1 e).1)
  refine ⟨b, o, hV, fun j u hj => hc j u ?_⟩
  rw [List.getElem?_append_left (List.getElem?_eq_some_iff.1 hj).1]; exact hj
/-- a store in a box that may be written -/
structure HeldF (W : World) (bx : Nat) (A D : Option Addr) (c d : Nat) (s : St) : Prop where
  held : Held W bx A D 4 c 6 d s
  f0 : W.frozen? ⟨bx, 0, none⟩ = false
  f1 : W.frozen? ⟨bx, 1, none⟩ = false
theorem HeldF.below {W X : World} {bx c d B : Nat} {A D : Option Addr} {s : St} (h : HeldF W bx A D c d s) (hb : Below B W X) (hB : W.heap.size ≤ B) : HeldF X bx A D c d s :=
  ⟨h.held.below hb hB, (hb.frozen (p := ⟨bx, 0, none⟩) (Nat.lt_of_lt_of_le (lt_of_cell h.held.x0) hB)).trans h.f0, (hb.frozen (p := ⟨bx, 1, none⟩) (Nat.lt_of_lt_of_le (lt_of_cell h.held.x1) hB)).trans h.f1⟩
theorem HeldF.drew {W : World} {bx c d : Nat} {A D : Option Addr} {s : St} (h : HeldF W bx A D c d s) : HeldF W.drew bx A D c d s := ⟨h.held.drew, h.f0, h.f1⟩
theorem HeldF.new {w : World} {t : St} (ht : Okay t) {A D : Option Addr} (c d : Nat) (hF : Fl w A t.flash) (hD : Row w D (ints t.disk)) : HeldF (w.alloc (.cells #[.slice A 4 c, .slice D 6 d] 26)) w.heap.size A D c d t :=
  ⟨Held.ok ht c d hF hD, by simp, by simp⟩
theorem HeldF.put {W : World} {bx c d c' d' lo : Nat} {A D A' D' : Option Addr} {s t : St} (h : HeldF W bx A D c d s) (ht : Okay t) (hF : FlAt W lo A' t.flash) (hlo : bx < lo) (hD : Row W D' (ints t.disk)) (hd : ∀ b, blk D' b → lo ≤ b) :
    HeldF ((W.setCell ⟨bx, 0, none⟩ (.slice A' 4 c')).setCell ⟨bx, 1, none⟩ (.slice D' 6 d')) bx A' D' c' d' t := by
  have hW : Wrote W ((W.setCell ⟨bx, 0, none⟩ (.slice A' 4 c')).setCell ⟨bx, 1, none⟩ (.slice D' 6 d')) bx 0 [.slice A' 4 c', .slice D' 6 d'] := wrote_setRow bx [.slice A' 4 c', .slice D' 6 d'] 0 W (fun j hj => by
    match j, hj with
    | 0, _ => exact ⟨_, h.held.x0⟩
    | 1, _ => exact ⟨_, h.held.x1⟩)
  exact ⟨h.held.put (hF.mono (by omega)) hD (fun b hb => by have := hd b hb; omega) (flashOk_len ht.flash).symm ht.len.symm, (hW.frozen _).trans h.f0, (hW.frozen _).trans h.f1⟩
end Go.Proofs.Ytbekihiiildgmaa
namespace Go.Proofs.Ytbekihiiildgmaa
set_option linter.unusedVariables false
set_option linter.unusedSimpArgs false
open Go.RowKit Go.Maps
set_option maxHeartbeats 400000
/-- a row of steps handed back -/
def ListP (xs : List Sp) (w : World) (e : Ending) (w' : World) : Prop :=
  ∃ V cs, e = .returned (.slice V xs.length cs) ∧ Row w' V (sps xs) ∧ (∀ b, blk V b → w.heap.size ≤ b ∧ b < w'.heap.size) ∧ xs.length ≤ cs ∧ Below w.heap.size w w'
theorem StepsPost.list {xs ys : List Sp} {w w' : World} {e : Ending} (hx : xs = ys) (h : StepsPost w xs e w') : ListP ys w e w' := by
  subst hx
  obtain ⟨v, rfl, hO, hb⟩ := h
  obtain ⟨V, cs, rfl, hc, hR, hV⟩ := hO.shape'
  exact ⟨V, cs, rfl, hR, hV, hc, hb⟩
theorem ToPost.runF {t : St} {w w' : World} {e : Ending} (ht : stFine t) (h : ToPost (t, true) w e w') : RunP t w e w' := by
  obtain ⟨A, c, D, d, rfl, h1, h2, h3, h4⟩ := h
  exact ⟨A, c, D, d, by dsimp only; rw [ht.1.1, ht.2.1], h1, h2, h3, h4⟩
theorem impl_StepsTo_t {s t : St} {xs : List Sp} {cut : Int} {torn : Bool} (ht : toR s xs cut torn = (t, true)) (hf : stFine t) (hl : xs.length < 1000000000000) (A D V : Option Addr) (n m c d cs k : Nat) (w : World) (hn : n = s.flash.length) (hm : m = s.disk.length) (hk : k = xs.length) (hF : Fl w A s.flash) (hD : Row w D (ints s.disk)) (hX : Row w V (sps xs)) :
    Calls Try.prog 26 #[.agg #[.slice A n c, .slice D m d], .slice V k cs, .int .i64 cut, .bool torn] w (RunP t w) := by
  subst hk
  exact (impl_StepsTo s xs cut torn A D V n m c d cs w hn hm hl hF hD hX).mono fun _ _ q => ToPost.runF hf (by rw [ht] at q; exact q)
theorem Held.fine {w : World} {t : St} (ht : stFine t) {A D : Option Addr} (c d : Nat) (hF : Fl w A t.flash) (hD : Row w D (ints t.disk)) : Held (w.alloc (.cells #[.slice A 4 c, .slice D 6 d] 26)) w.heap.size A D 4 c 6 d t :=
  Held.new w hF hD ht.1.1.symm ht.2.1.symm
theorem impl_FindLast_r {f : List Bk} {a : Int} {r : Rc} {b : Bool} (h : findLast f a = (r, b)) (A : Option Addr) (n c : Nat) (w : World) (hn : n = f.length) (hF : Fl w A f) :
    Calls Try.prog 44 #[.slice A n c, .int .i64 a] w fun e w' => e = .returned (.tuple #[.agg #[.int .i64 r.kind, .int .i64 r.seq, .int .i64 r.addr, .int .i64 r.val], .bool b]) ∧ Below w.heap.size w w' :=
  (impl_FindLast f a A n c w hn hF).mono fun _ _ q => by rw [h] at q; exact q
theorem impl_StepsPut_x {s : St} {a v : Int} {xs : List Sp} (hx : okSteps s (wr s.flash 1 a v) = xs) (A D : Option Addr) (n m c d : Nat) (w : World) (hn : n = s.flash.length) (hm : m = s.disk.length) (hF : Fl w A s.flash) (hD : Row w D (ints s.disk)) :
    Calls Try.prog 28 #[.agg #[.slice A n c, .slice D m d], .int .i64 a, .int .i64 v] w (ListP xs w) := (impl_StepsPut s a v A D n m c d w hn hm hF hD).mono fun _ _ q => StepsPost.list hx q
theorem impl_StepsFlush_x {s : St} {a : Int} {xs : List Sp} (hx : okSteps s (flush s a) = xs) (A D : Option Addr) (n m c d : Nat) (w : World) (hn : n = s.flash.length) (hm : m = s.disk.length) (hF : Fl w A s.flash) (hD : Row w D (ints s.disk)) :
    Calls Try.prog 39 #[.agg #[.slice A n c, .slice D m d], .int .i64 a] w (ListP xs w) := (impl_StepsFlush s a A D n m c d w hn hm hF hD).mono fun _ _ q => StepsPost.list hx q
theorem spec_StepsFlush_x {s : St} {a : Int} {xs : List Sp} (hx : okSteps s (flush s a) = xs) (A D : Option Addr) (n m c d : Nat) (w : World) (hn : n = s.flash.length) (hm : m = s.disk.length) (hl : s.flash.length < 1000000000000) (hF : Fl w A s.flash) (hD : Row w D (ints s.disk)) :
    Calls Try.prog 40 #[.agg #[.slice A n c, .slice D m d], .int .i64 a] w (ListP xs w) := (spec_StepsFlush s a A D n m c d w hn hm hl hF hD).mono fun _ _ q => StepsPost.list hx q
theorem impl_StepsFill_x {s : St} {a : Int} {xs : List Sp} (hx : okSteps s (fill s a) = xs) (A D : Option Addr) (n m c d : Nat) (w : World) (hn : n = s.flash.length) (hm : m = s.disk.length) (hF : Fl w A s.flash) (hD : Row w D (ints s.disk)) :
    Calls Try.prog 42 #[.agg #[.slice A n c, .slice D m d], .int .i64 a] w (ListP xs w) := (impl_StepsFill s a A D n m c d w hn hm hF hD).mono fun _ _ q => StepsPost.list hx q
theorem spec_StepsFill_x {s : St} {a : Int} {xs : List Sp} (hx : okSteps s (fill s a) = xs) (A D : Option Addr) (n m c d : Nat) (w : World) (hn : n = s.flash.length) (hm : m = s.disk.length) (hl : s.flash.length < 1000000000000) (hF : Fl w A s.flash) (hD : Row w D (ints s.disk)) :
    Calls Try.prog 43 #[.agg #[.slice A n c, .slice D m d], .int .i64 a] w (ListP xs w) := (spec_StepsFill s a A D n m c d w hn hm hl hF hD).mono fun _ _ q => StepsPost.list hx q
end Go.Proofs.Ytbekihiiildgmaa
namespace Go.Proofs.Ytbekihiiildgmaa
set_option linter.unusedVariables false
set_option linter.unusedSimpArgs false
open Go.RowKit Go.Maps
set_option maxHeartbeats 400000
/-- four cells, two boxes, kept by what writes into the reader alone -/
theorem okay_pages' {t : St} (h : Okay t) : ∀ b ∈ t.flash, b.pages.length < 1000000000000 := fun b hb => by have := (flashOk_shape h.flash b hb).1; omega
theorem agr_cells {R b : Nat} {w w' : World} (h : Agr (· = R) w w') (hb : b < w.heap.size) (hn : b ≠ R) {u v : Value} (h0 : w.cell? ⟨b, 0, none⟩ = some u) (h1 : w.cell? ⟨b, 1, none⟩ = some v) (f0 : w.frozen? ⟨b, 0, none⟩ = false) (f1 : w.frozen? ⟨b, 1, none⟩ = false) :
    w'.cell? ⟨b, 0, none⟩ = some u ∧ w'.cell? ⟨b, 1, none⟩ = some v ∧ w'.frozen? ⟨b, 0, none⟩ = false ∧ w'.frozen? ⟨b, 1, none⟩ = false :=
  ⟨(h.cell hb hn 0).trans h0, (h.cell hb hn 1).trans h1, (h.fz hb hn 0).trans f0, (h.fz hb hn 1).trans f1⟩
def FullPost (B R m : Nat) (w : World) (e : Ending) (w' : World) : Prop :=
  ∃ (A D : Option Addr) (c d : Nat) (s : St), e = .returned (.agg #[.slice A s.flash.length c, .slice D s.disk.length d]) ∧ stSmall s ∧ OSt w' w.heap.size w'.heap.size A s.flash D s.disk ∧ Rd w' B R (m + 1250) ∧ Agr (· = R) w w'
set_option maxHeartbeats 8000000 in
set_option maxRecDepth 100000 in
theorem spec_l71Full (B R m : Nat) (w : World) (hm : m ≤ 700000) (hR : Rd w B R m) :
    Calls Try.prog 57 #[.pointer (some ⟨R, 0, none⟩)] w (FullPost B R m w) := by
  have hRl := hR.lt
  have hq := Row.new w #[.slice none 0 0, .slice none 0 0] 26
  obtain ⟨q0, f0⟩ := hq.at0 (j := 0) rfl
  obtain ⟨q1, f1⟩ := hq.at0 (j := 1) rfl
  have hR0 := hR.alloc (.cells #[.slice none 0 0, .slice none 0 0] 26)
  have hs0 : (w.alloc (.cells #[.slice none 0 0, .slice none 0 0] 26)).heap.size = w.heap.size + 1 := by simp
  have hA0 : Agr (· = R) w (w.alloc (.cells #[.slice none 0 0, .slice none 0 0] 26)) := (Agr.refl _ _).alloc _
  clear hq
  go_enter Try.func57, Try.ntmps57
  go_wp2_with fail
  refine (spec_l71Store B R m _ (by omega) hR0).mono ?_
  rintro e w1 ⟨A, D, c, d, s0, rfl, hsm, hO, hR1, hA1⟩
  rw [hs0] at hO
  obtain ⟨q0, q1, f0, f1⟩ := agr_cells hA1 (b := w.heap.size) (by omega) (by omega) q0 q1 f0 f1
  have hs1 : w.heap.size + 1 ≤ w1.heap.size := by have := hA1.size; omega
  have hA1' := hA0.trans hA1 (fun _ _ h => h)
  have hb := Row.new w1 #[.slice A s0.flash.length c, .slice D s0.disk.length d] 26
  obtain ⟨b0, b2⟩ := hb.at0 (j := 0) rfl
  obtain ⟨b1, b3⟩ := hb.at0 (j := 1) rfl
  obtain ⟨W, hW⟩ : ∃ W, w1.alloc (.cells #[.slice A s0.flash.length c, .slice D s0.disk.length d] 26) = W := ⟨_, rfl⟩
  have hBW : Below w1.heap.size w1 W := by rw [← hW]; (repeat (first | (with_reducible exact Below.refl _ _) | (with_reducible assumption) | (refine Below.setCell ?_ (by first | omega | exact hB.size | exact hb.size | (have h := hB.size; simp; omega) | (have h := hb.size; simp; omega) | (simp; omega) | simp) _) | (refine Below.alloc ?_ (by first | omega | exact hB.size | exact hb.size | (have h := hB.size; simp; omega) | (have h := hb.size; simp; omega) | (simp; omega) | simp) _) | (refine Below.drew ?_)))
  have hsW : W.heap.size = w1.heap.size + 1 := by rw [← hW]; simp
  rw [hW] at b0 b1 b2 b3
  replace q0 := (hBW.cell (p := ⟨w.heap.size, 0, none⟩) (by show w.heap.size < _; omega)).trans q0
  replace q1 := (hBW.cell (p := ⟨w.heap.size, 1, none⟩) (by show w.heap.size < _; omega)).trans q1
  replace f0 := (hBW.frozen (p := ⟨w.heap.size, 0, none⟩) (by show w.heap.size < _; omega)).trans f0
  replace f1 := (hBW.frozen (p := ⟨w.heap.size, 1, none⟩) (by show w.heap.size < _; omega)).trans f1
  have hO2 := hO.below hBW (Nat.le_refl _)
  have hR2 := hR1.below hBW (Nat.le_refl _)
  have hA2 : Agr (· = R) w W := hA1'.trans (Agr.of_below (S := (· = R)) hBW) (fun _ _ h => h)
  obtain ⟨bx, hbx⟩ : ∃ b, w1.heap.size = b := ⟨_, rfl⟩
  rw [hbx] at b0 b1 b2 b3 hsW hs1 hO2
  clear hO hR1 hA1' hb hBW hA0 hR0 hs0 hA1
  go_wp2
  (try rw [hW])
  (try simp only [hbx])
  go_loopw [4] (fun i wr => ∃ (j p : Nat) (s : St), i = .int .i64 j ∧ j ≤ 12 ∧ p + 3 * (12 - j) ≤ m + 1250 ∧ Hid (stSmall s) ∧ Hid (s.flash.length = s0.flash.length ∧ s.disk.length = s0.disk.length) ∧
    OSt wr (w.heap.size + 1) bx A s.flash D s.disk ∧ Rd wr B R p ∧ Agr (· = R) w wr ∧ bx < wr.heap.size ∧
    (wr.cell? ⟨bx, 0, none⟩ = some (.slice A s0.flash.length c) ∧ wr.cell? ⟨bx, 1, none⟩ = some (.slice D s0.disk.length d) ∧ wr.frozen? ⟨bx, 0, none⟩ = false ∧ wr.frozen? ⟨bx, 1, none⟩ = false) ∧
    (wr.cell? ⟨w.heap.size, 0, none⟩ = some (.slice none 0 0) ∧ wr.cell? ⟨w.heap.size, 1, none⟩ = some (.slice none 0 0) ∧ wr.frozen? ⟨w.heap.size, 0, none⟩ = false ∧ wr.frozen? ⟨w.heap.size, 1, none⟩ = false)) (fun i _ => 12 - (intOf i).toNat)
  case atStart => exact ⟨0, m + 1200, s0, rfl, by omega, by omega, Lib.hid hsm, Lib.hid ⟨rfl, rfl⟩, hO2, hR2, hA2, by omega, ⟨b0, b1, b2, b3⟩, ⟨q0, q1, f0, f1⟩⟩
  case round =>
    obtain ⟨j, p, s, rfl, hj, hp, hst, hln, hOk, hRk, hAk, hsk, ⟨b0, b1, b2, b3⟩, ⟨q0, q1, f0, f1⟩⟩ := hrel
    clear hO2 hR2 hA2
    have h1n : s0.flash.length < 1000000000000 := by have := hst.out.1.1; have := hln.out.1; omega
    by_cases hj12 : j < 12
    · have hj1 : (j : Int) < 12 := by omega
      have e1 : IntKind.i64.wrap ((j : Int) + 1) = (j : Int) + 1 := IntWalk.i64_in _ (by omega)
      go_wp2_with fail
      refine (spec_StoreOk s A D _ _ c d _ hln.out.1.symm hln.out.2.symm (by rw [hln.out.1]; exact h1n) hOk.ofl.fl hOk.disk).mono ?_
      rintro e w2 ⟨rfl, hb⟩
      have hAc := Agr.of_below (S := (· = R)) hb
      obtain ⟨b0, b1, b2, b3⟩ := agr_cells hAc (b := bx) (by omega) (by omega) b0 b1 b2 b3
      obtain ⟨q0, q1, f0, f1⟩ := agr_cells hAc (b := w.heap.size) (by omega) (by omega) q0 q1 f0 f1
      have hsz2 := hAc.size
      replace hOk : OSt w2 (w.heap.size + 1) bx A s.flash D s.disk := hOk.keep fun b h1 h2 hl => hAc.block b hl (by omega)
      replace hAk := hAk.trans hAc (fun _ _ h => h)
      clear hAc
      have hR2 := hRk.below hb (Nat.le_refl _)
      clear hb hRk
      by_cases hok : storeOk s = true
      · have HOK := Lib.hid (storeOk_iff.1 hok)
        rw [hok]
        clear hok
        have HL4 : Hid (s0.flash.length = 4) := by unfold Hid; rw [← hln.out.1]; exact flashOk_len HOK.out.flash
        have HL6 : Hid (s0.disk.length = 6) := by unfold Hid; rw [← hln.out.2]; exact HOK.out.len
        rw [HL4.out, HL6.out] at hln
        rw [HL4.out] at b0
        rw [HL6.out] at b1
        go_wp2_with fail
        refine (spec_pickI 8 8 B R p _ rfl (by omega) (by omega) (by omega) hR2).mono ?_
        rintro e w3 ⟨k, rfl, hk, hR3, hAc⟩
        obtain ⟨b0, b1, b2, b3⟩ := agr_cells hAc (b := bx) (by omega) (by omega) b0 b1 b2 b3
        obtain ⟨q0, q1, f0, f1⟩ := agr_cells hAc (b := w.heap.size) (by omega) (by omega) q0 q1 f0 f1
        have hsz3 := hAc.size
        replace hOk : OSt w3 (w.heap.size + 1) bx A s.flash D s.disk := hOk.keep fun b h1 h2 hl => hAc.block b hl (by omega)
        replace hAk := hAk.trans hAc (fun _ _ h => h)
        clear hAc
        clear hR2
        by_cases hk0 : k = 0
        · subst hk0
          go_wp2
          have hF : Agr (· = w.heap.size) w3 ((w3.setCell ⟨w.heap.size, 0, none⟩ (.slice A 4 c)).setCell ⟨w.heap.size, 1, none⟩ (.slice D 6 d)) := Agr.setCell (S := fun b => b = w.heap.size) (Agr.setCell (S := fun b => b = w.heap.size) (Agr.refl _ _) (p := ⟨w.heap.size, 0, none⟩) (.inr rfl) _) (p := ⟨w.heap.size, 1, none⟩) (.inr rfl) _
          have hsz := hF.size
          refine bodyPost_ret (v := .agg #[.slice A 4 c, .slice D 6 d]) (by simp [results, Try.results57, go_sem, q0, q1]) rfl ⟨A, D, c, d, s, by rw [hln.out.1, hln.out.2], hst.out, ?_, ?_, ?_⟩
          · exact (hOk.keep (w' := (w3.setCell ⟨w.heap.size, 0, none⟩ (.slice A 4 c)).setCell ⟨w.heap.size, 1, none⟩ (.slice D 6 d)) fun b h1 h2 hl => hF.block b hl (by omega)).mono (by omega) (by omega)
          · exact (hR3.agr hF (by omega) (fun b hb e => by have := hR3.le; omega)).mono (by omega)
          · exact hAk.trans hF (fun b hb e => by omega)
        · have hk1 : (0 : Int) < k := by omega
          go_wp2_with fail
          refine (spec_l3Open' 4 s.flash A c _ hln.out.1.symm (by rw [hln.out.1]; omega) (okay_pages' HOK.out) hOk.ofl.fl).mono ?_
          rintro e w4 ⟨rfl, _, _, hb⟩
          have hAc := Agr.of_below (S := (· = R)) hb
          obtain ⟨b0, b1, b2, b3⟩ := agr_cells hAc (b := bx) (by omega) (by omega) b0 b1 b2 b3
          obtain ⟨q0, q1, f0, f1⟩ := agr_cells hAc (b := w.heap.size) (by omega) (by omega) q0 q1 f0 f1
          have hsz4 := hAc.size
          replace hOk : OSt w4 (w.heap.size + 1) bx A s.flash D s.disk := hOk.keep fun b h1 h2 hl => hAc.block b hl (by omega)
          replace hAk := hAk.trans hAc (fun _ _ h => h)
          clear hAc
          have hR4 := hR3.below hb (Nat.le_refl _)
          clear hb hR3
          generalize (openB s.flash).1 = o1 at *
          generalize (openB s.flash).2 = o2 at *
          cases o2 with
          | false =>
            go_wp2
            have hF : Agr (· = w.heap.size) w4 ((w4.setCell ⟨w.heap.size, 0, none⟩ (.slice A 4 c)).setCell ⟨w.heap.size, 1, none⟩ (.slice D 6 d)) := Agr.setCell (S := fun b => b = w.heap.size) (Agr.setCell (S := fun b => b = w.heap.size) (Agr.refl _ _) (p := ⟨w.heap.size, 0, none⟩) (.inr rfl) _) (p := ⟨w.heap.size, 1, none⟩) (.inr rfl) _
            have hsz := hF.size
            refine bodyPost_ret (v := .agg #[.slice A 4 c, .slice D 6 d]) (by simp [results, Try.results57, go_sem, q0, q1]) rfl ⟨A, D, c, d, s, by rw [hln.out.1, hln.out.2], hst.out, ?_, ?_, ?_⟩
            · exact (hOk.keep (w' := (w4.setCell ⟨w.heap.size, 0, none⟩ (.slice A 4 c)).setCell ⟨w.heap.size, 1, none⟩ (.slice D 6 d)) fun b h1 h2 hl => hF.block b hl (by omega)).mono (by omega) (by omega)
            · exact (hR4.agr hF (by omega) (fun b hb e => by have := hR4.le; omega)).mono (by omega)
            · exact hAk.trans hF (fun b hb e => by omega)
          | true =>
            have hq := Lib.hid (fun X (h : Agr (· = R) w4.drew X) => agr_cells h (b := bx) (by show bx < w4.heap.size; omega) (by omega) (w := w4.drew) b0 b1 b2 b3)
            have hr := Lib.hid (fun X (h : Agr (· = R) w4.drew X) => agr_cells h (b := w.heap.size) (by show w.heap.size < w4.heap.size; omega) (by omega) (w := w4.drew) q0 q1 f0 f1)
            have hOx := Lib.hid (fun X (h : Agr (· = R) w4.drew X) => hOk.drew.keep (w' := X) fun b h1 h2 hl => h.block b hl (by omega))
            have hAx := Lib.hid (fun X (h : Agr (· = R) w4.drew X) => hAk.drew.trans h (fun _ _ h => h))
            have hRx := hR4.drew
            have hz4 : bx < w4.drew.heap.size := by show bx < w4.heap.size; omega
            have hg0 : Agr (· = R) w4.drew w4.drew := Agr.refl _ _
            have HZ := Lib.hid hz4
            clear hAk hR4 hOk hz4
            go_wp2
            refine wp_region_held_drew (S := fun X => X.cell? ⟨bx, 0, none⟩ = some (.slice A 4 c) ∧ X.cell? ⟨bx, 1, none⟩ = some (.slice D 6 d)) (by kernel_rfl) ⟨(hq.out _ hg0).1, (hq.out _ hg0).2.1⟩ (fun hHeld0 => ?_)
            refine wpAnyH_take (i := 0) (v := ?vf1) rfl (by kernel_rfl) (by kernel_rfl) (by kernel_rfl) (fun _ _ _ h => h) (Or.inl ⟨by kernel_rfl, ?yf1⟩) hHeld0 ?rf1
            case yf1 => (intro w' hS; (try dsimp only at hS); obtain ⟨s0, s1⟩ := hS; (try go_simp); (try with_reducible rfl))
            try simp only [Act.put, jA, jB, jC, jD, jE, jF]
            refine wpAnyH_take (i := 1) (v := ?vf2) rfl (by kernel_rfl) (by kernel_rfl) (by kernel_rfl) (fun _ _ _ h => h) (Or.inl ⟨by kernel_rfl, ?yf2⟩) hHeld0 ?rf2
            case yf2 => (intro w' hS; (try dsimp only at hS); obtain ⟨s0, s1⟩ := hS; (try go_simp); (try with_reducible rfl))
            try simp only [Act.put, jA, jB, jC, jD, jE, jF]
            refine wpAnyH_take (i := 4) (v := ?vf3) rfl (by kernel_rfl) (by kernel_rfl) (by kernel_rfl) (fun _ _ _ h => h) (Or.inl ⟨by kernel_rfl, ?yf3⟩) hHeld0 ?rf3
            case yf3 => (intro w' hS; (try dsimp only at hS); obtain ⟨s0, s1⟩ := hS; (try go_simp); (try with_reducible rfl))
            try simp only [Act.put, jA, jB, jC, jD, jE, jF]
            refine wpAnyH_ready (rs := [2]) (by kernel_rfl) (by simp) ?_
            refine AllReadyH.cons rfl (fun K hK => ?_) AllReadyH.nil
            go_simp
            refine (spec_pickI 6 6 B R (p + 1) _ rfl (by omega) (by omega) (by omega) hRx).mono ?_
            rintro e w5 ⟨k5, rfl, hk5, hR5, hc⟩
            have hg1 := hg0.trans hc (fun _ _ h => h)
            have e5 : IntKind.i64.wrap (1 + (k5 : Int)) = 1 + (k5 : Int) := IntWalk.i64_in _ (by omega)
            clear hc
            go_wp2_with fail
            refine hK.out _ _ (⟨(hq.out _ hg1).1, (hq.out _ hg1).2.1⟩) (fun hHf1 => ?_)
            clear hK K
            try simp only [Act.put, jA, jB, jC, jD, jE, jF]
            refine wpAnyH_take (i := 3) (v := ?vf4) rfl (by kernel_rfl) (by kernel_rfl) (by kernel_rfl) (fun _ _ _ h => h) (Or.inl ⟨by kernel_rfl, ?yf4⟩) hHf1 ?rf4
            case yf4 => (intro w' hS; (try dsimp only at hS); obtain ⟨s0, s1⟩ := hS; (try go_simp); (try with_reducible rfl))
            try simp only [Act.put, jA, jB, jC, jD, jE, jF]
            refine wpAnyH_ready (rs := [5]) (by kernel_rfl) (by simp) ?_
            refine AllReadyH.cons rfl (fun K hK => ?_) AllReadyH.nil
            go_simp
            refine (spec_pickI 10 10 B R (p + 1 + 1) _ rfl (by omega) (by omega) (by omega) hR5).mono ?_
            rintro e w6 ⟨k6, rfl, hk6, hR6, hc⟩
            have hg2 := hg1.trans hc (fun _ _ h => h)
            clear hc
            go_wp2_with fail
            refine hK.out _ _ (⟨(hq.out _ hg2).1, (hq.out _ hg2).2.1⟩) (fun hHf2 => ?_)
            clear hK K
            try simp only [Act.put, jA, jB, jC, jD, jE, jF]
            refine wpAnyH_take (i := 6) (v := ?vf5) rfl (by kernel_rfl) (by kernel_rfl) (by kernel_rfl) (fun _ _ _ h => h) (Or.inl ⟨by kernel_rfl, ?yf5⟩) hHf2 ?rf5
            case yf5 => (intro w' hS; (try dsimp only at hS); obtain ⟨s0, s1⟩ := hS; (try go_simp); (try with_reducible rfl))
            try simp only [Act.put, jA, jB, jC, jD, jE, jF]
            refine wpAnyH_ready (rs := [7]) (by kernel_rfl) (by simp) ?_
            refine AllReadyH.cons rfl (fun K hK => ?_) AllReadyH.nil
            go_simp
            refine (spec_l21Do s ⟨1, 1 + (k5 : Int), (k6 : Int), 9, false⟩ A D c d (w.heap.size + 1) bx _ HOK.out.fine (by have h := hg2.size; have h2 := HZ.out; omega) (hOx.out _ hg2)).mono ?_
            rintro e w7 ⟨rfl, hO7, hc⟩
            have hz7 : w4.heap.size ≤ w7.heap.size := Nat.le_trans hg2.size hc.size
            have hbl : bx < w6.heap.size := by have h := hg2.size; have h2 := HZ.out; omega
            have y0 := (hc.cell (b := bx) hbl (by omega) 0).trans (hq.out _ hg2).1
            have y1 := (hc.cell (b := bx) hbl (by omega) 1).trans (hq.out _ hg2).2.1
            have y2 := (hc.fz (b := bx) hbl (by omega) 0).trans (hq.out _ hg2).2.2.1
            have y3 := (hc.fz (b := bx) hbl (by omega) 1).trans (hq.out _ hg2).2.2.2
            have u0 := (hc.cell (b := w.heap.size) (by omega) (by omega) 0).trans (hr.out _ hg2).1
            have u1 := (hc.cell (b := w.heap.size) (by omega) (by omega) 1).trans (hr.out _ hg2).2.1
            have u2 := (hc.fz (b := w.heap.size) (by omega) (by omega) 0).trans (hr.out _ hg2).2.2.1
            have u3 := (hc.fz (b := w.heap.size) (by omega) (by omega) 1).trans (hr.out _ hg2).2.2.2
            have hR7 := hR6.agr hc (by omega) (fun b hb e => by have := hR6.le; omega)
            have hA7 := (hAx.out _ hg2).trans hc (fun b hb e => by omega)
            have hevk := doEv_evt HOK.out ⟨1, 1 + (k5 : Int), (k6 : Int), 9, false⟩
            have HEV := Lib.hid hevk.ok
            clear hevk
            generalize doEv s ⟨1, 1 + (k5 : Int), (k6 : Int), 9, false⟩ = s8 at *
            clear hc
            go_wp2_with fail
            refine hK.out _ _ (⟨y0, y1⟩) (fun hHf3 => ?_)
            clear hK K
            try simp only [Act.put, jA, jB, jC, jD, jE, jF]
            refine wpAnyH_ready (rs := [8]) (by kernel_rfl) (by simp) ?_
            refine AllReadyH.cons rfl (fun K hK => ?_) AllReadyH.nil
            go_simp
            have hWr : Wrote w7 ((w7.setCell ⟨bx, 0, none⟩ (.slice A 4 c)).setCell ⟨bx, 1, none⟩ (.slice D 6 d)) bx 0 [.slice A 4 c, .slice D 6 d] := wrote_setRow bx [.slice A 4 c, .slice D 6 d] 0 w7 (fun j hj => by
              match j, hj with
              | 0, _ => exact ⟨_, y0⟩
              | 1, _ => exact ⟨_, y1⟩)
            have t0 := hWr.new_ 0 _ rfl
            have t1 := hWr.new_ 1 _ rfl
            refine hK.out _ _ (⟨t0, t1⟩) (fun hHf4 => ?_)
            clear hK K
            try simp only [Act.put, jA, jB, jC, jD, jE, jF]
            refine wpAnyH_done (by kernel_rfl) ?_ _
            have hO9 : OSt _ (w.heap.size + 1) bx A s8.flash D s8.disk := hO7.keep fun b h1 h2 _ => hWr.block b (by omega)
            have hR9 := hR7.agr hWr.agr (by omega) (fun b hb e => by have := hR7.le; omega)
            have hA9 := hA7.trans (S' := (· = bx)) hWr.agr (fun b hb e => by omega)
            have t2 := (hWr.frozen ⟨bx, 0, none⟩).trans y2
            have t3 := (hWr.frozen ⟨bx, 1, none⟩).trans y3
            have v0 := (hWr.agr.cell (b := w.heap.size) (by omega) (by omega) 0).trans u0
            have v1 := (hWr.agr.cell (b := w.heap.size) (by omega) (by omega) 1).trans u1
            have v2 := (hWr.frozen ⟨w.heap.size, 0, none⟩).trans u2
            have v3 := (hWr.frozen ⟨w.heap.size, 1, none⟩).trans u3
            have hss := hWr.size
            have hzz := HZ.out
            have hz9 : w4.drew.heap.size = w4.heap.size := rfl
            clear hWr hO7 hR7 hA7 hq hr hOx hAx
            go_wp2
            go_roundw
            (case rel => exact ⟨j + 1, _, s8, by go_num, by omega, by omega, Lib.hid (stSmall_of HEV.out.fine), Lib.hid ⟨by rw [HL4.out]; exact flashOk_len HEV.out.flash, by rw [HL6.out]; exact HEV.out.len⟩, hO9, hR9, hA9, by omega, ⟨by rw [HL4.out]; exact t0, by rw [HL6.out]; exact t1, t2, t3⟩, ⟨v0, v1, v2, v3⟩⟩)
            (case measure => simp [intOf]; omega)
      · have hokf : storeOk s = false := by simpa using hok
        rw [hokf]
        go_wp2
        have hF : Agr (· = w.heap.size) w2 ((w2.setCell ⟨w.heap.size, 0, none⟩ (.slice A s0.flash.length c)).setCell ⟨w.heap.size, 1, none⟩ (.slice D s0.disk.length d)) := Agr.setCell (S := fun b => b = w.heap.size) (Agr.setCell (S := fun b => b = w.heap.size) (Agr.refl _ _) (p := ⟨w.heap.size, 0, none⟩) (.inr rfl) _) (p := ⟨w.heap.size, 1, none⟩) (.inr rfl) _
        have hsz := hF.size
        refine bodyPost_ret (v := .agg #[.slice A s0.flash.length c, .slice D s0.disk.length d]) (by simp [results, Try.results57, go_sem, q0, q1]) rfl ⟨A, D, c, d, s, by rw [hln.out.1, hln.out.2], hst.out, ?_, ?_, ?_⟩
        · exact (hOk.keep (w' := (w2.setCell ⟨w.heap.size, 0, none⟩ (.slice A s0.flash.length c)).setCell ⟨w.heap.size, 1, none⟩ (.slice D s0.disk.length d)) fun b h1 h2 hl => hF.block b hl (by omega)).mono (by omega) (by omega)
        · exact (hR2.agr hF (by omega) (fun b hb e => by have := hR2.le; omega)).mono (by omega)
        · exact hAk.trans hF (fun b hb e => by omega)
    · have hj1 : ¬ (j : Int) < 12 := by omega
      go_wp2
      have hF : Agr (· = w.heap.size) wr ((wr.setCell ⟨w.heap.size, 0, none⟩ (.slice A s0.flash.length c)).setCell ⟨w.heap.size, 1, none⟩ (.slice D s0.disk.length d)) := Agr.setCell (S := fun b => b = w.heap.size) (Agr.setCell (S := fun b => b = w.heap.size) (Agr.refl _ _) (p := ⟨w.heap.size, 0, none⟩) (.inr rfl) _) (p := ⟨w.heap.size, 1, none⟩) (.inr rfl) _
      have hsz := hF.size
      refine bodyPost_ret (v := .agg #[.slice A s0.flash.length c, .slice D s0.disk.length d]) (by simp [results, Try.results57, go_sem, q0, q1]) rfl ⟨A, D, c, d, s, by rw [hln.out.1, hln.out.2], hst.out, ?_, ?_, ?_⟩
      · exact (hOk.keep (w' := (wr.setCell ⟨w.heap.size, 0, none⟩ (.slice A s0.flash.length c)).setCell ⟨w.heap.size, 1, none⟩ (.slice D s0.disk.length d)) fun b h1 h2 hl => hF.block b hl (by omega)).mono (by omega) (by omega)
      · exact (hRk.agr hF (by omega) (fun b hb e => by have := hRk.le; omega)).mono (by omega)
      · exact hAk.trans hF (fun b hb e => by omega)
end Go.Proofs.Ytbekihiiildgmaa
namespace Go.Proofs.Ytbekihiiildgmaa
set_option linter.unusedVariables false
set_option linter.unusedSimpArgs false
open Go.RowKit Go.Maps
set_option maxHeartbeats 4000000
set_option maxRecDepth 100000
/-- a store drawn, in blocks of the draw's own -/
def StoreD (w w' : World) (A D : Option Addr) (s : St) : Prop := stSmall s ∧ OSt w' w.heap.size w'.heap.size A s.flash D s.disk ∧ Below w.heap.size w w'
theorem dirtyTo_in (f : List Bk) : ∀ k, ∀ a ∈ dirtyTo f k, 1 ≤ a ∧ a ≤ (k : Int)
  | 0, a, h => by cases h
  | k + 1, a, h => by
    unfold dirtyTo at h
    split at h
    · rcases List.mem_append.1 h with h | h
      · have := dirtyTo_in f k a h; omega
      · rw [List.mem_singleton] at h; subst h; omega
    · have := dirtyTo_in f k a h; omega
theorem dirtyL_in {s : St} {a : Int} (h : a ∈ dirtyL s) : 1 ≤ a ∧ a ≤ 6 := by
  unfold dirtyL at h
  split at h
  · exact dirtyTo_in _ 6 a h
  · cases h
theorem spec_DrawStepsFlush (A : Option Addr) (bs : List Nat) (c : Nat) (w : World) (hc : Code w A bs c) :
    Calls Try.prog 38 #[.slice A bs.length c] w fun e w' => ∃ A2 D2 c2 d2 s a, e = .returned (.tuple #[.agg #[.slice A2 s.flash.length c2, .slice D2 s.disk.length d2], .int .i64 a]) ∧ (1 ≤ a ∧ a ≤ 12) ∧ StoreD w w' A2 D2 s := by
  have hq := Row.new w #[.slice none 0 0, .slice none 0 0] 26
  obtain ⟨q0, f0⟩ := hq.at0 (j := 0) rfl
  obtain ⟨q1, f1⟩ := hq.at0 (j := 1) rfl
  obtain ⟨W0, hW0⟩ : ∃ W, w.alloc (.cells #[.slice none 0 0, .slice none 0 0] 26) = W := ⟨_, rfl⟩
  have hs0 : W0.heap.size = w.heap.size + 1 := by rw [← hW0]; simp
  have hB0 : Below w.heap.size w W0 := by rw [← hW0]; (repeat (first | (with_reducible exact Below.refl _ _) | (with_reducible assumption) | (refine Below.setCell ?_ (by first | omega | exact hB.size | exact hb.size | (have h := hB.size; simp; omega) | (have h := hb.size; simp; omega) | (simp; omega) | simp) _) | (refine Below.alloc ?_ (by first | omega | exact hB.size | exact hb.size | (have h := hB.size; simp; omega) | (have h := hb.size; simp; omega) | (simp; omega) | simp) _) | (refine Below.drew ?_)))
  have hrow := hc.row.alloc (.cells #[.slice none 0 0, .slice none 0 0] 26)
  rw [hW0] at q0 q1 f0 f1 hrow
  clear hq
  go_enter Try.func38, Try.ntmps38
  go_wp2_with fail
  (try rw [hW0])
  refine (spec_l6Open A bs c _ hc.len hc.cap hc.byte hrow).mono ?_
  rintro e w1 ⟨rfl, hR1, hb1⟩
  rw [hs0] at hb1 hR1
  have hs1 := hb1.size
  rw [hs0] at hs1
  replace q0 := (hb1.cell (p := ⟨w.heap.size, 0, none⟩) (by show w.heap.size < _; omega)).trans q0
  replace q1 := (hb1.cell (p := ⟨w.heap.size, 1, none⟩) (by show w.heap.size < _; omega)).trans q1
  replace f0 := (hb1.frozen (p := ⟨w.heap.size, 0, none⟩) (by show w.heap.size < _; omega)).trans f0
  replace f1 := (hb1.frozen (p := ⟨w.heap.size, 1, none⟩) (by show w.heap.size < _; omega)).trans f1
  have hB1 := hB0.trans (hb1.mono (by omega))
  have hRl := hR1.lt
  clear hb1 hB0 hrow
  (try simp only [hs0])
  clear hs0
  go_wp2_with fail
  refine (spec_l71Full _ _ 0 _ (by omega) hR1).mono ?_
  rintro e w2 ⟨A2, D2, c2, d2, s, rfl, hsm, hO, hR, hA⟩
  have hs2 := hA.size
  have HS := Lib.hid hsm
  clear hsm hR1
  obtain ⟨q0, q1, f0, f1⟩ := agr_cells hA (b := w.heap.size) (by omega) (by omega) q0 q1 f0 f1
  have hB2 := hB1.trans (hA.below (B := w.heap.size) (by omega) (fun i hi => by omega))
  clear hA hB1
  replace hO : OSt w2 (w.heap.size + 1 + 1) w2.heap.size A2 s.flash D2 s.disk := hO.mono (by omega) (Nat.le_refl _)
  have hx := Row.new w2 #[.slice A2 s.flash.length c2, .slice D2 s.disk.length d2] 26
  obtain ⟨W, hW⟩ : ∃ W, w2.alloc (.cells #[.slice A2 s.flash.length c2, .slice D2 s.disk.length d2] 26) = W := ⟨_, rfl⟩
  obtain ⟨bx, hbx⟩ : ∃ b, w2.heap.size = b := ⟨_, rfl⟩
  rw [hW] at hx
  obtain ⟨x0, y0⟩ := hx.at0 (j := 0) rfl
  obtain ⟨x1, y1⟩ := hx.at0 (j := 1) rfl
  have hb : Below w2.heap.size w2 W := by rw [← hW]; (repeat (first | (with_reducible exact Below.refl _ _) | (with_reducible assumption) | (refine Below.setCell ?_ (by first | omega | exact hB.size | exact hb.size | (have h := hB.size; simp; omega) | (have h := hb.size; simp; omega) | (simp; omega) | simp) _) | (refine Below.alloc ?_ (by first | omega | exact hB.size | exact hb.size | (have h := hB.size; simp; omega) | (have h := hb.size; simp; omega) | (simp; omega) | simp) _) | (refine Below.drew ?_)))
  have hsW : W.heap.size = w2.heap.size + 1 := by rw [← hW]; simp
  obtain ⟨q0, q1, f0, f1⟩ := four_cells hb (b := w.heap.size) (by omega) q0 q1 f0 f1
  have hBW := hB2.trans (hb.mono (by omega))
  replace hO := hO.below hb (Nat.le_refl _)
  replace hR := hR.below hb (Nat.le_refl _)
  rw [hbx] at x0 x1 y0 y1 hO hsW hs2
  clear hx hb hB2
  go_wp2_with fail
  (try rw [hW])
  (try simp only [hbx])
  refine (spec_StoreDirty s A2 D2 _ _ c2 d2 _ rfl rfl (by have := HS.out.1.1; omega) hO.ofl.fl hO.disk).mono ?_
  rintro e w3 ⟨v, rfl, hOI, hb⟩
  obtain ⟨Lv, lc, rfl, hLr, hlb, _⟩ := hOI.out
  have hs3 := hb.size
  obtain ⟨q0, q1, f0, f1⟩ := four_cells hb (b := w.heap.size) (by omega) q0 q1 f0 f1
  obtain ⟨x0, x1, y0, y1⟩ := four_cells hb (b := bx) (by omega) x0 x1 y0 y1
  have hB3 := hBW.trans (hb.mono (by omega))
  replace hO := hO.below hb (Nat.le_refl _)
  replace hR := hR.below hb (Nat.le_refl _)
  have HLB := Lib.hid hlb
  have HLL := Lib.hid (dirtyL_len s)
  clear hb hOI hlb hBW hW
  by_cases hl0 : 0 < (dirtyL s).length
  · have hl1 : (0 : Int) < (dirtyL s).length := by omega
    go_wp2_with fail
    refine (spec_pickI 6 6 _ _ (0 + 1250) _ rfl (by omega) (by omega) (by omega) hR).mono ?_
    rintro e w4 ⟨k4, rfl, hk4, hR, hA⟩
    have hs4 := hA.size
    obtain ⟨q0, q1, f0, f1⟩ := agr_cells hA (b := w.heap.size) (by omega) (by omega) q0 q1 f0 f1
    have hB4 := hB3.trans (hA.below (B := w.heap.size) (by omega) (fun i hi => by omega))
    replace hO := hO.agr hA (fun b h1 h2 h3 => by omega)
    obtain ⟨x0, x1, y0, y1⟩ := agr_cells hA (b := bx) (by omega) (by omega) x0 x1 y0 y1
    replace hLr := hLr.agr hA (fun b hb => by have := HLB.out b hb; omega)
    clear hA hB3
    by_cases hk : k4 = 0
    · have hk1 : ¬ ((0 : Int) < k4) := by omega
      have hq := Lib.hid (fun X (h : Agr (· = w.heap.size + 1) w4.drew X) => agr_cells h (b := bx) (by show bx < w4.heap.size; omega) (by omega) (w := w4.drew) x0 x1 y0 y1)
      have hr := Lib.hid (fun X (h : Agr (· = w.heap.size + 1) w4.drew X) => agr_cells h (b := w.heap.size) (by show w.heap.size < w4.heap.size; omega) (by omega) (w := w4.drew) q0 q1 f0 f1)
      have hOx := Lib.hid (fun X (h : Agr (· = w.heap.size + 1) w4.drew X) => hO.drew.agr h (fun b h1 h2 h3 => by omega))
      have hBx := Lib.hid (fun X (h : Agr (· = w.heap.size + 1) w4.drew X) => hB4.drew.trans (h.below (B := w.heap.size) (by show w.heap.size ≤ w4.heap.size; omega) (fun i hi => by omega)))
      have hRx := hR.drew
      have hg0 : Agr (· = w.heap.size + 1) w4.drew w4.drew := Agr.refl _ _
      have HZ := Lib.hid (show bx < w4.heap.size by omega)
      have HBX := Lib.hid hs2
      clear hO hR hB4
      go_wp2
      refine wp_region_held_drew (S := fun X => X.cell? ⟨bx, 0, none⟩ = some (.slice A2 s.flash.length c2) ∧ X.cell? ⟨bx, 1, none⟩ = some (.slice D2 s.disk.length d2)) (by kernel_rfl) ⟨(hq.out _ hg0).1, (hq.out _ hg0).2.1⟩ (fun hHeld0 => ?_)
      refine wpAnyH_take (i := 0) (v := ?vf1) rfl (by kernel_rfl) (by kernel_rfl) (by kernel_rfl) (fun _ _ _ h => h) (Or.inl ⟨by kernel_rfl, ?yf1⟩) hHeld0 ?rf1
      case yf1 => (intro w' hS; (try dsimp only at hS); obtain ⟨s0, s1⟩ := hS; (try go_simp); (try with_reducible rfl))
      try simp only [Act.put, jA, jB, jC, jD, jE, jF]
      refine wpAnyH_take (i := 1) (v := ?vf2) rfl (by kernel_rfl) (by kernel_rfl) (by kernel_rfl) (fun _ _ _ h => h) (Or.inl ⟨by kernel_rfl, ?yf2⟩) hHeld0 ?rf2
      case yf2 => (intro w' hS; (try dsimp only at hS); obtain ⟨s0, s1⟩ := hS; (try go_simp); (try with_reducible rfl))
      try simp only [Act.put, jA, jB, jC, jD, jE, jF]
      refine wpAnyH_take (i := 4) (v := ?vf3) rfl (by kernel_rfl) (by kernel_rfl) (by kernel_rfl) (fun _ _ _ h => h) (Or.inl ⟨by kernel_rfl, ?yf3⟩) hHeld0 ?rf3
      case yf3 => (intro w' hS; (try dsimp only at hS); obtain ⟨s0, s1⟩ := hS; (try go_simp); (try with_reducible rfl))
      try simp only [Act.put, jA, jB, jC, jD, jE, jF]
      refine wpAnyH_ready (rs := [2]) (by kernel_rfl) (by simp) ?_
      refine AllReadyH.cons rfl (fun K hK => ?_) AllReadyH.nil
      go_simp
      refine (spec_pickI 6 6 _ _ (0 + 1250 + 1) _ rfl (by omega) (by omega) (by omega) hRx).mono ?_
      rintro e w7 ⟨k7, rfl, hk7, hRw7, hc⟩
      have hgw7 := hg0.trans hc (fun _ _ h => h)
      have e1 : IntKind.i64.wrap (1 + (k7 : Int)) = 1 + (k7 : Int) := IntWalk.i64_in _ (by omega)
      clear hc
      go_wp2_with fail
      refine hK.out _ _ (⟨(hq.out _ hgw7).1, (hq.out _ hgw7).2.1⟩) (fun hHf1 => ?_)
      clear hK K
      try simp only [Act.put, jA, jB, jC, jD, jE, jF]
      refine wpAnyH_take (i := 3) (v := ?vf4) rfl (by kernel_rfl) (by kernel_rfl) (by kernel_rfl) (fun _ _ _ h => h) (Or.inl ⟨by kernel_rfl, ?yf4⟩) hHf1 ?rf4
      case yf4 => (intro w' hS; (try dsimp only at hS); obtain ⟨s0, s1⟩ := hS; (try go_simp); (try with_reducible rfl))
      try simp only [Act.put, jA, jB, jC, jD, jE, jF]
      refine wpAnyH_ready (rs := [5]) (by kernel_rfl) (by simp) ?_
      refine AllReadyH.cons rfl (fun K hK => ?_) AllReadyH.nil
      go_simp
      refine (spec_pickI 24 24 _ _ (0 + 1250 + 1 + 1) _ rfl (by omega) (by omega) (by omega) hRw7).mono ?_
      rintro e w8 ⟨k8, rfl, hk8, hRw8, hc⟩
      have hgw8 := hgw7.trans hc (fun _ _ h => h)
      have e2 : IntKind.i64.wrap ((k8 : Int) / 23) = (k8 : Int) / 23 := IntWalk.i64_in _ (by omega)
      have e3 : IntKind.i64.wrap ((k8 : Int) / 23 * 6) = (k8 : Int) / 23 * 6 := IntWalk.i64_in _ (by omega)
      have e4 : IntKind.i64.wrap (1 + (k7 : Int) + (k8 : Int) / 23 * 6) = 1 + (k7 : Int) + (k8 : Int) / 23 * 6 := IntWalk.i64_in _ (by omega)
      clear hc
      go_wp2_with fail
      refine hK.out _ _ (⟨(hq.out _ hgw8).1, (hq.out _ hgw8).2.1⟩) (fun hHf2 => ?_)
      clear hK K
      try simp only [Act.put, jA, jB, jC, jD, jE, jF]
      refine wpAnyH_take (i := 6) (v := ?vf5) rfl (by kernel_rfl) (by kernel_rfl) (by kernel_rfl) (fun _ _ _ h => h) (Or.inl ⟨by kernel_rfl, ?yf5⟩) hHf2 ?rf5
      case yf5 => (intro w' hS; (try dsimp only at hS); obtain ⟨s0, s1⟩ := hS; (try go_simp); (try with_reducible rfl))
      try simp only [Act.put, jA, jB, jC, jD, jE, jF]
      refine wpAnyH_take (i := 7) (v := ?vf6) rfl (by kernel_rfl) (by kernel_rfl) (by kernel_rfl) (fun _ _ _ h => h) (Or.inl ⟨by kernel_rfl, ?yf6⟩) hHf2 ?rf6
      case yf6 => (intro w' hS; (try dsimp only at hS); obtain ⟨s0, s1⟩ := hS; (try go_simp); (try with_reducible rfl))
      try simp only [Act.put, jA, jB, jC, jD, jE, jF]
      refine wpAnyH_take (i := 8) (v := ?vf7) rfl (by kernel_rfl) (by kernel_rfl) (by kernel_rfl) (fun _ _ _ h => h) (Or.inl ⟨by kernel_rfl, ?yf7⟩) hHf2 ?rf7
      case yf7 => (intro w' hS; (try dsimp only at hS); obtain ⟨s0, s1⟩ := hS; (try go_simp); (try with_reducible rfl))
      try simp only [Act.put, jA, jB, jC, jD, jE, jF]
      refine wpAnyH_ready (rs := [9]) (by kernel_rfl) (by simp) ?_
      refine AllReadyH.cons rfl (fun K hK => ?_) AllReadyH.nil
      obtain ⟨z0, z1, z2, z3⟩ := hr.out _ hgw8
      go_simp
      have hL := laid_cells z0 z1 (.slice A2 s.flash.length c2) (.slice D2 s.disk.length d2)
      have hzb := lt_of_cell (hq.out _ hgw8).1
      have hS8 : ((w8.setCell ⟨w.heap.size, 0, none⟩ (.slice A2 s.flash.length c2)).setCell ⟨w.heap.size, 1, none⟩ (.slice D2 s.disk.length d2)).cell? ⟨bx, 0, none⟩ = some (.slice A2 s.flash.length c2) ∧ ((w8.setCell ⟨w.heap.size, 0, none⟩ (.slice A2 s.flash.length c2)).setCell ⟨w.heap.size, 1, none⟩ (.slice D2 s.disk.length d2)).cell? ⟨bx, 1, none⟩ = some (.slice D2 s.disk.length d2) := ⟨(hL.agr.cell (b := bx) hzb (by have := HBX.out; omega) 0).trans (hq.out _ hgw8).1, (hL.agr.cell (b := bx) hzb (by have := HBX.out; omega) 1).trans (hq.out _ hgw8).2.1⟩
      refine hK.out _ _ (hS8) (fun hHf4 => ?_)
      clear hK K
      try simp only [Act.put, jA, jB, jC, jD, jE, jF]
      refine wpAnyH_take (i := 10) (v := ?vf8) rfl (by kernel_rfl) (by kernel_rfl) (by kernel_rfl) (fun _ _ _ h => h) (Or.inl ⟨by kernel_rfl, ?yf8⟩) hHf4 ?rf8
      case yf8 => (intro w' hS; (try dsimp only at hS); obtain ⟨s0, s1⟩ := hS; (try go_simp); (try with_reducible rfl))
      try simp only [Act.put, jA, jB, jC, jD, jE, jF]
      refine wpAnyH_done (by kernel_rfl) ?_ _
      have hOf := (hOx.out _ hgw8).agr hL.agr (fun b h1 h2 h3 => by omega)
      have hBf := (hBx.out _ hgw8).trans (hL.agr.below (B := w.heap.size) (by have := lt_of_cell z0; omega) (fun i hi => by omega))
      have hsz := hL.size
      have r0 := hL.new_ 0 _ rfl
      have r1 := hL.new_ 1 _ rfl
      have hxb := lt_of_cell (hq.out _ hgw8).1
      clear hL
      go_wp2
      exact bodyPost_ret (v := .tuple #[.agg #[.slice A2 s.flash.length c2, .slice D2 s.disk.length d2], .int .i64 (1 + (k7 : Int) + (k8 : Int) / 23 * 6)]) (by simp [results, Try.results38, go_sem, r0, r1, z0, z1]) rfl ⟨A2, D2, c2, d2, s, _, rfl, by omega, HS.out, hOf.mono (by omega) (by omega), hBf⟩
    · have hk1 : (0 : Int) < k4 := by omega
      have hll := HLL.out
      obtain ⟨lb, lo, rfl⟩ := hLr.addr (ints_ne' (by intro e; rw [e] at hl0; simp at hl0))
      have hq := Lib.hid (fun X (h : Agr (· = w.heap.size + 1) w4.drew X) => agr_cells h (b := bx) (by show bx < w4.heap.size; omega) (by omega) (w := w4.drew) x0 x1 y0 y1)
      have hr := Lib.hid (fun X (h : Agr (· = w.heap.size + 1) w4.drew X) => agr_cells h (b := w.heap.size) (by show w.heap.size < w4.heap.size; omega) (by omega) (w := w4.drew) q0 q1 f0 f1)
      have hOx := Lib.hid (fun X (h : Agr (· = w.heap.size + 1) w4.drew X) => hO.drew.agr h (fun b h1 h2 h3 => by omega))
      have hLx := Lib.hid (fun X (h : Agr (· = w.heap.size + 1) w4.drew X) => hLr.drew.agr h (fun b hb => by have := HLB.out b hb; omega))
      have hBx := Lib.hid (fun X (h : Agr (· = w.heap.size + 1) w4.drew X) => hB4.drew.trans (h.below (B := w.heap.size) (by show w.heap.size ≤ w4.heap.size; omega) (fun i hi => by omega)))
      have hRx := hR.drew
      have hg0 : Agr (· = w.heap.size + 1) w4.drew w4.drew := Agr.refl _ _
      have HZ := Lib.hid (show bx < w4.heap.size by omega)
      have HBX := Lib.hid hs2
      clear hO hR hB4 hLr
      go_wp2
      refine wp_region_held_drew (S := fun X => X.cell? ⟨bx, 0, none⟩ = some (.slice A2 s.flash.length c2) ∧ X.cell? ⟨bx, 1, none⟩ = some (.slice D2 s.disk.length d2)) (by kernel_rfl) ⟨(hq.out _ hg0).1, (hq.out _ hg0).2.1⟩ (fun hHeld0 => ?_)
      refine wpAnyH_take (i := 0) (v := ?vh1) rfl (by kernel_rfl) (by kernel_rfl) (by kernel_rfl) (fun _ _ _ h => h) (Or.inl ⟨by kernel_rfl, ?yh1⟩) hHeld0 ?rh1
      case yh1 => (intro w' hS; (try dsimp only at hS); obtain ⟨s0, s1⟩ := hS; (try go_simp); (try with_reducible rfl))
      try simp only [Act.put, jA, jB, jC, jD, jE, jF]
      refine wpAnyH_take (i := 1) (v := ?vh2) rfl (by kernel_rfl) (by kernel_rfl) (by kernel_rfl) (fun _ _ _ h => h) (Or.inl ⟨by kernel_rfl, ?yh2⟩) hHeld0 ?rh2
      case yh2 => (intro w' hS; (try dsimp only at hS); obtain ⟨s0, s1⟩ := hS; (try go_simp); (try with_reducible rfl))
      try simp only [Act.put, jA, jB, jC, jD, jE, jF]
      refine wpAnyH_take (i := 2) (v := ?vh3) rfl (by kernel_rfl) (by kernel_rfl) (by kernel_rfl) (fun _ _ _ h => h) (Or.inl ⟨by kernel_rfl, ?yh3⟩) hHeld0 ?rh3
      case yh3 => (intro w' hS; (try dsimp only at hS); obtain ⟨s0, s1⟩ := hS; (try go_simp); (try with_reducible rfl))
      try simp only [Act.put, jA, jB, jC, jD, jE, jF]
      refine wpAnyH_take (i := 3) (v := ?vh4) rfl (by kernel_rfl) (by kernel_rfl) (by kernel_rfl) (fun _ _ _ h => h) (Or.inl ⟨by kernel_rfl, ?yh4⟩) hHeld0 ?rh4
      case yh4 => (intro w' hS; (try dsimp only at hS); obtain ⟨s0, s1⟩ := hS; (try go_simp); (try with_reducible rfl))
      try simp only [Act.put, jA, jB, jC, jD, jE, jF]
      refine wpAnyH_take (i := 4) (v := ?vh5) rfl (by kernel_rfl) (by kernel_rfl) (by kernel_rfl) (fun _ _ _ h => h) (Or.inl ⟨by kernel_rfl, ?yh5⟩) hHeld0 ?rh5
      case yh5 => (intro w' hS; (try dsimp only at hS); obtain ⟨s0, s1⟩ := hS; (try go_simp); (try with_reducible rfl))
      try simp only [Act.put, jA, jB, jC, jD, jE, jF]
      refine wpAnyH_ready (rs := [5]) (by kernel_rfl) (by simp) ?_
      refine AllReadyH.cons rfl (fun K hK => ?_) AllReadyH.nil
      go_simp
      refine (spec_pickI (dirtyL s).length _ _ _ (0 + 1250 + 1) _ rfl (by omega) (by omega) (by omega) hRx).mono ?_
      rintro e w5 ⟨k5, rfl, hk5, hRw5, hc⟩
      have hgw5 := hg0.trans hc (fun _ _ h => h)
      obtain ⟨av, hav⟩ := get_some hk5
      have hAV := Lib.hid (dirtyL_in (List.mem_of_getElem? hav))
      obtain ⟨cav, _⟩ := (hLx.out _ hgw5).int_ hav
      have hi5 : (k5 : Int) < (dirtyL s).length := by omega
      clear hc
      go_wp2_with fail
      refine hK.out _ _ (⟨(hq.out _ hgw5).1, (hq.out _ hgw5).2.1⟩) (fun hHh1 => ?_)
      clear hK K
      try simp only [Act.put, jA, jB, jC, jD, jE, jF]
      refine wpAnyH_ready (rs := [6, 8]) (by kernel_rfl) (by simp) ?_
      refine AllReadyH.cons rfl (fun K hK => ?_) (AllReadyH.cons rfl (fun K hK => ?_) AllReadyH.nil)
      · go_simp
        refine hK.out _ _ (⟨(hq.out _ hgw5).1, (hq.out _ hgw5).2.1⟩) (fun hHh2 => ?_)
        clear hK K
        try simp only [Act.put, jA, jB, jC, jD, jE, jF]
        refine wpAnyH_ready (rs := [7, 8]) (by kernel_rfl) (by simp) ?_
        refine AllReadyH.cons rfl (fun K hK => ?_) (AllReadyH.cons rfl (fun K hK => ?_) AllReadyH.nil)
        · go_simp
          refine hK.out _ _ (⟨(hq.out _ hgw5).1, (hq.out _ hgw5).2.1⟩) (fun hHh3 => ?_)
          clear hK K
          try simp only [Act.put, jA, jB, jC, jD, jE, jF]
          refine wpAnyH_ready (rs := [8]) (by kernel_rfl) (by simp) ?_
          refine AllReadyH.cons rfl (fun K hK => ?_) AllReadyH.nil
          obtain ⟨z0, z1, z2, z3⟩ := hr.out _ hgw5
          go_simp
          have hL := laid_cells z0 z1 (.slice A2 s.flash.length c2) (.slice D2 s.disk.length d2)
          have hzb := lt_of_cell (hq.out _ hgw5).1
          have hS8 : ((w5.setCell ⟨w.heap.size, 0, none⟩ (.slice A2 s.flash.length c2)).setCell ⟨w.heap.size, 1, none⟩ (.slice D2 s.disk.length d2)).cell? ⟨bx, 0, none⟩ = some (.slice A2 s.flash.length c2) ∧ ((w5.setCell ⟨w.heap.size, 0, none⟩ (.slice A2 s.flash.length c2)).setCell ⟨w.heap.size, 1, none⟩ (.slice D2 s.disk.length d2)).cell? ⟨bx, 1, none⟩ = some (.slice D2 s.disk.length d2) := ⟨(hL.agr.cell (b := bx) hzb (by have := HBX.out; omega) 0).trans (hq.out _ hgw5).1, (hL.agr.cell (b := bx) hzb (by have := HBX.out; omega) 1).trans (hq.out _ hgw5).2.1⟩
          replace cav := (hL.agr.cell (b := lb) (lt_of_cell cav) (by have := HLB.out lb (blk_some.2 rfl); have := HBX.out; omega) _).trans cav
          refine hK.out _ _ (hS8) (fun hHh5 => ?_)
          clear hK K
          try simp only [Act.put, jA, jB, jC, jD, jE, jF]
          refine wpAnyH_take (i := 9) (v := ?vh6) rfl (by kernel_rfl) (by kernel_rfl) (by kernel_rfl) (fun _ _ _ h => h) (Or.inl ⟨by kernel_rfl, ?yh6⟩) hHh5 ?rh6
          case yh6 => (intro w' hS; (try dsimp only at hS); obtain ⟨s0, s1⟩ := hS; (try go_simp); (try with_reducible rfl))
          try simp only [Act.put, jA, jB, jC, jD, jE, jF]
          refine wpAnyH_done (by kernel_rfl) ?_ _
          have hOf := (hOx.out _ hgw5).agr hL.agr (fun b h1 h2 h3 => by omega)
          have hBf := (hBx.out _ hgw5).trans (hL.agr.below (B := w.heap.size) (by have := lt_of_cell z0; omega) (fun i hi => by omega))
          have hsz := hL.size
          have r0 := hL.new_ 0 _ rfl
          have r1 := hL.new_ 1 _ rfl
          have hxb := lt_of_cell (hq.out _ hgw5).1
          clear hL
          go_wp2
          exact bodyPost_ret (v := .tuple #[.agg #[.slice A2 s.flash.length c2, .slice D2 s.disk.length d2], .int .i64 av]) (by simp [results, Try.results38, go_sem, r0, r1, z0, z1]) rfl ⟨A2, D2, c2, d2, s, av, rfl, (by have := hAV.out; omega), HS.out, hOf.mono (by omega) (by omega), hBf⟩
        · obtain ⟨z0, z1, z2, z3⟩ := hr.out _ hgw5
          go_simp
          have hL := laid_cells z0 z1 (.slice A2 s.flash.length c2) (.slice D2 s.disk.length d2)
          have hzb := lt_of_cell (hq.out _ hgw5).1
          have hS8 : ((w5.setCell ⟨w.heap.size, 0, none⟩ (.slice A2 s.flash.length c2)).setCell ⟨w.heap.size, 1, none⟩ (.slice D2 s.disk.length d2)).cell? ⟨bx, 0, none⟩ = some (.slice A2 s.flash.length c2) ∧ ((w5.setCell ⟨w.heap.size, 0, none⟩ (.slice A2 s.flash.length c2)).setCell ⟨w.heap.size, 1, none⟩ (.slice D2 s.disk.length d2)).cell? ⟨bx, 1, none⟩ = some (.slice D2 s.disk.length d2) := ⟨(hL.agr.cell (b := bx) hzb (by have := HBX.out; omega) 0).trans (hq.out _ hgw5).1, (hL.agr.cell (b := bx) hzb (by have := HBX.out; omega) 1).trans (hq.out _ hgw5).2.1⟩
          replace cav := (hL.agr.cell (b := lb) (lt_of_cell cav) (by have := HLB.out lb (blk_some.2 rfl); have := HBX.out; omega) _).trans cav
          refine hK.out _ _ (hS8) (fun hHh7 => ?_)
          clear hK K
          try simp only [Act.put, jA, jB, jC, jD, jE, jF]
          refine wpAnyH_ready (rs := [7]) (by kernel_rfl) (by simp) ?_
          refine AllReadyH.cons rfl (fun K hK => ?_) AllReadyH.nil
          go_simp
          refine hK.out _ _ (hS8) (fun hHh8 => ?_)
          clear hK K
          try simp only [Act.put, jA, jB, jC, jD, jE, jF]
          refine wpAnyH_take (i := 9) (v := ?vh7) rfl (by kernel_rfl) (by kernel_rfl) (by kernel_rfl) (fun _ _ _ h => h) (Or.inl ⟨by kernel_rfl, ?yh7⟩) hHh8 ?rh7
          case yh7 => (intro w' hS; (try dsimp only at hS); obtain ⟨s0, s1⟩ := hS; (try go_simp); (try with_reducible rfl))
          try simp only [Act.put, jA, jB, jC, jD, jE, jF]
          refine wpAnyH_done (by kernel_rfl) ?_ _
          have hOf := (hOx.out _ hgw5).agr hL.agr (fun b h1 h2 h3 => by omega)
          have hBf := (hBx.out _ hgw5).trans (hL.agr.below (B := w.heap.size) (by have := lt_of_cell z0; omega) (fun i hi => by omega))
          have hsz := hL.size
          have r0 := hL.new_ 0 _ rfl
          have r1 := hL.new_ 1 _ rfl
          have hxb := lt_of_cell (hq.out _ hgw5).1
          clear hL
          go_wp2
          exact bodyPost_ret (v := .tuple #[.agg #[.slice A2 s.flash.length c2, .slice D2 s.disk.length d2], .int .i64 av]) (by simp [results, Try.results38, go_sem, r0, r1, z0, z1]) rfl ⟨A2, D2, c2, d2, s, av, rfl, (by have := hAV.out; omega), HS.out, hOf.mono (by omega) (by omega), hBf⟩
      · obtain ⟨z0, z1, z2, z3⟩ := hr.out _ hgw5
        go_simp
        have hL := laid_cells z0 z1 (.slice A2 s.flash.length c2) (.slice D2 s.disk.length d2)
        have hzb := lt_of_cell (hq.out _ hgw5).1
        have hS8 : ((w5.setCell ⟨w.heap.size, 0, none⟩ (.slice A2 s.flash.length c2)).setCell ⟨w.heap.size, 1, none⟩ (.slice D2 s.disk.length d2)).cell? ⟨bx, 0, none⟩ = some (.slice A2 s.flash.length c2) ∧ ((w5.setCell ⟨w.heap.size, 0, none⟩ (.slice A2 s.flash.length c2)).setCell ⟨w.heap.size, 1, none⟩ (.slice D2 s.disk.length d2)).cell? ⟨bx, 1, none⟩ = some (.slice D2 s.disk.length d2) := ⟨(hL.agr.cell (b := bx) hzb (by have := HBX.out; omega) 0).trans (hq.out _ hgw5).1, (hL.agr.cell (b := bx) hzb (by have := HBX.out; omega) 1).trans (hq.out _ hgw5).2.1⟩
        replace cav := (hL.agr.cell (b := lb) (lt_of_cell cav) (by have := HLB.out lb (blk_some.2 rfl); have := HBX.out; omega) _).trans cav
        refine hK.out _ _ (hS8) (fun hHh10 => ?_)
        clear hK K
        try simp only [Act.put, jA, jB, jC, jD, jE, jF]
        refine wpAnyH_ready (rs := [6]) (by kernel_rfl) (by simp) ?_
        refine AllReadyH.cons rfl (fun K hK => ?_) AllReadyH.nil
        go_simp
        refine hK.out _ _ (hS8) (fun hHh11 => ?_)
        clear hK K
        try simp only [Act.put, jA, jB, jC, jD, jE, jF]
        refine wpAnyH_ready (rs := [7]) (by kernel_rfl) (by simp) ?_
        refine AllReadyH.cons rfl (fun K hK => ?_) AllReadyH.nil
        go_simp
        refine hK.out _ _ (hS8) (fun hHh12 => ?_)
        clear hK K
        try simp only [Act.put, jA, jB, jC, jD, jE, jF]
        refine wpAnyH_take (i := 9) (v := ?vh8) rfl (by kernel_rfl) (by kernel_rfl) (by kernel_rfl) (fun _ _ _ h => h) (Or.inl ⟨by kernel_rfl, ?yh8⟩) hHh12 ?rh8
        case yh8 => (intro w' hS; (try dsimp only at hS); obtain ⟨s0, s1⟩ := hS; (try go_simp); (try with_reducible rfl))
        try simp only [Act.put, jA, jB, jC, jD, jE, jF]
        refine wpAnyH_done (by kernel_rfl) ?_ _
        have hOf := (hOx.out _ hgw5).agr hL.agr (fun b h1 h2 h3 => by omega)
        have hBf := (hBx.out _ hgw5).trans (hL.agr.below (B := w.heap.size) (by have := lt_of_cell z0; omega) (fun i hi => by omega))
        have hsz := hL.size
        have r0 := hL.new_ 0 _ rfl
        have r1 := hL.new_ 1 _ rfl
        have hxb := lt_of_cell (hq.out _ hgw5).1
        clear hL
        go_wp2
        exact bodyPost_ret (v := .tuple #[.agg #[.slice A2 s.flash.length c2, .slice D2 s.disk.length d2], .int .i64 av]) (by simp [results, Try.results38, go_sem, r0, r1, z0, z1]) rfl ⟨A2, D2, c2, d2, s, av, rfl, (by have := hAV.out; omega), HS.out, hOf.mono (by omega) (by omega), hBf⟩
  · have hl1 : ¬ (0 : Int) < (dirtyL s).length := by omega
    have hq := Lib.hid (fun X (h : Agr (· = w.heap.size + 1) w3.drew X) => agr_cells h (b := bx) (by show bx < w3.heap.size; omega) (by omega) (w := w3.drew) x0 x1 y0 y1)
    have hr := Lib.hid (fun X (h : Agr (· = w.heap.size + 1) w3.drew X) => agr_cells h (b := w.heap.size) (by show w.heap.size < w3.heap.size; omega) (by omega) (w := w3.drew) q0 q1 f0 f1)
    have hOx := Lib.hid (fun X (h : Agr (· = w.heap.size + 1) w3.drew X) => hO.drew.agr h (fun b h1 h2 h3 => by omega))
    have hBx := Lib.hid (fun X (h : Agr (· = w.heap.size + 1) w3.drew X) => hB3.drew.trans (h.below (B := w.heap.size) (by show w.heap.size ≤ w3.heap.size; omega) (fun i hi => by omega)))
    have hRx := hR.drew
    have hg0 : Agr (· = w.heap.size + 1) w3.drew w3.drew := Agr.refl _ _
    have HZ := Lib.hid (show bx < w3.heap.size by omega)
    have HBX := Lib.hid hs2
    clear hO hR hB3
    go_wp2
    refine wp_region_held_drew (S := fun X => X.cell? ⟨bx, 0, none⟩ = some (.slice A2 s.flash.length c2) ∧ X.cell? ⟨bx, 1, none⟩ = some (.slice D2 s.disk.length d2)) (by kernel_rfl) ⟨(hq.out _ hg0).1, (hq.out _ hg0).2.1⟩ (fun hHeld0 => ?_)
    refine wpAnyH_take (i := 0) (v := ?vg1) rfl (by kernel_rfl) (by kernel_rfl) (by kernel_rfl) (fun _ _ _ h => h) (Or.inl ⟨by kernel_rfl, ?yg1⟩) hHeld0 ?rg1
    case yg1 => (intro w' hS; (try dsimp only at hS); obtain ⟨s0, s1⟩ := hS; (try go_simp); (try with_reducible rfl))
    try simp only [Act.put, jA, jB, jC, jD, jE, jF]
    refine wpAnyH_take (i := 1) (v := ?vg2) rfl (by kernel_rfl) (by kernel_rfl) (by kernel_rfl) (fun _ _ _ h => h) (Or.inl ⟨by kernel_rfl, ?yg2⟩) hHeld0 ?rg2
    case yg2 => (intro w' hS; (try dsimp only at hS); obtain ⟨s0, s1⟩ := hS; (try go_simp); (try with_reducible rfl))
    try simp only [Act.put, jA, jB, jC, jD, jE, jF]
    refine wpAnyH_take (i := 4) (v := ?vg3) rfl (by kernel_rfl) (by kernel_rfl) (by kernel_rfl) (fun _ _ _ h => h) (Or.inl ⟨by kernel_rfl, ?yg3⟩) hHeld0 ?rg3
    case yg3 => (intro w' hS; (try dsimp only at hS); obtain ⟨s0, s1⟩ := hS; (try go_simp); (try with_reducible rfl))
    try simp only [Act.put, jA, jB, jC, jD, jE, jF]
    refine wpAnyH_ready (rs := [2]) (by kernel_rfl) (by simp) ?_
    refine AllReadyH.cons rfl (fun K hK => ?_) AllReadyH.nil
    go_simp
    refine (spec_pickI 6 6 _ _ (0 + 1250) _ rfl (by omega) (by omega) (by omega) hRx).mono ?_
    rintro e w7 ⟨k7, rfl, hk7, hRw7, hc⟩
    have hgw7 := hg0.trans hc (fun _ _ h => h)
    have e1 : IntKind.i64.wrap (1 + (k7 : Int)) = 1 + (k7 : Int) := IntWalk.i64_in _ (by omega)
    clear hc
    go_wp2_with fail
    refine hK.out _ _ (⟨(hq.out _ hgw7).1, (hq.out _ hgw7).2.1⟩) (fun hHg1 => ?_)
    clear hK K
    try simp only [Act.put, jA, jB, jC, jD, jE, jF]
    refine wpAnyH_take (i := 3) (v := ?vg4) rfl (by kernel_rfl) (by kernel_rfl) (by kernel_rfl) (fun _ _ _ h => h) (Or.inl ⟨by kernel_rfl, ?yg4⟩) hHg1 ?rg4
    case yg4 => (intro w' hS; (try dsimp only at hS); obtain ⟨s0, s1⟩ := hS; (try go_simp); (try with_reducible rfl))
    try simp only [Act.put, jA, jB, jC, jD, jE, jF]
    refine wpAnyH_ready (rs := [5]) (by kernel_rfl) (by simp) ?_
    refine AllReadyH.cons rfl (fun K hK => ?_) AllReadyH.nil
    go_simp
    refine (spec_pickI 24 24 _ _ (0 + 1250 + 1) _ rfl (by omega) (by omega) (by omega) hRw7).mono ?_
    rintro e w8 ⟨k8, rfl, hk8, hRw8, hc⟩
    have hgw8 := hgw7.trans hc (fun _ _ h => h)
    have e2 : IntKind.i64.wrap ((k8 : Int) / 23) = (k8 : Int) / 23 := IntWalk.i64_in _ (by omega)
    have e3 : IntKind.i64.wrap ((k8 : Int) / 23 * 6) = (k8 : Int) / 23 * 6 := IntWalk.i64_in _ (by omega)
    have e4 : IntKind.i64.wrap (1 + (k7 : Int) + (k8 : Int) / 23 * 6) = 1 + (k7 : Int) + (k8 : Int) / 23 * 6 := IntWalk.i64_in _ (by omega)
    clear hc
    go_wp2_with fail
    refine hK.out _ _ (⟨(hq.out _ hgw8).1, (hq.out _ hgw8).2.1⟩) (fun hHg2 => ?_)
    clear hK K
    try simp only [Act.put, jA, jB, jC, jD, jE, jF]
    refine wpAnyH_take (i := 6) (v := ?vg5) rfl (by kernel_rfl) (by kernel_rfl) (by kernel_rfl) (fun _ _ _ h => h) (Or.inl ⟨by kernel_rfl, ?yg5⟩) hHg2 ?rg5
    case yg5 => (intro w' hS; (try dsimp only at hS); obtain ⟨s0, s1⟩ := hS; (try go_simp); (try with_reducible rfl))
    try simp only [Act.put, jA, jB, jC, jD, jE, jF]
    refine wpAnyH_take (i := 7) (v := ?vg6) rfl (by kernel_rfl) (by kernel_rfl) (by kernel_rfl) (fun _ _ _ h => h) (Or.inl ⟨by kernel_rfl, ?yg6⟩) hHg2 ?rg6
    case yg6 => (intro w' hS; (try dsimp only at hS); obtain ⟨s0, s1⟩ := hS; (try go_simp); (try with_reducible rfl))
    try simp only [Act.put, jA, jB, jC, jD, jE, jF]
    refine wpAnyH_take (i := 8) (v := ?vg7) rfl (by kernel_rfl) (by kernel_rfl) (by kernel_rfl) (fun _ _ _ h => h) (Or.inl ⟨by kernel_rfl, ?yg7⟩) hHg2 ?rg7
    case yg7 => (intro w' hS; (try dsimp only at hS); obtain ⟨s0, s1⟩ := hS; (try go_simp); (try with_reducible rfl))
    try simp only [Act.put, jA, jB, jC, jD, jE, jF]
    refine wpAnyH_ready (rs := [9]) (by kernel_rfl) (by simp) ?_
    refine AllReadyH.cons rfl (fun K hK => ?_) AllReadyH.nil
    obtain ⟨z0, z1, z2, z3⟩ := hr.out _ hgw8
    go_simp
    have hL := laid_cells z0 z1 (.slice A2 s.flash.length c2) (.slice D2 s.disk.length d2)
    have hzb := lt_of_cell (hq.out _ hgw8).1
    have hS8 : ((w8.setCell ⟨w.heap.size, 0, none⟩ (.slice A2 s.flash.length c2)).setCell ⟨w.heap.size, 1, none⟩ (.slice D2 s.disk.length d2)).cell? ⟨bx, 0, none⟩ = some (.slice A2 s.flash.length c2) ∧ ((w8.setCell ⟨w.heap.size, 0, none⟩ (.slice A2 s.flash.length c2)).setCell ⟨w.heap.size, 1, none⟩ (.slice D2 s.disk.length d2)).cell? ⟨bx, 1, none⟩ = some (.slice D2 s.disk.length d2) := ⟨(hL.agr.cell (b := bx) hzb (by have := HBX.out; omega) 0).trans (hq.out _ hgw8).1, (hL.agr.cell (b := bx) hzb (by have := HBX.out; omega) 1).trans (hq.out _ hgw8).2.1⟩
    refine hK.out _ _ (hS8) (fun hHg4 => ?_)
    clear hK K
    try simp only [Act.put, jA, jB, jC, jD, jE, jF]
    refine wpAnyH_take (i := 10) (v := ?vg8) rfl (by kernel_rfl) (by kernel_rfl) (by kernel_rfl) (fun _ _ _ h => h) (Or.inl ⟨by kernel_rfl, ?yg8⟩) hHg4 ?rg8
    case yg8 => (intro w' hS; (try dsimp only at hS); obtain ⟨s0, s1⟩ := hS; (try go_simp); (try with_reducible rfl))
    try simp only [Act.put, jA, jB, jC, jD, jE, jF]
    refine wpAnyH_done (by kernel_rfl) ?_ _
    have hOf := (hOx.out _ hgw8).agr hL.agr (fun b h1 h2 h3 => by omega)
    have hBf := (hBx.out _ hgw8).trans (hL.agr.below (B := w.heap.size) (by have := lt_of_cell z0; omega) (fun i hi => by omega))
    have hsz := hL.size
    have r0 := hL.new_ 0 _ rfl
    have r1 := hL.new_ 1 _ rfl
    have hxb := lt_of_cell (hq.out _ hgw8).1
    clear hL
    go_wp2
    exact bodyPost_ret (v := .tuple #[.agg #[.slice A2 s.flash.length c2, .slice D2 s.disk.length d2], .int .i64 (1 + (k7 : Int) + (k8 : Int) / 23 * 6)]) (by simp [results, Try.results38, go_sem, r0, r1, z0, z1]) rfl ⟨A2, D2, c2, d2, s, _, rfl, by omega, HS.out, hOf.mono (by omega) (by omega), hBf⟩
end Go.Proofs.Ytbekihiiildgmaa
namespace Go.Proofs.Ytbekihiiildgmaa
set_option linter.unusedVariables false
set_option linter.unusedSimpArgs false
open Go.RowKit Go.Maps
set_option maxHeartbeats 4000000
set_option maxRecDepth 100000
theorem spec_DrawStepsFill (A : Option Addr) (bs : List Nat) (c : Nat) (w : World) (hc : Code w A bs c) :
    Calls Try.prog 41 #[.slice A bs.length c] w fun e w' => ∃ A2 D2 c2 d2 s a, e = .returned (.tuple #[.agg #[.slice A2 s.flash.length c2, .slice D2 s.disk.length d2], .int .i64 a]) ∧ (1 ≤ a ∧ a ≤ 6) ∧ StoreD w w' A2 D2 s := by
  have hq := Row.new w #[.slice none 0 0, .slice none 0 0] 26
  obtain ⟨q0, f0⟩ := hq.at0 (j := 0) rfl
  obtain ⟨q1, f1⟩ := hq.at0 (j := 1) rfl
  obtain ⟨W0, hW0⟩ : ∃ W, w.alloc (.cells #[.slice none 0 0, .slice none 0 0] 26) = W := ⟨_, rfl⟩
  have hs0 : W0.heap.size = w.heap.size + 1 := by rw [← hW0]; simp
  have hB0 : Below w.heap.size w W0 := by rw [← hW0]; (repeat (first | (with_reducible exact Below.refl _ _) | (with_reducible assumption) | (refine Below.setCell ?_ (by first | omega | exact hB.size | exact hb.size | (have h := hB.size; simp; omega) | (have h := hb.size; simp; omega) | (simp; omega) | simp) _) | (refine Below.alloc ?_ (by first | omega | exact hB.size | exact hb.size | (have h := hB.size; simp; omega) | (have h := hb.size; simp; omega) | (simp; omega) | simp) _) | (refine Below.drew ?_)))
  have hrow := hc.row.alloc (.cells #[.slice none 0 0, .slice none 0 0] 26)
  rw [hW0] at q0 q1 f0 f1 hrow
  clear hq
  go_enter Try.func41, Try.ntmps41
  go_wp2_with fail
  (try rw [hW0])
  refine (spec_l6Open A bs c _ hc.len hc.cap hc.byte hrow).mono ?_
  rintro e w1 ⟨rfl, hR1, hb1⟩
  rw [hs0] at hb1 hR1
  have hs1 := hb1.size
  rw [hs0] at hs1
  replace q0 := (hb1.cell (p := ⟨w.heap.size, 0, none⟩) (by show w.heap.size < _; omega)).trans q0
  replace q1 := (hb1.cell (p := ⟨w.heap.size, 1, none⟩) (by show w.heap.size < _; omega)).trans q1
  replace f0 := (hb1.frozen (p := ⟨w.heap.size, 0, none⟩) (by show w.heap.size < _; omega)).trans f0
  replace f1 := (hb1.frozen (p := ⟨w.heap.size, 1, none⟩) (by show w.heap.size < _; omega)).trans f1
  have hB1 := hB0.trans (hb1.mono (by omega))
  have hRl := hR1.lt
  clear hb1 hB0 hrow
  (try simp only [hs0])
  clear hs0
  go_wp2_with fail
  refine (spec_l71Full _ _ 0 _ (by omega) hR1).mono ?_
  rintro e w2 ⟨A2, D2, c2, d2, s, rfl, hsm, hO, hR, hA⟩
  have hs2 := hA.size
  have HS := Lib.hid hsm
  clear hsm hR1
  obtain ⟨q0, q1, f0, f1⟩ := agr_cells hA (b := w.heap.size) (by omega) (by omega) q0 q1 f0 f1
  have hB2 := hB1.trans (hA.below (B := w.heap.size) (by omega) (fun i hi => by omega))
  clear hA hB1
  replace hO : OSt w2 (w.heap.size + 1 + 1) w2.heap.size A2 s.flash D2 s.disk := hO.mono (by omega) (Nat.le_refl _)
  have hx := Row.new w2 #[.slice A2 s.flash.length c2, .slice D2 s.disk.length d2] 26
  obtain ⟨W, hW⟩ : ∃ W, w2.alloc (.cells #[.slice A2 s.flash.length c2, .slice D2 s.disk.length d2] 26) = W := ⟨_, rfl⟩
  obtain ⟨bx, hbx⟩ : ∃ b, w2.heap.size = b := ⟨_, rfl⟩
  rw [hW] at hx
  obtain ⟨x0, y0⟩ := hx.at0 (j := 0) rfl
  obtain ⟨x1, y1⟩ := hx.at0 (j := 1) rfl
  have hb : Below w2.heap.size w2 W := by rw [← hW]; (repeat (first | (with_reducible exact Below.refl _ _) | (with_reducible assumption) | (refine Below.setCell ?_ (by first | omega | exact hB.size | exact hb.size | (have h := hB.size; simp; omega) | (have h := hb.size; simp; omega) | (simp; omega) | simp) _) | (refine Below.alloc ?_ (by first | omega | exact hB.size | exact hb.size | (have h := hB.size; simp; omega) | (have h := hb.size; simp; omega) | (simp; omega) | simp) _) | (refine Below.drew ?_)))
  have hsW : W.heap.size = w2.heap.size + 1 := by rw [← hW]; simp
  obtain ⟨q0, q1, f0, f1⟩ := four_cells hb (b := w.heap.size) (by omega) q0 q1 f0 f1
  have hBW := hB2.trans (hb.mono (by omega))
  replace hO := hO.below hb (Nat.le_refl _)
  replace hR := hR.below hb (Nat.le_refl _)
  rw [hbx] at x0 x1 y0 y1 hO hsW hs2
  clear hx hb hB2
  go_wp2_with fail
  (try rw [hW])
  (try simp only [hbx])
  refine (spec_pickI 6 6 _ _ (0 + 1250) _ rfl (by omega) (by omega) (by omega) hR).mono ?_
  rintro e w3 ⟨k3, rfl, hk3, hR3, hA⟩
  have hs3 := hA.size
  obtain ⟨q0, q1, f0, f1⟩ := agr_cells hA (b := w.heap.size) (by omega) (by omega) q0 q1 f0 f1
  obtain ⟨x0, x1, y0, y1⟩ := agr_cells hA (b := bx) (by omega) (by omega) x0 x1 y0 y1
  have hB3 := hBW.trans (hA.below (B := w.heap.size) (by omega) (fun i hi => by omega))
  replace hO := hO.agr hA (fun b h1 h2 h3 => by omega)
  clear hA hBW hR hR3 hW
  have e1 : IntKind.i64.wrap (1 + (k3 : Int)) = 1 + (k3 : Int) := IntWalk.i64_in _ (by omega)
  have h1n : s.flash.length < 1000000000000 := by have := HS.out.1.1; omega
  go_wp2
  go_loopw [6, 7] (fun t i wr => ∃ (j : Nat) (a : Int), j ≤ 6 ∧ i = .int .i64 j ∧ t = .int .i64 a ∧ (1 ≤ a ∧ a ≤ 6) ∧ Below w3.heap.size w3 wr) (fun _ i _ => 6 - (intOf i).toNat)
  case atStart => exact ⟨0, 1 + (k3 : Int), by omega, rfl, rfl, by omega, Below.refl _ _⟩
  case round =>
    obtain ⟨j, a, hj, rfl, rfl, ha, hBr⟩ := hrel
    have hzr := hBr.size
    obtain ⟨q0, q1, f0, f1⟩ := four_cells hBr (b := w.heap.size) (by omega) q0 q1 f0 f1
    obtain ⟨x0, x1, y0, y1⟩ := four_cells hBr (b := bx) (by omega) x0 x1 y0 y1
    replace hO := hO.below hBr (Nat.le_refl _)
    by_cases hj6 : j < 6
    · have hj1 : (j : Int) < 6 := by omega
      have e2 : IntKind.i64.wrap ((j : Int) + 1) = (j : Int) + 1 := IntWalk.i64_in _ (by omega)
      have e3 : IntKind.i64.wrap (a % 6 + 1) = a % 6 + 1 := IntWalk.i64_in _ (by omega)
      have t1 : Int.tmod a 6 = a % 6 := Int.tmod_eq_emod_of_nonneg (by omega)
      go_wp2_with fail
      refine (spec_FindLast s.flash a A2 _ c2 _ rfl h1n hO.ofl.fl).mono ?_
      generalize findLast s.flash a = fr
      obtain ⟨⟨rk, rs, ra, rv⟩, fb⟩ := fr
      rintro e w4 ⟨he, hb⟩
      dsimp only [rcA] at he
      subst he
      have hs4 := hb.size
      obtain ⟨q0, q1, f0, f1⟩ := four_cells hb (b := w.heap.size) (by omega) q0 q1 f0 f1
      obtain ⟨x0, x1, y0, y1⟩ := four_cells hb (b := bx) (by omega) x0 x1 y0 y1
      replace hO := hO.below hb (Nat.le_refl _)
      have hB4 := hBr.trans (hb.mono hzr)
      clear hb
      have hb : Below w4.heap.size w4 (w4.alloc (.cells #[.int .i64 rk, .int .i64 rs, .int .i64 ra, .int .i64 rv] 45)) := by (repeat (first | (with_reducible exact Below.refl _ _) | (with_reducible assumption) | (refine Below.setCell ?_ (by first | omega | exact hB.size | exact hb.size | (have h := hB.size; simp; omega) | (have h := hb.size; simp; omega) | (simp; omega) | simp) _) | (refine Below.alloc ?_ (by first | omega | exact hB.size | exact hb.size | (have h := hB.size; simp; omega) | (have h := hb.size; simp; omega) | (simp; omega) | simp) _) | (refine Below.drew ?_)))
      have hB5 := hB4.trans (hb.mono (by omega))
      obtain ⟨q0, q1, f0, f1⟩ := four_cells hb (b := w.heap.size) (by omega) q0 q1 f0 f1
      obtain ⟨x0, x1, y0, y1⟩ := four_cells hb (b := bx) (by omega) x0 x1 y0 y1
      replace hO := hO.below hb (Nat.le_refl _)
      clear hb hB4
      cases fb with
      | true =>
        go_wp2
        go_roundw
        (case rel => exact ⟨j + 1, a % 6 + 1, by omega, by go_num, rfl, by omega, hB5⟩)
        (case measure => simp [intOf]; omega)
      | false =>
        have hL := laid_cells q0 q1 (.slice A2 s.flash.length c2) (.slice D2 s.disk.length d2)
        have hOf := hO.agr hL.agr (fun b h1 h2 h3 => by omega)
        have hBf := hB3.trans (hB5.mono (by have := hB3.size; omega)) |>.trans (hL.agr.below (B := w.heap.size) (by have := lt_of_cell q0; omega) (fun i hi => by omega))
        have hsz := hL.size
        have hbl := lt_of_cell x0
        have r0 := hL.new_ 0 _ rfl
        have r1 := hL.new_ 1 _ rfl
        clear hL
        go_wp2
        exact bodyPost_ret (v := .tuple #[.agg #[.slice A2 s.flash.length c2, .slice D2 s.disk.length d2], .int .i64 a]) (by simp [results, Try.results41, go_sem, r0, r1, q0, q1]) rfl ⟨A2, D2, c2, d2, s, a, rfl, ha, HS.out, hOf.mono (by omega) (by omega), hBf⟩
    · have hj1 : ¬ (j : Int) < 6 := by omega
      have hL := laid_cells q0 q1 (.slice A2 s.flash.length c2) (.slice D2 s.disk.length d2)
      have hOf := hO.agr hL.agr (fun b h1 h2 h3 => by omega)
      have hBf := hB3.trans (hBr.mono (by have := hB3.size; omega)) |>.trans (hL.agr.below (B := w.heap.size) (by have := lt_of_cell q0; omega) (fun i hi => by omega))
      have hsz := hL.size
      have hbl := lt_of_cell x0
      have r0 := hL.new_ 0 _ rfl
      have r1 := hL.new_ 1 _ rfl
      clear hL
      go_wp2
      exact bodyPost_ret (v := .tuple #[.agg #[.slice A2 s.flash.length c2, .slice D2 s.disk.length d2], .int .i64 a]) (by simp [results, Try.results41, go_sem, r0, r1, q0, q1]) rfl ⟨A2, D2, c2, d2, s, a, rfl, ha, HS.out, hOf.mono (by omega) (by omega), hBf⟩
end Go.Proofs.Ytbekihiiildgmaa
namespace Go.Proofs.Ytbekihiiildgmaa
set_option linter.unusedVariables false
set_option linter.unusedSimpArgs false
open Go.RowKit Go.WideShapes Go.ChangeShapes
section
variable {H : Type} {enc : TypeId × Value → H} {P : Program}
/-- an argument reads behind the call as before, if below the heap's old size nothing has turned -/
theorem trod_kept {t : TypeId} (hl : laidOutB P = true) (hr : P.readableRec t = true) (hrow : t < P.types.size) {W W' : World} {v : Value} {d : DataW H} {ps qs : List MemPlace} {sp : Nat → Bool}
    (h : DataW.Trod enc P W 0 (fun _ => true) true t v d ps) (hb : Below W.heap.size W W') (hlt : ∀ x ∈ qs, x.block < W.heap.size) (hsp : ∀ p ∈ qs, sp p.block = true) (hq : ∀ x ∈ ps, x ∈ qs) : DataW.Trod enc P W' 0 sp true t v d ps :=
  WideElems.Trod_stays hl hr hrow h (fun x hx => hb.same (hlt x (hq x hx))) (fun x hx => hsp x (hq x hx))
theorem post_of_below {f : Func} {s : ChangeSpec} {apart fresh handsOn again : Bool} {W W' : World} {args : Array Value} {v : Value} {ds gs : List (DataW H)} {before pa pv : List MemPlace}
    (hW : DataW.Whole enc P f.params.toList s.vars apart W args.toList ds gs before)
    (hres : ∀ (b : Nat) (sp : Nat → Bool) (hd : Bool), DataW.TrodAll enc P W' b sp hd f.resultTypes.toList (v.resultList f.resultTypes.size) (s.fn H (ds ++ gs)).results [])
    (hargs : ∀ sp : Nat → Bool, (∀ p ∈ before, sp p.block = true) → DataW.TrodAll enc P W' 0 sp true f.params.toList args.toList (s.fn H (ds ++ gs)).args pa)
    (hvars : ∀ sp : Nat → Bool, (∀ p ∈ before, sp p.block = true) → DataW.TrodVars enc P W' sp s.vars (s.fn H (ds ++ gs)).vars pv)
    (hps : before = pa ++ pv) (hb : Below W.heap.size W W')
    (hok : ∀ (j : Nat) (t : TypeId) (r : Value), f.resultTypes[j]? = some t → (v.resultList f.resultTypes.size)[j]? = some r → Value.okWide P W' .any 0 t r) :
    s.post enc P f apart fresh handsOn again W args v W' := by
  have hlt : ∀ p ∈ before, p.block < W.heap.size := fun p hp => hW.lt p hp
  have hold : ∀ p ∈ before, (fun b => decide (b < W.heap.size)) p.block = true := fun p hp => by simpa using hlt p hp
  refine ⟨ds, gs, before, [], pa, pv, hW, hres _ _ _, hargs _ hold, hvars _ hold, World.keptBut_mono (fun p hp => ⟨hp, ?_⟩) (hb.frame (· ∈ before)), fun _ => ?_⟩
  · rw [hps, List.mem_append] at hp
    exact Or.inr hp
  · obtain ⟨_, _, _, _, _, hz, hn⟩ := hW
    refine ⟨hok, _, _, ([] ++ pa) ++ pv, ⟨[] ++ pa, pv, trodAll_append (hargs _ (fun _ _ => rfl)) (hres _ _ _), hvars _ (fun _ _ => rfl), rfl, ?_, ?_⟩, ?_⟩
    · intro b off hp
      have hin : MemPlace.cell b off ∈ before := by rw [hps]; simpa using hp
      rw [hb.frozen (hlt _ hin)]
      exact hz b off hin
    · intro ha
      have := hn ha
      rw [hps] at this
      simpa using this
    · intro p hp _
      rw [hps]
      simpa using hp
end
end Go.Proofs.Ytbekihiiildgmaa
namespace Go.Proofs.Ytbekihiiildgmaa
set_option linter.unusedVariables false
set_option linter.unusedSimpArgs false
open Go.RowKit Go.ChangeShapes Go.WideShapes Go.Deep
set_option maxRecDepth 100000
section
variable {H : Type} {enc : TypeId × Value → H} {w : World} {base fuel : Nat} {spare : Nat → Bool} {held : Bool}
theorem plain_addr' {w : World} {a : Addr} {u : Value} (h : w.cell? a = some u) : ∃ b o, a = ⟨b, o, none⟩ := by
  obtain ⟨b, o, s⟩ := a
  cases s with
  | none => exact ⟨b, o, rfl⟩
  | some s =>
    have : w.cell? ⟨b, o, some s⟩ = none := by
      unfold World.cell?
      split
      · exact if_pos rfl
      · rfl
    rw [this] at h; cases h
theorem cellsOf_u8 : Try.prog.cellsOf 5 = 1 := by kernel_rfl
theorem bytes_of {cs : List Value} {x : DataW H × List MemPlace} (h : DataW.trod enc Try.prog w base spare held fuel 22 cs = some x) : ∃ A c bs, cs = [.slice A (List.length bs) c] ∧ Code w A bs c := by
  rcases open_ints Try.underlying22 Try.underlying5 cellsOf_u8 h with ⟨rfl, _⟩ | ⟨a, len, cap, zs, rfl, _, hlc, hcm, hzl, _, hcell, hwf⟩
  · exact ⟨none, 0, [], rfl, ⟨Nat.le_refl _, by omega, by simp, fun h => absurd rfl h⟩⟩
  · have hlz : len ≤ zs.length := by rw [hzl]; split <;> omega
    have hz : ∀ i, i < zs.length → zs.getD i 0 ∈ zs := fun i hi => by
      rw [List.getD_eq_getElem?_getD, List.getElem?_eq_getElem hi]
      exact List.getElem_mem hi
    have hr : ∀ n ∈ zs, 0 ≤ n ∧ n < 256 := fun n hn => by
      have := hwf n hn
      have h1 : IntKind.u8.min = 0 := rfl
      have h2 : IntKind.u8.max = 255 := rfl
      change (decide (IntKind.u8.min ≤ n) && decide (n ≤ IntKind.u8.max)) = true at this
      rw [h1, h2] at this
      simp at this
      omega
    refine ⟨some a, cap, (List.range len).map fun i => (zs.getD i 0).toNat, by simp, ⟨by simpa using hlc, by unfold maxLen at hcm; omega, fun b hb => ?_, fun hne => ?_⟩⟩
    · obtain ⟨i, hi, rfl⟩ := List.mem_map.1 hb
      have := hr _ (hz i (by have := List.mem_range.1 hi; omega))
      omega
    · have hn : 0 < len := by
        rcases Nat.eq_zero_or_pos len with h0 | h0
        · rw [h0] at hne; simp [bytes] at hne
        · exact h0
      have h0 := hcell 0 (by omega)
      obtain ⟨b, o, rfl⟩ := plain_addr' (a := a) (by simpa [Addr.add] using h0)
      refine ⟨b, o, rfl, fun j u hj => ?_⟩
      have hjl : j < len := by
        have := (List.getElem?_eq_some_iff.1 hj).1
        simpa [bytes] using this
      have hc := hcell j (by omega)
      rw [addr_add] at hc
      rw [hc]
      have hb := hr _ (hz j (by omega))
      rw [bytes, List.getElem?_map, List.getElem?_map, List.getElem?_range hjl] at hj
      simp only [Option.map_some, Option.some.injEq] at hj
      rw [← hj]
      have : (((zs.getD j 0).toNat : Nat) : Int) = zs.getD j 0 := by omega
      rw [this]
end
end Go.Proofs.Ytbekihiiildgmaa
