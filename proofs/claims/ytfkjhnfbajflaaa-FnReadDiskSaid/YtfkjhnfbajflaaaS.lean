/- A closed fact: make([]bool, 601). Walks: the reference's small functions; is a flash ok. Walk: is a flash ok, by the reference. -/
import Derived.Test.YtfkjhnfbajflaaaProg
import Derived.WalkKit
import Derived.KernelRfl
import Derived.Test.YtfkjhnfbajflaaaC2
namespace Go.Proofs.Ytfkjhnfbajflaaa
set_option linter.unusedVariables false
set_option linter.unusedSimpArgs false
open Go.RowKit
theorem run_marks : ∃ cs : Array Value, (∀ w : World, (Instr.makeSlice 56 (.int .i64 601) (.int .i64 601)).run Try.prog w = .ok (.slice (some ⟨w.heap.size, 0, none⟩) 601 601) (w.alloc (.cells cs 4))) ∧ ∀ j : Nat, j < 601 → cs[j]? = some (.bool false) := by
  refine ⟨Array.replicate 601 (.bool false), fun w => ?_, fun j hj => by simp [hj]⟩
  kernel_rfl
end Go.Proofs.Ytfkjhnfbajflaaa
namespace Go.Proofs.Ytfkjhnfbajflaaa
set_option linter.unusedVariables false
set_option linter.unusedSimpArgs false
open Go.RowKit Go.Maps
set_option maxHeartbeats 400000
theorem spec_RecOk (r : Rc) (w : World) : Calls Try.prog 64 #[.agg #[.int .i64 r.kind, .int .i64 r.seq, .int .i64 r.addr, .int .i64 r.val]] w fun e w' => e = .returned (.bool (recOk r)) ∧ Below w.heap.size w w' := by
  obtain ⟨k, s, a, v⟩ := r
  dsimp only
  have hB : Below w.heap.size w (w.alloc (.cells #[.int .i64 k, .int .i64 s, .int .i64 a, .int .i64 v] 35)) := (Below.refl _ _).alloc (Nat.le_refl _) _
  have hq : Hid (∀ x, x = (decide (1 ≤ k) && decide (k ≤ 2) && (decide (1 ≤ s) && decide (s ≤ 600)) && (decide (1 ≤ a) && decide (a ≤ 6)) && (decide (0 ≤ v) && decide (v ≤ 9))) → recOk ⟨k, s, a, v⟩ = x) := by
    intro x hx
    rw [hx]
    unfold recOk kindB addrB valB
    rw [Bool.eq_iff_iff]
    simp
    omega
  go_enter Try.func64, Try.ntmps64
  go_wp2_with (go_at_call 39; refine (spec_l6In _ _ _ _).mono ?_; rintro e w' ⟨rfl, rfl⟩)
  all_goals (go_ret; exact ⟨ret_bool (hq.out _ (by simp [*])).symm, hB⟩)
theorem spec_l2Page (p : Pg) (w : World) : Calls Try.prog 40 #[.agg #[.int .i64 p.state, .int .i64 p.rc.kind, .int .i64 p.rc.seq, .int .i64 p.rc.addr, .int .i64 p.rc.val]] w fun e w' => e = .returned (.bool (pageOk p)) ∧ Below w.heap.size w w' := by
  obtain ⟨st, r⟩ := p
  dsimp only
  have hB : Below w.heap.size w (w.alloc (.cells #[.int .i64 st, .int .i64 r.kind, .int .i64 r.seq, .int .i64 r.addr, .int .i64 r.val] 59)) := (Below.refl _ _).alloc (Nat.le_refl _) _
  by_cases h1 : st = 1
  · subst h1
    have hq : Hid (pageOk ⟨1, r⟩ = recOk r) := rfl
    go_enter Try.func40, Try.ntmps40
    go_wp2_with (go_at_call 64; refine (spec_RecOk r _).mono ?_; rintro e w1 ⟨rfl, hb⟩)
    go_ret
    exact ⟨ret_bool hq.out.symm, hB.trans (hb.mono (by simp))⟩
  clear hB
  obtain ⟨k, s, a, v⟩ := r
  dsimp only
  by_cases h0 : st = 0
  · subst h0
    have hq : Hid (pageOk ⟨0, ⟨k, s, a, v⟩⟩ = decide ((⟨k, s, a, v⟩ : Rc) = rc0)) := rfl
    go_enter Try.func40, Try.ntmps40
    go_wp2
    all_goals (go_ret; exact ⟨ret_bool (by rw [hq.out]; simp [rc0, *]), (Below.refl _ _).alloc (Nat.le_refl _) _⟩)
  by_cases h2 : st = 2
  · subst h2
    have hq : Hid (pageOk ⟨2, ⟨k, s, a, v⟩⟩ = decide ((⟨k, s, a, v⟩ : Rc) = rc0)) := rfl
    go_enter Try.func40, Try.ntmps40
    go_wp2
    all_goals (go_ret; exact ⟨ret_bool (by rw [hq.out]; simp [rc0, *]), (Below.refl _ _).alloc (Nat.le_refl _) _⟩)
  have hk : Hid (pageOk ⟨st, ⟨k, s, a, v⟩⟩ = false) := by unfold Hid pageOk; simp [h1, h2, h0]
  go_enter Try.func40, Try.ntmps40
  go_wp2
  go_ret
  exact ⟨ret_bool hk.out.symm, (Below.refl _ _).alloc (Nat.le_refl _) _⟩

/-- a row of marks: is the number among seen? -/
def Marks (w : World) (g : Nat) (seen : List Int) : Prop := ∀ j : Nat, j < 601 → w.cell? ⟨g, j, none⟩ = some (.bool (decide ((j : Int) ∈ seen))) ∧ w.frozen? ⟨g, j, none⟩ = false
theorem Marks.below {w w' : World} {g B : Nat} {seen : List Int} (h : Marks w g seen) (hb : Below B w w') (hg : g < B) : Marks w' g seen := fun j hj =>
  ⟨(hb.cell (p := ⟨g, j, none⟩) hg).trans (h j hj).1, (hb.frozen (p := ⟨g, j, none⟩) hg).trans (h j hj).2⟩
theorem Marks.put {w : World} {g n : Nat} {seen : List Int} (h : Marks w g seen) (hn : n < 601) : Marks (w.setCell ⟨g, n, none⟩ (.bool true)) g ((n : Int) :: seen) := fun j hj => by
  refine ⟨?_, (World.frozen?_setCell _ _ _ _).trans (h j hj).2⟩
  by_cases e : j = n
  · subst e
    rw [World.cell?_setCell_same w _ _ (h j hj).1]; simp
  · rw [World.cell?_setCell_other w _ _ _ (fun e' => e (by injection e' with _ e2 _; exact e2.symm)), (h j hj).1]
    simp [show ¬ (j : Int) = n by omega]
theorem Marks.same {w : World} {g n : Nat} {seen : List Int} (h : Marks w g seen) (hn : n < 601) (hs : ¬ (n : Int) ∈ seen) : Marks (w.setCell ⟨g, n, none⟩ (.bool false)) g seen := fun j hj => by
  refine ⟨?_, (World.frozen?_setCell _ _ _ _).trans (h j hj).2⟩
  by_cases e : j = n
  · subst e
    rw [World.cell?_setCell_same w _ _ (h j hj).1]; simp [hs]
  · rw [World.cell?_setCell_other w _ _ _ (fun e' => e (by injection e' with _ e2 _; exact e2.symm)), (h j hj).1]
end Go.Proofs.Ytfkjhnfbajflaaa
namespace Go.Proofs.Ytfkjhnfbajflaaa
set_option linter.unusedVariables false
set_option linter.unusedSimpArgs false
open Go.RowKit Go.Maps
set_option maxHeartbeats 400000
set_option maxRecDepth 100000 in
set_option maxHeartbeats 2000000 in
theorem spec_FlashOk (f : List Bk) (A : Option Addr) (c : Nat) (w : World) (hlen : f.length < 1000000000000) (hF : Fl w A f) : Calls Try.prog 12 #[.slice A f.length c] w fun e w' => e = .returned (.bool (flashOk f)) ∧ Below w.heap.size w w' := by
  obtain ⟨hs, hF⟩ := hF
  obtain ⟨cs, hmk, hcs⟩ := run_marks
  have hfin : Hid (flashOk f = (decide (f.length = 4) && sblocksGo [] f)) := by unfold Hid flashOk; rw [sblocksGo_eq]
  have hB0 : Below w.heap.size w (w.alloc (.cells cs 4)) := (Below.refl _ _).alloc (Nat.le_refl _) _
  have hM0 : Marks (w.alloc (.cells cs 4)) w.heap.size [] := fun j hj => ⟨by simp [hcs j hj], by simp⟩
  clear hcs
  go_enter Try.func12, Try.ntmps12
  go_wp2
  go_loopw [4] (fun i wr => ∃ (k : Nat) (seen : List Int), k ≤ f.length ∧ i = .int .i64 k ∧ Below w.heap.size w wr ∧ w.heap.size < wr.heap.size ∧ Marks wr w.heap.size seen ∧ (∀ x ∈ seen, 1 ≤ x) ∧ Hid (sblocksGo [] f = sblocksGo seen (f.drop k))) (fun i _ => f.length - (intOf i).toNat)
  case atStart => exact ⟨0, [], by omega, rfl, hB0, by simp, hM0, by simp, rfl⟩
  case round =>
    clear hM0 hB0
    obtain ⟨k, seen, hk, rfl, hb, hsz, hM, hpos, hg⟩ := hrel
    by_cases hlt : k < f.length
    · obtain ⟨B, hB⟩ := get_some hlt
      have hd := Lib.hid (drop_cons hB)
      obtain ⟨bk, off, rfl⟩ := hF.addr (by rintro rfl; simp at hlt)
      obtain ⟨⟨Ap, cp⟩, _, c0, c1, _, _, hR, hlc⟩ := hF.at_ hB
      have hbk : bk < w.heap.size := lt_of_cell c0
      have c00 := c0
      replace c0 := (hb.cell (p := ⟨bk, off + k * 2, none⟩) hbk).trans c0
      replace c1 := (hb.cell (p := ⟨bk, off + k * 2 + 1, none⟩) hbk).trans c1
      have HBB := Lib.hid hB
      clear hB
      obtain ⟨Ps, wn⟩ := B
      dsimp only at *
      have hlt' : (k : Int) < f.length := by omega
      by_cases hl4 : Ps.length = 4
      · by_cases hwn : 0 ≤ wn ∧ wn ≤ 200
        · have hstep : Hid (sblocksGo [] f = spagesGo seen false (fun s => sblocksGo s (f.drop (k + 1))) Ps) := by rw [Hid, hg.out, hd.out, sblocksGo, if_neg (by simp [hl4]; omega)]
          have hdw : (decide (0 ≤ wn) && decide (wn ≤ 200)) = true := by simp [hwn.1, hwn.2]
          obtain ⟨pb, po, rfl⟩ := hR.addr (pgs_ne (by rintro rfl; simp at hl4))
          have HL := Lib.hid hl4
          rw [hl4] at c0 c00
          have C0 := Lib.hid c00
          clear hl4 hlc hg hd hwn c00
          have HPOS := Lib.hid hpos
          clear hpos
          go_wp2_with (go_at_call 39; refine (spec_l6In _ _ _ _).mono ?_; rintro e w' ⟨rfl, rfl⟩; rw [hdw])
          go_loopw [5] (fun i wr => ∃ (j : Nat) (seen : List Int), j ≤ 4 ∧ i = .int .i64 j ∧ Below w.heap.size w wr ∧ w.heap.size < wr.heap.size ∧ Marks wr w.heap.size seen ∧ Hid (∀ x ∈ seen, 1 ≤ x) ∧ Hid (sblocksGo [] f = spagesGo seen (match j with | 0 => false | m + 1 => (Ps.getD m ⟨0, rc0⟩).state == 0) (fun s => sblocksGo s (f.drop (k + 1))) (Ps.drop j))) (fun i _ => 4 - (intOf i).toNat)
          case atStart => exact ⟨0, seen, by omega, rfl, hb, hsz, hM, HPOS, hstep.out⟩
          case round =>
            clear hM seen hsz hb hstep HPOS c0 c1
            obtain ⟨j, seen, hj, rfl, hb, hsz, hM, HPOS, hg⟩ := hrel
            by_cases hltj : j < 4
            · obtain ⟨p, hp⟩ := get_some (l := Ps) (k := j) (by have := HL.out; omega)
              have hd := Lib.hid (drop_cons hp)
              have HP := Lib.hid hp
              have b0 := (hb.cell (p := ⟨bk, off + k * 2, none⟩) hbk).trans C0.out
              obtain ⟨c0, c1, c2, c3, c4⟩ := (hR.below hb (Nat.le_refl _)).pg hp
              clear hp
              obtain ⟨st, ⟨kd, sq, ad, vl⟩⟩ := p
              dsimp only at *
              have hltj' : (j : Int) < 4 := by omega
              by_cases hpo : pageOk ⟨st, ⟨kd, sq, ad, vl⟩⟩ = true
              · have hsq : 0 ≤ sq ∧ sq ≤ 600 ∧ (st = 1 → 1 ≤ sq) ∧ (st ≠ 1 → sq = 0) ∧ (st = 0 ∨ st = 1 ∨ st = 2) := by
                  unfold pageOk at hpo
                  by_cases h1 : st = 1
                  · simp [h1, recOk] at hpo; omega
                  · rw [if_neg h1] at hpo
                    by_cases h2 : st = 0 ∨ st = 2
                    · rw [if_pos h2] at hpo; simp [rc0] at hpo; omega
                    · rw [if_neg h2] at hpo; cases hpo
                obtain ⟨hs0, hs6, hs1, hsn, hst⟩ := hsq
                obtain ⟨n, rfl⟩ := Int.eq_ofNat_of_zero_le hs0
                have hn : n < 601 := by omega
                have hgetj : (Ps.getD j ⟨0, rc0⟩) = ⟨st, ⟨kd, (n : Int), ad, vl⟩⟩ := by rw [List.getD_eq_getElem?_getD, HP.out]; rfl
                have HG := Lib.hid hgetj
                clear hgetj
                go_wp2_with fail
                refine (spec_l2Page ⟨st, ⟨kd, (n : Int), ad, vl⟩⟩ _).mono ?_
                rintro e w1 ⟨rfl, hb1⟩
                rw [hpo]
                have x0 : w1.cell? ⟨wr.heap.size, 0, none⟩ = some (.int .i64 st) := (hb1.cell (by simp)).trans (by simp)
                have x2 : w1.cell? ⟨wr.heap.size, 2, none⟩ = some (.int .i64 n) := (hb1.cell (by simp)).trans (by simp)
                have hB1 : Below w.heap.size w w1 := (hb.alloc hb.size _).trans (hb1.mono (by have := hb.size; simp; omega))
                have hM1 : Marks w1 w.heap.size seen := (hM.below (B := wr.heap.size) ((Below.refl _ _).alloc (Nat.le_refl _) _) hsz).below hb1 (by simp; omega)
                have hsz1 : w.heap.size < w1.heap.size := by have := hb1.size; simp at this; omega
                have b1 := (hB1.cell (p := ⟨bk, off + k * 2, none⟩) hbk).trans C0.out
                obtain ⟨m0, m1⟩ := hM1 n hn
                have hR1 := hR.below hB1 (Nat.le_refl _)
                clear hb1 c0 c1 c2 c3 c4 hM b0
                have hnn : (0 : Int) ≤ n := by omega
                have hn6 : (n : Int) < 601 := by omega
                -- what is next
                have hnext : Hid (∀ s', spagesGo s' ((⟨st, ⟨kd, (n : Int), ad, vl⟩⟩ : Pg).state == 0) (fun s => sblocksGo s (f.drop (k + 1))) (Ps.drop (j + 1)) = spagesGo s' (match j + 1 with | 0 => false | m + 1 => (Ps.getD m ⟨0, rc0⟩).state == 0) (fun s => sblocksGo s (f.drop (k + 1))) (Ps.drop (j + 1))) := by intro s'; simp only [HG.out]
                by_cases hst1 : st = 1
                · subst hst1
                  have hn1 := hs1 rfl
                  have HPO := Lib.hid hpo
                  clear hs1 hsn hst hpo
                  rcases j with _ | m
                  · -- the first page
                    have hj0 : ¬ (0 < ((0 : Nat) : Int)) := by omega
                    by_cases hin : (n : Int) ∈ seen
                    · have m0' : w1.cell? ⟨w.heap.size, n, none⟩ = some (.bool true) := by rw [m0]; simp [hin]
                      have hno : Hid (sblocksGo [] f = false) := by
                        rw [Hid, hg.out, hd.out]; exact spagesGo_no (.inr (.inr ⟨rfl, hin⟩))
                      clear m0 hg hd hin
                      go_wp2
                      go_ret
                      exact ⟨ret_bool (by rw [hfin.out, hno.out, Bool.and_false]), hB1⟩
                    · have m0' : w1.cell? ⟨w.heap.size, n, none⟩ = some (.bool false) := by rw [m0]; simp [hin]
                      have hM5 := hM1.put hn
                      have hB5 : Below w.heap.size w (w1.setCell ⟨w.heap.size, n, none⟩ (.bool true)) := hB1.setCell (p := ⟨w.heap.size, n, none⟩) (Nat.le_refl _) _
                      have HPOS5 : Hid (∀ x ∈ (n : Int) :: seen, 1 ≤ x) := by intro x hx; rcases List.mem_cons.1 hx with rfl | hx; exact hn1; exact HPOS.out x hx
                      have hstep : Hid (sblocksGo [] f = spagesGo ((n : Int) :: seen) (match 0 + 1 with | 0 => false | m + 1 => (Ps.getD m ⟨0, rc0⟩).state == 0) (fun s => sblocksGo s (f.drop (k + 1))) (Ps.drop (0 + 1))) := by
                        rw [Hid, hg.out, hd.out, spagesGo_put HPO.out (fun h => by cases h) rfl hin]; exact hnext.out _
                      clear m0 hg hd hM1 hin
                      go_wp2
                      go_region
                      go_wp2
                      go_roundw
                      case rel => exact ⟨0 + 1, _, by omega, by go_num, hB5.drew, by simpa using hsz1, hM5, HPOS5, hstep⟩
                      case measure => simp [intOf]
                  · obtain ⟨q, hq⟩ := get_some (l := Ps) (k := m) (by have := HL.out; omega)
                    have hgq : (Ps.getD m ⟨0, rc0⟩) = q := by rw [List.getD_eq_getElem?_getD, hq]; rfl
                    obtain ⟨q0, _, _, _, _⟩ := hR1.pg hq
                    have hjm : (0 : Int) < ((m + 1 : Nat) : Int) := by omega
                    have hm1 : (m : Int) < 4 := by omega
                    by_cases hq0 : q.state = 0
                    · have hno : Hid (sblocksGo [] f = false) := by
                        rw [Hid, hg.out, hd.out]; exact spagesGo_no (.inr (.inl ⟨by simp only [hgq, hq0]; rfl, by simp⟩))
                      rw [hq0] at q0
                      clear hq hgq hq0 hg hd
                      go_wp2
                      go_ret
                      exact ⟨ret_bool (by rw [hfin.out, hno.out, Bool.and_false]), hB1⟩
                    · have hq0' : (q.state == 0) = false := by simpa using hq0
                      have hpcf : (Ps.getD m ⟨0, rc0⟩).state = 0 → False := by rw [hgq]; exact hq0
                      have HPC := Lib.hid hpcf
                      clear hpcf hgq hq
                      by_cases hin : (n : Int) ∈ seen
                      · have m0' : w1.cell? ⟨w.heap.size, n, none⟩ = some (.bool true) := by rw [m0]; simp [hin]
                        have hno : Hid (sblocksGo [] f = false) := by
                          rw [Hid, hg.out, hd.out]; exact spagesGo_no (.inr (.inr ⟨rfl, hin⟩))
                        clear m0 hg hd hin
                        go_wp2
                        go_ret
                        exact ⟨ret_bool (by rw [hfin.out, hno.out, Bool.and_false]), hB1⟩
                      · have m0' : w1.cell? ⟨w.heap.size, n, none⟩ = some (.bool false) := by rw [m0]; simp [hin]
                        have hM5 := hM1.put hn
                        have hB5 : Below w.heap.size w (w1.setCell ⟨w.heap.size, n, none⟩ (.bool true)) := hB1.setCell (p := ⟨w.heap.size, n, none⟩) (Nat.le_refl _) _
                        have HPOS5 : Hid (∀ x ∈ (n : Int) :: seen, 1 ≤ x) := by intro x hx; rcases List.mem_cons.1 hx with rfl | hx; exact hn1; exact HPOS.out x hx
                        have hstep : Hid (sblocksGo [] f = spagesGo ((n : Int) :: seen) (match (m + 1) + 1 with | 0 => false | m + 1 => (Ps.getD m ⟨0, rc0⟩).state == 0) (fun s => sblocksGo s (f.drop (k + 1))) (Ps.drop ((m + 1) + 1))) := by
                          rw [Hid, hg.out, hd.out, spagesGo_put HPO.out (fun h => absurd (by simpa using h) HPC.out) rfl hin]; exact hnext.out _
                        clear m0 hg hd hM1 hin
                        go_wp2
                        go_region
                        go_wp2
                        go_roundw
                        case rel => exact ⟨(m + 1) + 1, _, by omega, by go_num, hB5.drew, by simpa using hsz1, hM5, HPOS5, hstep⟩
                        case measure => simp [intOf]; omega
                · have hn0 : n = 0 := by have := hsn hst1; omega
                  subst hn0
                  have hns : ¬ ((0 : Nat) : Int) ∈ seen := fun h => by have := HPOS.out _ h; omega
                  have hM5 := hM1.same (by omega) hns
                  have hB5 : Below w.heap.size w (w1.setCell ⟨w.heap.size, 0, none⟩ (.bool false)) := hB1.setCell (p := ⟨w.heap.size, 0, none⟩) (Nat.le_refl _) _
                  have m0' : w1.cell? ⟨w.heap.size, 0, none⟩ = some (.bool false) := by rw [m0]; simpa using hns
                  clear m0 hs1 hsn
                  have hq1 : (st == 1) = false := by simpa using hst1
                  by_cases hst0 : st = 0
                  · subst hst0
                    have hstep : Hid (sblocksGo [] f = spagesGo seen (match j + 1 with | 0 => false | m + 1 => (Ps.getD m ⟨0, rc0⟩).state == 0) (fun s => sblocksGo s (f.drop (k + 1))) (Ps.drop (j + 1))) := by
                      rw [Hid, hg.out, hd.out, spagesGo_step hpo (fun _ => rfl) hst1]; exact hnext.out seen
                    clear hg hd hM1
                    go_wp2
                    all_goals
                      go_region
                      go_wp2
                      go_roundw
                      case rel => exact ⟨j + 1, seen, by omega, by go_num, hB5.drew, by simpa using hsz1, hM5, HPOS, hstep⟩
                      case measure => simp [intOf]; omega
                  · have h2 : st = 2 := by omega
                    subst h2
                    rcases j with _ | m
                    · -- the first page
                      have hj0 : ¬ (0 < ((0 : Nat) : Int)) := by omega
                      have hstep : Hid (sblocksGo [] f = spagesGo seen (match 0 + 1 with | 0 => false | m + 1 => (Ps.getD m ⟨0, rc0⟩).state == 0) (fun s => sblocksGo s (f.drop (k + 1))) (Ps.drop (0 + 1))) := by
                        rw [Hid, hg.out, hd.out, spagesGo_step hpo (fun h => by cases h) (by simp)]; exact hnext.out seen
                      clear hg hd hM1
                      go_wp2
                      go_region
                      go_wp2
                      go_roundw
                      case rel => exact ⟨0 + 1, seen, by omega, by go_num, hB5.drew, by simpa using hsz1, hM5, HPOS, hstep⟩
                      case measure => simp [intOf]
                    · obtain ⟨q, hq⟩ := get_some (l := Ps) (k := m) (by have := HL.out; omega)
                      have hgq : (Ps.getD m ⟨0, rc0⟩) = q := by rw [List.getD_eq_getElem?_getD, hq]; rfl
                      obtain ⟨q0, _, _, _, _⟩ := hR1.pg hq
                      have hjm : (0 : Int) < ((m + 1 : Nat) : Int) := by omega
                      have hm1 : (m : Int) < 4 := by omega
                      by_cases hq0 : q.state = 0
                      · have hno : Hid (sblocksGo [] f = false) := by
                          rw [Hid, hg.out, hd.out]; exact spagesGo_no (.inr (.inl ⟨by simp only [hgq, hq0]; rfl, by simp⟩))
                        rw [hq0] at q0
                        clear hq hgq hq0 hg hd
                        go_wp2
                        go_ret
                        exact ⟨ret_bool (by rw [hfin.out, hno.out, Bool.and_false]), hB1⟩
                      · have hq0' : (q.state == 0) = false := by simpa using hq0
                        have hpcf : (Ps.getD m ⟨0, rc0⟩).state = 0 → False := by rw [hgq]; exact hq0
                        have HPC := Lib.hid hpcf
                        clear hpcf hgq hq
                        have hstep : Hid (sblocksGo [] f = spagesGo seen (match m + 1 + 1 with | 0 => false | m + 1 => (Ps.getD m ⟨0, rc0⟩).state == 0) (fun s => sblocksGo s (f.drop (k + 1))) (Ps.drop (m + 1 + 1))) := by
                          rw [Hid, hg.out, hd.out, spagesGo_step hpo (fun h => absurd (by simpa using h) HPC.out) (by simp)]; exact hnext.out seen
                        clear hg hd hM1
                        go_wp2
                        go_region
                        go_wp2
                        go_roundw
                        case rel => exact ⟨m + 1 + 1, seen, by omega, by go_num, hB5.drew, by simpa using hsz1, hM5, HPOS, hstep⟩
                        case measure => simp [intOf]; omega
              · have ho : pageOk ⟨st, ⟨kd, sq, ad, vl⟩⟩ = false := by simpa using hpo
                go_wp2_with fail
                refine (spec_l2Page ⟨st, ⟨kd, sq, ad, vl⟩⟩ _).mono ?_
                rintro e w1 ⟨rfl, hb1⟩
                rw [ho]
                go_wp2
                go_ret
                exact ⟨ret_bool (by rw [hfin.out, hg.out, hd.out, spagesGo, if_pos (.inl ho), Bool.and_false]), (hb.alloc hb.size _).trans (hb1.mono (by have := hb.size; simp; omega))⟩
            · obtain rfl : j = 4 := by omega
              have hstep : Hid (sblocksGo [] f = sblocksGo seen (f.drop (k + 1))) := by rw [Hid, hg.out, show Ps.drop 4 = [] from List.drop_of_length_le (by have := HL.out; omega)]; rfl
              clear hg
              go_wp2
              go_roundw
              case rel => exact ⟨k + 1, seen, by omega, by go_num, hb, hsz, hM, HPOS.out, hstep⟩
              case measure => simp [intOf]; omega
        · have hdw : (decide (0 ≤ wn) && decide (wn ≤ 200)) = false := by simp; omega
          have HW := Lib.hid hwn
          rw [hl4] at c0
          have HL := Lib.hid hl4
          clear hl4 hwn
          go_wp2_with (go_at_call 39; refine (spec_l6In _ _ _ _).mono ?_; rintro e w' ⟨rfl, rfl⟩; rw [hdw])
          go_ret
          exact ⟨ret_bool (by rw [hfin.out, hg.out, hd.out, sblocksGo, if_pos (by have := HW.out; simp only; omega), Bool.and_false]), hb⟩
      · go_wp2
        go_ret
        exact ⟨ret_bool (by rw [hfin.out, hg.out, hd.out, sblocksGo, if_pos (.inl hl4), Bool.and_false]), hb⟩
    · obtain rfl : k = f.length := by omega
      go_wp2
      go_ret
      refine ⟨ret_bool ?_, hb⟩
      rw [hfin.out, hg.out, List.drop_of_length_le (Nat.le_refl _)]
      unfold sblocksGo
      rw [Bool.and_true, Bool.eq_iff_iff]
      simp
      omega
end Go.Proofs.Ytfkjhnfbajflaaa
