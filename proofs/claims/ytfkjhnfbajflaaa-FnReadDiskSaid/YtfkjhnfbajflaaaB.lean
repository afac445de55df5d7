/- Walks: is a flash ok. -/
import Derived.Test.YtfkjhnfbajflaaaA
import Derived.Test.YtfkjhnfbajflaaaW
import Derived.Lib.Hide
namespace Go.Proofs.Ytfkjhnfbajflaaa
set_option linter.unusedVariables false
set_option linter.unusedSimpArgs false
open Go.RowKit Go.Maps
set_option maxHeartbeats 400000
theorem impl_pageShape (p : Pg) (w : World) : Calls Try.prog 63 #[.agg #[.int .i64 p.state, .int .i64 p.rc.kind, .int .i64 p.rc.seq, .int .i64 p.rc.addr, .int .i64 p.rc.val]] w fun e w' => e = .returned (.bool (pageOk p)) ∧ Below w.heap.size w w' := by
  obtain ⟨st, r⟩ := p
  dsimp only
  have hB : Below w.heap.size w (w.alloc (.cells #[.int .i64 st, .int .i64 r.kind, .int .i64 r.seq, .int .i64 r.addr, .int .i64 r.val] 59)) := (Below.refl _ _).alloc (Nat.le_refl _) _
  by_cases h1 : st = 1
  · subst h1
    have hq : Hid (pageOk ⟨1, r⟩ = recOk r) := rfl
    go_enter Try.func63, Try.ntmps63
    go_wp2_with (go_at_call 50; refine (impl_RecOk r _).mono ?_; rintro e w1 ⟨rfl, hb⟩)
    go_ret
    exact ⟨ret_bool hq.out.symm, hB.trans (hb.mono (by simp))⟩
  clear hB
  obtain ⟨k, s, a, v⟩ := r
  dsimp only
  by_cases h0 : st = 0
  · subst h0
    have hq : Hid (pageOk ⟨0, ⟨k, s, a, v⟩⟩ = decide ((⟨k, s, a, v⟩ : Rc) = rc0)) := rfl
    go_enter Try.func63, Try.ntmps63
    go_wp2
    all_goals (go_ret; exact ⟨ret_bool (by rw [hq.out]; simp [rc0, *]), (Below.refl _ _).alloc (Nat.le_refl _) _⟩)
  by_cases h2 : st = 2
  · subst h2
    have hq : Hid (pageOk ⟨2, ⟨k, s, a, v⟩⟩ = decide ((⟨k, s, a, v⟩ : Rc) = rc0)) := rfl
    go_enter Try.func63, Try.ntmps63
    go_wp2
    all_goals (go_ret; exact ⟨ret_bool (by rw [hq.out]; simp [rc0, *]), (Below.refl _ _).alloc (Nat.le_refl _) _⟩)
  have hk : Hid (pageOk ⟨st, ⟨k, s, a, v⟩⟩ = false) := by unfold Hid pageOk; simp [h1, h2, h0]
  go_enter Try.func63, Try.ntmps63
  go_wp2
  go_ret
  exact ⟨ret_bool hk.out.symm, (Below.refl _ _).alloc (Nat.le_refl _) _⟩

theorem impl_blockShape (b : Bk) (A : Option Addr) (c : Nat) (w : World) (hR : Row w A (pgs b.pages)) : Calls Try.prog 62 #[.agg #[.slice A b.pages.length c, .int .i64 b.worn]] w fun e w' => e = .returned (.bool (blockShape b)) ∧ Below w.heap.size w w' := by
  obtain ⟨ps, worn⟩ := b
  dsimp only at *
  have hB : Below w.heap.size w (w.alloc (.cells #[.slice A ps.length c, .int .i64 worn] 53)) := (Below.refl _ _).alloc (Nat.le_refl _) _
  by_cases hn4 : ps.length = 4
  · obtain ⟨bk, off, rfl⟩ := hR.addr (pgs_ne (by rintro rfl; simp at hn4))
    have HN := Lib.hid hn4
    rw [hn4] at hB ⊢
    clear hn4
    by_cases h0 : worn < 0
    · have hfin : Hid (blockShape ⟨ps, worn⟩ = false) := by unfold Hid blockShape; simp; omega
      go_enter Try.func62, Try.ntmps62
      go_wp2
      go_ret
      exact ⟨ret_bool hfin.out.symm, hB⟩
    by_cases h1 : 200 < worn
    · have hfin : Hid (blockShape ⟨ps, worn⟩ = false) := by unfold Hid blockShape; simp; omega
      go_enter Try.func62, Try.ntmps62
      go_wp2
      go_ret
      exact ⟨ret_bool hfin.out.symm, hB⟩
    have hfin : Hid (blockShape ⟨ps, worn⟩ = shapeGo false ps) := by unfold Hid blockShape; simp [HN.out, show 0 ≤ worn by omega, show worn ≤ 200 by omega]
    go_enter Try.func62, Try.ntmps62
    go_wp2
    go_loopw [3, 23] (fun fr i wr => ∃ (k : Nat) (bb : Bool), k ≤ 4 ∧ i = .int .i64 k ∧ fr = .bool bb ∧ Below w.heap.size w wr ∧ Hid (shapeGo false ps = shapeGo bb (ps.drop k))) (fun _ i _ => 4 - (intOf i).toNat)
    case atStart => exact ⟨0, false, by omega, rfl, rfl, hB, rfl⟩
    case round =>
      obtain ⟨k, bb, hk, rfl, rfl, hb, hg⟩ := hrel
      by_cases hlt : k < 4
      · obtain ⟨p, hp⟩ := get_some (l := ps) (k := k) (by have := HN.out; omega)
        have hd := Lib.hid (drop_cons hp)
        obtain ⟨c0, c1, c2, c3, c4⟩ := (hR.below hb (Nat.le_refl _)).pg hp
        clear hp hB
        obtain ⟨st, rc⟩ := p
        dsimp only at *
        go_wp2
        · go_ret
          exact ⟨ret_bool (by rw [hfin.out, hg.out, hd.out]; simp [shapeGo, *]), hb.alloc hb.size _⟩
        all_goals
          go_roundw
          case rel => exact ⟨k + 1, _, by omega, by go_num, rfl, hb.alloc hb.size _, by rw [Hid, hg.out, hd.out]; simp [shapeGo, *]⟩
          case measure => simp [intOf]; omega
      · go_wp2
        go_ret
        obtain rfl : k = 4 := by omega
        exact ⟨ret_bool (by rw [hfin.out, hg.out, List.drop_of_length_le (by have := HN.out; omega)]; rfl), hb⟩
  · have hfin : Hid (blockShape ⟨ps, worn⟩ = false) := by unfold Hid blockShape; simp; omega
    go_enter Try.func62, Try.ntmps62
    go_wp2
    go_ret
    exact ⟨ret_bool hfin.out.symm, hB⟩

theorem Try.info_int : (Try.prog.info? 3).map (fun i => (i.zero, i.size, i.bytes)) = some (some (.int .i64 0), 1, 8) := by kernel_rfl
theorem zero_int (w : World) : (zeroValue 3).run Try.prog w = .ok (.int .i64 0) w := by kernel_rfl
/-- how often each number was met -/
def cnt (seen : List Int) (k : Int) : Int := seen.count k
theorem cnt_pos {seen : List Int} {k : Int} : 0 < cnt seen k ↔ k ∈ seen := by unfold cnt; rw [← List.count_pos_iff]; omega
set_option maxHeartbeats 1000000 in
theorem impl_FlashOk (f : List Bk) (A : Option Addr) (c : Nat) (w : World) (hF : Fl w A f) : Calls Try.prog 36 #[.slice A f.length c] w fun e w' => e = .returned (.bool (flashOk f)) ∧ Below w.heap.size w w' := by
  by_cases hn4 : f.length = 4
  · obtain ⟨hs, hF⟩ := hF
    obtain ⟨bk, off, rfl⟩ := hF.addr (by rintro rfl; simp at hn4)
    have hfin : Hid (flashOk f = blocksGo [] f) := by unfold Hid flashOk; simp [hn4]
    have HN := Lib.hid hn4
    rw [hn4]
    clear hn4
    have hmm := @run_makeMap Try.prog
    go_enter Try.func36, Try.ntmps36
    go_wp2
    go_loopw [14] (fun i wr => ∃ (k : Nat) (seen : List Int), k ≤ 4 ∧ i = .int .i64 k ∧ Below w.heap.size w wr ∧ IMap Try.prog 3 3 wr w.heap.size (4 * k) (cnt seen) ∧ (∀ x, cnt seen x ≤ 4 * k) ∧ Hid (flashOk f = blocksGo seen (f.drop k))) (fun i _ => 4 - (intOf i).toNat)
    case atStart => exact ⟨0, [], by omega, rfl, (Below.refl _ _).alloc (Nat.le_refl _) _, (IMap.made _ _ _ _), by simp [cnt], hfin.out⟩
    case round =>
      obtain ⟨k, seen, hk, rfl, hb, hM, hcn, hg⟩ := hrel
      by_cases hlt : k < 4
      · obtain ⟨B, hB⟩ := get_some (l := f) (k := k) (by have := HN.out; omega)
        have hd := Lib.hid (drop_cons hB)
        obtain ⟨⟨Ap, cp⟩, _, c0, c1, _, _, hR, hlc⟩ := hF.at_ hB
        have hbk : bk < w.heap.size := lt_of_cell c0
        replace c0 := (hb.cell (p := ⟨bk, off + k * 2, none⟩) hbk).trans c0
        replace c1 := (hb.cell (p := ⟨bk, off + k * 2 + 1, none⟩) hbk).trans c1
        clear hB hbk
        obtain ⟨Ps, wn⟩ := B
        dsimp only at *
        go_wp2_with fail
        refine (impl_blockShape ⟨Ps, wn⟩ Ap cp _ ((hR.below hb (Nat.le_refl _)).alloc _)).mono ?_
        rintro e w1 ⟨rfl, hb1⟩
        have hx0 : w1.cell? ⟨wr.heap.size, 0, none⟩ = some (.slice Ap Ps.length cp) := (hb1.cell (by simp)).trans (by simp)
        have hB1 : Below w.heap.size w w1 := (hb.alloc hb.size _).trans (hb1.mono (by have := hb.size; simp; omega))
        have hM1 : IMap Try.prog 3 3 w1 w.heap.size (4 * k) (cnt seen) := (hM.alloc _).below hb1 (by have := hM.lt; simp; omega)
        clear hb1 c0 c1 hM hb
        by_cases hbs : blockShape ⟨Ps, wn⟩ = true
        · have hl4 : Ps.length = 4 := by unfold blockShape at hbs; simp at hbs; exact hbs.1
          have hstep : Hid (flashOk f = pagesGo seen (fun s => blocksGo s (f.drop (k + 1))) Ps) := by rw [Hid, hg.out, hd.out, blocksGo, hbs]; rfl
          obtain ⟨pb, po, rfl⟩ := hR.addr (pgs_ne (by rintro rfl; simp at hl4))
          have HL := Lib.hid hl4
          rw [hl4] at hx0
          clear hl4 hlc hg hd
          go_wp2
          go_loopw [24] (fun i wr => ∃ (j : Nat) (seen : List Int), j ≤ 4 ∧ i = .int .i64 j ∧ Below w.heap.size w wr ∧ IMap Try.prog 3 3 wr w.heap.size (4 * k + j) (cnt seen) ∧ (∀ x, cnt seen x ≤ 4 * k + j) ∧ Hid (flashOk f = pagesGo seen (fun s => blocksGo s (f.drop (k + 1))) (Ps.drop j))) (fun i _ => 4 - (intOf i).toNat)
          case atStart => exact ⟨0, seen, by omega, rfl, hB1, hM1, by intro x; have := hcn x; omega, hstep.out⟩
          case round =>
            clear hM1 hcn seen hB1 hx0 hstep
            obtain ⟨j, seen, hj, rfl, hb, hM, hcn, hg⟩ := hrel
            by_cases hltj : j < 4
            · obtain ⟨p, hp⟩ := get_some (l := Ps) (k := j) (by have := HL.out; omega)
              have hd := Lib.hid (drop_cons hp)
              obtain ⟨c0, c1, c2, c3, c4⟩ := (hR.below hb (Nat.le_refl _)).pg hp
              clear hp
              obtain ⟨st, ⟨kd, sq, ad, vl⟩⟩ := p
              dsimp only at *
              go_wp2_with fail
              refine (impl_pageShape ⟨st, ⟨kd, sq, ad, vl⟩⟩ _).mono ?_
              rintro e w2 ⟨rfl, hb2⟩
              have hB2 : Below w.heap.size w w2 := (hb.alloc hb.size _).trans (hb2.mono (by have := hb.size; simp; omega))
              have hM2 : IMap Try.prog 3 3 w2 w.heap.size (4 * k + j) (cnt seen) := (hM.alloc _).below hb2 (by have := hM.lt; simp; omega)
              have x0 : w2.cell? ⟨wr.heap.size, 0, none⟩ = some (.int .i64 st) := (hb2.cell (by simp)).trans (by simp)
              have x2 : w2.cell? ⟨wr.heap.size, 2, none⟩ = some (.int .i64 sq) := (hb2.cell (by simp)).trans (by simp)
              clear hb2 hM hb c0 c1 c2 c3 c4
              by_cases hpo : pageOk ⟨st, ⟨kd, sq, ad, vl⟩⟩ = true
              · by_cases hst : st = 1
                · subst hst
                  have hsq : 1 ≤ sq ∧ sq ≤ 600 := by unfold pageOk recOk at hpo; simp at hpo; exact ⟨hpo.2.1, hpo.2.2.1⟩
                  obtain ⟨hs1, hs2⟩ := hsq
                  have hwf : (Lit.int .i64 sq).wf = true := WalkArith.wf_i64 (by omega)
                  have hlook := hM2.look Try.underlying89 Try.underlying3 Try.underlying3 zero_int hwf
                  have hcs := hcn sq
                  by_cases hin : sq ∈ seen
                  · have hpos : 0 < cnt seen sq := cnt_pos.2 hin
                    have hstep : Hid (flashOk f = false) := by rw [Hid, hg.out, hd.out, pagesGo, hpo, if_neg (by simp), if_neg (by simp), if_pos hin]
                    clear hcn hg hd
                    go_wp2
                    go_ret
                    exact ⟨ret_bool hstep.out.symm, hB2⟩
                  · have hz : cnt seen sq = 0 := by have := mt cnt_pos.1 hin; have : 0 ≤ cnt seen sq := by unfold cnt; omega
                                                    omega
                    rw [hz] at hlook
                    have hstep : Hid (flashOk f = pagesGo (sq :: seen) (fun s => blocksGo s (f.drop (k + 1))) (Ps.drop (j + 1))) := by rw [Hid, hg.out, hd.out, pagesGo, hpo, if_neg (by simp), if_neg (by simp), if_neg hin]
                    obtain ⟨w3, hput, hM3, hg3⟩ := hM2.put (k := sq) (v := 1) Try.underlying89 Try.underlying3 Try.underlying3 (by unfold maxLen; omega) hwf (by decide)
                    have hB3 : Below w.heap.size w w3 := hB2.grown hg3 hB2.size (by intro g e; cases e; omega)
                    have hM4 : IMap Try.prog 3 3 w3 w.heap.size (4 * k + (j + 1)) (cnt (sq :: seen)) := by
                      have e : (fun x => if x = sq then (1 : Int) else cnt seen x) = cnt (sq :: seen) := by
                        funext x
                        unfold cnt at hz ⊢
                        rw [List.count_cons]
                        by_cases hx : x = sq
                        · subst hx; simp; omega
                        · rw [if_neg hx, if_neg (by simpa using fun h => hx h.symm)]; simp
                      rw [← e]; exact hM3
                    have hcn' : ∀ x, cnt (sq :: seen) x ≤ 4 * k + (j + 1) := by
                      intro x; have := hcn x; unfold cnt at *; rw [List.count_cons]; split <;> omega
                    have HC := Lib.hid hcn'
                    clear hcn hcn' hg hd hM3 hg3 hM2 hB2 hz hin
                    go_wp2
                    go_roundw
                    case rel => exact ⟨j + 1, _, by omega, by go_num, hB3, hM4, HC.out, hstep⟩
                    case measure => simp [intOf]; omega
                · have hstep : Hid (flashOk f = pagesGo seen (fun s => blocksGo s (f.drop (k + 1))) (Ps.drop (j + 1))) := by rw [Hid, hg.out, hd.out, pagesGo, hpo, if_neg (by simp), if_pos (by simpa using hst)]
                  have HC := Lib.hid hcn
                  clear hg hd hcn
                  go_wp2
                  go_roundw
                  case rel => exact ⟨j + 1, seen, by omega, by go_num, hB2, hM2.mono (by omega), by intro x; have := HC.out x; omega, hstep⟩
                  case measure => simp [intOf]; omega
              · go_wp2
                go_ret
                exact ⟨ret_bool (by rw [hg.out, hd.out, pagesGo, if_pos (by simpa using hpo)]), hB2⟩
            · obtain rfl : j = 4 := by omega
              have hstep : Hid (flashOk f = blocksGo seen (f.drop (k + 1))) := by rw [Hid, hg.out, show Ps.drop 4 = [] from List.drop_of_length_le (by have := HL.out; omega)]; rfl
              have HC := Lib.hid hcn
              clear hcn hg
              go_wp2
              go_roundw
              case rel => exact ⟨k + 1, seen, by omega, by go_num, hb, hM.mono (by omega), by intro x; have := HC.out x; omega, hstep⟩
              case measure => simp [intOf]; omega
        · go_wp2
          go_ret
          exact ⟨ret_bool (by rw [hg.out, hd.out, blocksGo, if_pos (by simpa using hbs)]), hB1⟩
      · go_wp2
        go_ret
        obtain rfl : k = 4 := by omega
        exact ⟨ret_bool (by rw [hg.out, List.drop_of_length_le (by have := HN.out; omega)]; rfl), hb⟩
  · have hfin : Hid (flashOk f = false) := by unfold Hid flashOk; simp; omega
    go_enter Try.func36, Try.ntmps36
    go_wp2
    go_ret
    exact ⟨ret_bool hfin.out.symm, Below.refl _ _⟩
end Go.Proofs.Ytfkjhnfbajflaaa
