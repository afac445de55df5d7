/- Walks: from a statement's own data to the program's; sizes. -/
import Derived.Test.YtlkoadbanfjlaaaC2
import Derived.Test.YtlkoadbanfjlaaaS3
import Derived.Test.YtlkoadbanfjlaaaR
namespace Go.Proofs.Ytlkoadbanfjlaaa
set_option linter.unusedVariables false
set_option linter.unusedSimpArgs false
open Go.RowKit Go.Maps
set_option maxHeartbeats 400000
theorem laws_toRec (r : Rc) (w : World) : Calls Try.prog 49 #[.agg #[.int .i64 r.kind, .int .i64 r.seq, .int .i64 r.addr, .int .i64 r.val]] w fun e w' => e = .returned (.agg #[.int .i64 r.kind, .int .i64 r.seq, .int .i64 r.addr, .int .i64 r.val]) ∧ Below w.heap.size w w' := by
  obtain ⟨k, q, a, v⟩ := r
  dsimp only
  go_enter Try.func49, Try.ntmps49
  go_wp2
  refine bodyPost_ret (v := .agg #[.int .i64 k, .int .i64 q, .int .i64 a, .int .i64 v]) (by simp [results, Try.results49, go_sem]) rfl ⟨rfl, ?_⟩
  (repeat (first | (with_reducible exact Below.refl _ _) | (with_reducible exact hB) | (refine Below.setCell ?_ (by simp <;> omega) _) | (refine Below.alloc ?_ (by simp <;> omega) _) | (refine Below.drew ?_)))
theorem laws_toPage (p : Pg) (w : World) : Calls Try.prog 46 #[.agg #[.int .i64 p.state, .int .i64 p.rc.kind, .int .i64 p.rc.seq, .int .i64 p.rc.addr, .int .i64 p.rc.val]] w fun e w' => e = .returned (.agg #[.int .i64 p.state, .int .i64 p.rc.kind, .int .i64 p.rc.seq, .int .i64 p.rc.addr, .int .i64 p.rc.val]) ∧ Below w.heap.size w w' := by
  obtain ⟨st, ⟨k, q, a, v⟩⟩ := p
  dsimp only
  go_enter Try.func46, Try.ntmps46
  go_wp2_with fail
  refine (laws_toRec ⟨k, q, a, v⟩ _).mono ?_
  rintro e w1 ⟨rfl, hb⟩
  obtain ⟨hc, hf⟩ := bcell hb
  have hz : w.heap.size + 1 + 1 < w1.heap.size := by have := hb.size; simp at this; omega
  have hB : Below w.heap.size w w1 := Below.trans (by (repeat (first | (with_reducible exact Below.refl _ _) | (with_reducible exact hB) | (refine Below.setCell ?_ (by simp <;> omega) _) | (refine Below.alloc ?_ (by simp <;> omega) _) | (refine Below.drew ?_)))) (hb.mono (by simp; omega))
  clear hb
  go_wp2
  refine bodyPost_ret (v := .agg #[.int .i64 st, .int .i64 k, .int .i64 q, .int .i64 a, .int .i64 v]) (by simp [results, Try.results46, go_sem, hc, hz]) rfl ⟨rfl, ?_⟩
  (repeat (first | (with_reducible exact Below.refl _ _) | (with_reducible exact hB) | (refine Below.setCell ?_ (by simp <;> omega) _) | (refine Below.alloc ?_ (by simp <;> omega) _) | (refine Below.drew ?_)))
theorem laws_toPageS (A : Option Addr) (c : Nat) (ps : List Pg) (w : World) (hl : ps.length ≤ 1048576) (hR : RRow w A (pgs ps)) :
    Calls Try.prog 40 #[.slice A ps.length c] w fun e w' => ∃ g, e = .returned (.slice (some ⟨g, 0, none⟩) ps.length ps.length) ∧ w.heap.size ≤ g ∧ g < w'.heap.size ∧ Row w' (some ⟨g, 0, none⟩) (pgs ps) ∧ Below w.heap.size w w' := by
  obtain ⟨ip, hip, hpz0, hpz1, hpz2⟩ := info_parts Try.info3_page
  have hmk := fun W => run_make_n (P := Try.prog) 39 46 ip _ 5 40 Try.underlying39 hip hpz0 hpz1 hpz2 ps.length (by omega) (by omega) W
  have hnew : Row (w.alloc (.cells (madeCells #[.int .i64 0, .int .i64 0, .int .i64 0, .int .i64 0, .int .i64 0] (ps.length * 5)) 46)) (some ⟨w.heap.size, 0, none⟩) (pgs (List.replicate ps.length pg0)) := by
    have := Row.new w (madeCells #[.int .i64 0, .int .i64 0, .int .i64 0, .int .i64 0, .int .i64 0] (ps.length * 5)) 46
    rw [made_list Pg.vs pg0 #[.int .i64 0, .int .i64 0, .int .i64 0, .int .i64 0, .int .i64 0] 5 rfl rfl (by simp) ps.length] at this
    exact this
  have hB0 : Below w.heap.size w (w.alloc (.cells (madeCells #[.int .i64 0, .int .i64 0, .int .i64 0, .int .i64 0, .int .i64 0] (ps.length * 5)) 46)) := (Below.refl _ _).alloc (Nat.le_refl _) _
  have hmkw := hmk w
  have hsz : (w.alloc (.cells (madeCells #[.int .i64 0, .int .i64 0, .int .i64 0, .int .i64 0, .int .i64 0] (ps.length * 5)) 46)).heap.size = w.heap.size + 1 := by simp
  simp only [Value.cells] at hmkw
  generalize w.alloc (.cells (madeCells #[.int .i64 0, .int .i64 0, .int .i64 0, .int .i64 0, .int .i64 0] (ps.length * 5)) 46) = W at *
  have hszW : w.heap.size < W.heap.size := by omega
  clear hmk hsz
  go_enter Try.func40, Try.ntmps40
  go_wp2
  go_loopw [4] (fun i wr => ∃ k : Nat, k ≤ ps.length ∧ i = .int .i64 k ∧ Below w.heap.size w wr ∧ w.heap.size < wr.heap.size ∧ Row wr (some ⟨w.heap.size, 0, none⟩) (pgs (ps.take k ++ (List.replicate ps.length pg0).drop k))) (fun i _ => ps.length - (intOf i).toNat)
  case atStart => exact ⟨0, by omega, rfl, hB0, hszW, by simpa using hnew⟩
  case round =>
    clear hnew hB0 hszW hmkw
    obtain ⟨k, hk, rfl, hb, hsz, hr⟩ := hrel
    by_cases hlt : k < ps.length
    · obtain ⟨p, hp⟩ := get_some hlt
      obtain ⟨b, o, rfl⟩ := hR.addr (pgs_ne (by rintro rfl; simp at hlt))
      obtain ⟨c0, c1, c2, c3, c4⟩ := (hR.below hb (Nat.le_refl _)).pg hp
      have hget : (ps.take k ++ (List.replicate ps.length pg0).drop k)[k]? = some pg0 := by
        rw [List.getElem?_append_right (by simp; omega), List.getElem?_drop, List.getElem?_replicate, if_pos (by simp; omega)]
      have hk1 : (k : Int) < ps.length := by omega
      have HP := Lib.hid hp
      have HG := Lib.hid hget
      clear hp hget
      go_wp2_with fail
      refine (laws_toPage p _).mono ?_
      rintro e w1 ⟨rfl, hb1⟩
      have hr1 := hr.below hb1 (Nat.le_refl _)
      obtain ⟨d0, d1, d2, d3, d4⟩ := hr1.pg HG.out
      obtain ⟨f0, f1, f2, f3, f4⟩ := hr1.pgf HG.out
      have hWp := wrote_page hr1 HG.out p
      have hr2 := hr1.setPage (k := k) (by simp; omega) hWp
      rw [copy_step pg0 ps ps.length k p HP.out rfl] at hr2
      have hB1 := hb.trans (hb1.mono hb.size)
      have hB2 := hB1.trans (hWp.agr.below (B := w.heap.size) hB1.size (fun i e => by rw [e]; exact Nat.le_refl _))
      have hs1 := hb1.size
      have HS := Lib.hid hWp.size
      have hs2 : w.heap.size < w1.heap.size := by omega
      simp only [Nat.zero_add] at d0 d1 d2 d3 d4 f0 f1 f2 f3 f4 hr2 hB2 HS
      clear hWp hr1 hb1 c0 c1 c2 c3 c4
      go_wp2
      go_roundw
      case rel => exact ⟨k + 1, by omega, by go_num, hB2, by rw [HS.out]; exact hs2, hr2⟩
      case measure => simp [intOf]; omega
    · obtain rfl : k = ps.length := by omega
      go_wp2
      go_ret
      refine ⟨w.heap.size, rfl, Nat.le_refl _, hsz, ?_, hb⟩
      rw [List.take_of_length_le (Nat.le_refl _), List.drop_of_length_le (by simp), List.append_nil] at hr
      exact hr
end Go.Proofs.Ytlkoadbanfjlaaa
