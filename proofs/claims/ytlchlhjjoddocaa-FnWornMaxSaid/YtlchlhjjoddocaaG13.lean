/- Walks: what happens: all that is told, an event. -/
import Derived.Test.YtlchlhjjoddocaaG12
namespace Go.Proofs.Ytlchlhjjoddocaa
set_option linter.unusedVariables false
set_option linter.unusedSimpArgs false
open Go.RowKit Go.Maps
set_option maxHeartbeats 400000
def upto (s : St) : Nat → St
  | 0 => s
  | k + 1 => doFlush (upto s k) (k + 1)
theorem upto_six (s : St) : upto s 6 = doEvery s := by
  simp only [upto, doEvery, List.foldl_cons, List.foldl_nil]
  generalize doFlush = F
  rfl
theorem upto_fine {s : St} (h : stFine s) : ∀ k, stFine (upto s k)
  | 0 => h
  | k + 1 => doFlush_fine (upto_fine h k) _
theorem stFine_pages {s : St} (h : stFine s) : ∀ b ∈ s.flash, b.pages.length = 4 := fun b hb => (h.1.2 b hb).1
theorem flush_len {s : St} (h : stFine s) (a : Int) : (flush s a).length ≤ 7 := by
  have := wr_len h.1.1 (stFine_pages h) 2 a (readV s a)
  unfold flush
  split
  · simp
  · split
    · simp
    · simp only [List.length_cons]; omega
set_option maxHeartbeats 4000000 in
set_option maxRecDepth 100000 in
theorem spec_l21All (s : St) (A D : Option Addr) (c d lo hi : Nat) (w : World) (hs : stFine s) (hhi : hi ≤ w.heap.size) (hO : OSt w lo hi A s.flash D s.disk) :
    Calls Try.prog 63 #[.agg #[.slice A 4 c, .slice D 6 d]] w fun r w' =>
      r = .returned (.agg #[.slice A 4 c, .slice D 6 d]) ∧ OSt w' lo hi A (doEvery s).flash D (doEvery s).disk ∧ Agr (fun b => lo ≤ b ∧ b < hi) w w' := by
  have HS := Lib.hid hs
  clear hs
  go_enter Try.func63, Try.ntmps63
  go_wp2
  go_loopw [3] (fun i wr => ∃ k : Nat, k ≤ 6 ∧ i = .int .i64 (k + 1) ∧ OSt wr lo hi A (upto s k).flash D (upto s k).disk ∧ Agr (fun b => lo ≤ b ∧ b < hi) w wr ∧ w.heap.size + 1 < wr.heap.size ∧
    (wr.cell? ⟨w.heap.size, 0, none⟩ = some (.slice A 4 c) ∧ wr.cell? ⟨w.heap.size, 1, none⟩ = some (.slice D 6 d) ∧ wr.frozen? ⟨w.heap.size, 0, none⟩ = false ∧ wr.frozen? ⟨w.heap.size, 1, none⟩ = false) ∧
    (∃ u0 u1, wr.cell? ⟨w.heap.size + 1, 0, none⟩ = some u0 ∧ wr.cell? ⟨w.heap.size + 1, 1, none⟩ = some u1 ∧ wr.frozen? ⟨w.heap.size + 1, 0, none⟩ = false ∧ wr.frozen? ⟨w.heap.size + 1, 1, none⟩ = false)) (fun i _ => 7 - (intOf i).toNat)
  case atStart =>
    have hN := Row.new (w.alloc (.cells #[.slice A 4 c, .slice D 6 d] 75)) #[.slice none 0 0, .slice none 0 0] 75
    simp only [World.size_alloc] at hN
    have hM := (Row.new w #[.slice A 4 c, .slice D 6 d] 75).alloc (.cells #[.slice none 0 0, .slice none 0 0] 75)
    exact ⟨0, by omega, rfl, (hO.alloc' _).alloc' _, ((Agr.refl _ _).alloc _).alloc _, by simp, ⟨(hM.at0 (j := 0) rfl).1, (hM.at0 (j := 1) rfl).1, (hM.at0 (j := 0) rfl).2, (hM.at0 (j := 1) rfl).2⟩, ⟨_, _, (hN.at0 (j := 0) rfl).1, (hN.at0 (j := 1) rfl).1, (hN.at0 (j := 0) rfl).2, (hN.at0 (j := 1) rfl).2⟩⟩
  case round =>
    obtain ⟨k, hk, rfl, hOk, hA, hsz, ⟨b0, b1, b2, b3⟩, ⟨u0, u1, q0, q1, q2, q3⟩⟩ := hrel
    by_cases hlt : k < 6
    · have hst := Lib.hid (upto_fine HS.out k)
      have hk1 : (k : Int) + 1 ≤ 6 := by omega
      go_wp2_with fail
      refine (spec_l12Flush (upto s k) (k + 1) A D c d _ hst.out.1.1 (stFine_pages hst.out) (most_small hst.out.1) hst.out.2.1 hOk.ofl.fl hOk.disk).mono ?_
      rintro e w1 ⟨v, rfl, hOS, hb⟩
      obtain ⟨V, cs, rfl, hcs, hRow, hblk⟩ := hOS.shape
      have hff := Lib.hid (flush_fine hst.out (k + 1))
      have hfl := flush_len hst.out (k + 1)
      have hO1 := hOk.below hb (Nat.le_refl _)
      have hA1 := hA.trans (S' := fun _ => False) (Agr.of_below hb) (fun b hb e => absurd e id)
      have hs1 := hb.size
      obtain ⟨hc, hfz⟩ := bcell hb
      replace b0 := (hc _ _ (by omega)).trans b0
      replace b1 := (hc _ _ (by omega)).trans b1
      replace b2 := (hfz _ _ (by omega)).trans b2
      replace b3 := (hfz _ _ (by omega)).trans b3
      replace q0 := (hc _ _ (by omega)).trans q0
      replace q1 := (hc _ _ (by omega)).trans q1
      replace q2 := (hfz _ _ (by omega)).trans q2
      replace q3 := (hfz _ _ (by omega)).trans q3
      have hfin : Hid (doTo (upto s k) (flush (upto s k) (k + 1)) (flush (upto s k) (k + 1)).length false = upto s (k + 1)) := rfl
      generalize flush (upto s k) (k + 1) = xs at *
      clear hb hc hfz hOk hA hOS
      go_wp2_with fail
      have hsz0 := hA1.size
      refine (spec_l12To (upto s k) xs xs.length false A D V c d cs lo hi _ hst.out hff.out (by omega) (by omega) hO1 hRow (fun b hb => by have := hblk b hb; omega)).mono ?_
      rintro e w2 ⟨rfl, hO2, hA2⟩
      have hs2 := hA2.size
      replace b0 := (hA2.cell (by omega) (by omega) 0).trans b0
      replace b1 := (hA2.cell (by omega) (by omega) 1).trans b1
      replace b2 := (hA2.fz (by omega) (by omega) 0).trans b2
      replace b3 := (hA2.fz (by omega) (by omega) 1).trans b3
      replace q0 := (hA2.cell (by omega) (by omega) 0).trans q0
      replace q1 := (hA2.cell (by omega) (by omega) 1).trans q1
      replace q2 := (hA2.fz (by omega) (by omega) 0).trans q2
      replace q3 := (hA2.fz (by omega) (by omega) 1).trans q3
      have hA3 := hA1.trans hA2 (fun b _ hb => hb)
      rw [hfin.out] at hO2
      clear hO1 hA1 hA2 hRow
      have hW : Wrote w2 ((w2.setCell ⟨w.heap.size, 0, none⟩ (.slice A 4 c)).setCell ⟨w.heap.size, 1, none⟩ (.slice D 6 d)) w.heap.size 0 [.slice A 4 c, .slice D 6 d] := wrote_setRow w.heap.size [.slice A 4 c, .slice D 6 d] 0 w2 (fun j hj => by
        match j, hj with
        | 0, _ => exact ⟨_, b0⟩
        | 1, _ => exact ⟨_, b1⟩)
      have hO3 : OSt _ lo hi A (upto s (k + 1)).flash D (upto s (k + 1)).disk := hO2.keep fun b h1 h2 _ => hW.block b (by omega)
      have hA4 := hA3.trans (S' := (· = w.heap.size)) hW.agr (fun b hb e => by omega)
      have t0 := hW.new_ 0 _ rfl
      have t1 := hW.new_ 1 _ rfl
      have t2 := (hW.frozen ⟨w.heap.size, 0, none⟩).trans b2
      have t3 := (hW.frozen ⟨w.heap.size, 1, none⟩).trans b3
      have s0 := (hW.agr.cell (b := w.heap.size + 1) (by omega) (by omega) 0).trans q0
      have s1 := (hW.agr.cell (b := w.heap.size + 1) (by omega) (by omega) 1).trans q1
      have s2 := (hW.frozen ⟨w.heap.size + 1, 0, none⟩).trans q2
      have s3 := (hW.frozen ⟨w.heap.size + 1, 1, none⟩).trans q3
      have hss := hW.size
      have e1 : IntKind.i64.wrap ((k : Int) + 1 + 1) = (k : Int) + 1 + 1 := IntWalk.i64_in _ (by omega)
      clear hW
      go_wp2
      go_roundw
      (case rel => exact ⟨k + 1, by omega, by go_num, hO3, hA4, by omega, ⟨t0, t1, t2, t3⟩, ⟨u0, u1, s0, s1, s2, s3⟩⟩)
      (case measure => simp [intOf]; omega)
    · obtain rfl : k = 6 := by omega
      go_wp2
      refine bodyPost_ret (v := .agg #[.slice A 4 c, .slice D 6 d]) (by simp [results, Try.results63, go_sem, b0, b1, q0, q1]) rfl ⟨rfl, ?_, ?_⟩
      · rw [← upto_six]
        have hbb : Below w.heap.size wr ((wr.setCell ⟨w.heap.size + 1, 0, none⟩ (.slice A 4 c)).setCell ⟨w.heap.size + 1, 1, none⟩ (.slice D 6 d)) := by (repeat (first | (with_reducible exact Below.refl _ _) | (with_reducible assumption) | (refine Below.setCell ?_ (by first | omega | exact hB.size | exact hb.size | (have h := hB.size; simp; omega) | (have h := hb.size; simp; omega) | (simp; omega) | simp) _) | (refine Below.alloc ?_ (by first | omega | exact hB.size | exact hb.size | (have h := hB.size; simp; omega) | (have h := hb.size; simp; omega) | (simp; omega) | simp) _) | (refine Below.drew ?_)))
        exact hOk.keep fun y _ h2 _ => hbb.block y (by omega)
      · exact (hA.setCell (.inl (by show w.heap.size ≤ w.heap.size + 1; omega)) _).setCell (.inl (by show w.heap.size ≤ w.heap.size + 1; omega)) _
end Go.Proofs.Ytlchlhjjoddocaa
