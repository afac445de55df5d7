/- What the laws' walks share: words, plain laws, and the walks of functions, part 7. -/
import Derived.Laws.EntriesVeiled
import Derived.Deep.RegionHeld3
import Derived.Below
import Derived.ChangeSame
import Derived.WalkKit
import Derived.ProofKit
import Derived.Carry
import Derived.Test.YtohkoogmbfaceaaProg
import Derived.Deep.Slices
import Derived.ChangeSlices
import Derived.ChangeArms
import Derived.Test.YtohkoogmbfaceaaZ6
open Go.RowKit Go.IntWalk Go.Maps
namespace Go.Proofs.Ytohkoogmbfaceaa
set_option linter.unusedVariables false
set_option linter.unusedSimpArgs false
set_option maxHeartbeats 1000000
theorem ok_parts {s : St} (h : storeOk s = true) : s.flash.length = 4 ∧ s.disk.length = 6 ∧ flashOk s.flash = true ∧ (∀ b ∈ s.flash, b.pages.length = 4) ∧ (∀ b ∈ s.flash, most b < 1000000000000) := by
  have k := storeOk_iff.1 h
  exact ⟨flashOk_len k.flash, k.len, k.flash, fun b hb => (bk_parts k.flash hb).1, most_small (flFine_of k.flash)⟩
/-- what the steps are asked of: an ok store -/
def okSteps (s : St) (xs : List Sp) : List Sp := if storeOk s = true then xs else []
def StepsPost (w : World) (xs : List Sp) (e : Ending) (w' : World) : Prop := ∃ v, e = .returned v ∧ OwnS w' w.heap.size v xs ∧ Below w.heap.size w w'
set_option maxRecDepth 20000 in
theorem impl_StepsPut (s : St) (a v : Int) (A D : Option Addr) (n m c d : Nat) (w : World) (hn : n = s.flash.length) (hm : m = s.disk.length) (hF : Fl w A s.flash) (hD : Row w D (ints s.disk)) :
    Calls Try.prog 27 #[.agg #[.slice A n c, .slice D m d], .int .i64 a, .int .i64 v] w (StepsPost w (okSteps s (wr s.flash 1 a v))) := by
  have hF0 : Fl (w.alloc (.cells #[.slice A n c, .slice D m d] 28)) A s.flash := hF.alloc _
  have hD0 : Row (w.alloc (.cells #[.slice A n c, .slice D m d] 28)) D (ints s.disk) := hD.alloc _
  have hSO : Hid (Calls Try.prog 23 #[.agg #[.slice A n c, .slice D m d]] (w.alloc (.cells #[.slice A n c, .slice D m d] 28)) fun e w' => e = .returned (.bool (storeOk s)) ∧ Below (w.alloc (.cells #[.slice A n c, .slice D m d] 28)).heap.size (w.alloc (.cells #[.slice A n c, .slice D m d] 28)) w') := impl_StoreOk s A D n m c d _ hn hm hF0 hD0
  by_cases hok : storeOk s = true
  · have hfin : Hid (okSteps s (wr s.flash 1 a v) = wr s.flash 1 a v) := by unfold Hid okSteps; rw [if_pos hok]
    obtain ⟨h4, h6, hfl, hp4, hms⟩ := ok_parts hok
    obtain rfl : n = 4 := by omega
    obtain rfl : m = 6 := by omega
    rw [hok] at hSO
    have HFL := Lib.hid hfl
    have H4 := Lib.hid h4
    have H6 := Lib.hid h6
    have HP := Lib.hid hp4
    have HM := Lib.hid hms
    have HOK := Lib.hid (storeOk_iff.1 hok)
    clear hok h4 h6 hfl hp4 hms hm hn
    go_enter Try.func27, Try.ntmps27
    go_wp2_with fail
    with_reducible refine hSO.out.mono ?_
    rintro e w1 ⟨rfl, hb⟩
    have hB : Below w.heap.size w w1 := ((Below.refl _ _).alloc (Nat.le_refl _) _).trans (hb.mono (by simp))
    have hz : w.heap.size < w1.heap.size := by have := hb.size; simp at this; omega
    obtain ⟨hc, hfz⟩ := bcell hb
    have x0 : w1.cell? ⟨w.heap.size, 0, none⟩ = some (.slice A 4 c) := (hc _ _ (by simp)).trans (by simp)
    have x1 : w1.cell? ⟨w.heap.size, 1, none⟩ = some (.slice D 6 d) := (hc _ _ (by simp)).trans (by simp)
    have hF1 := hF.below hB (Nat.le_refl _)
    have hD1 := hD.below hB (Nat.le_refl _)
    clear hb hc hfz hSO hF0 hD0
    go_wp2_with fail
    refine (impl_stepsWrite s.flash 1 a v A _ c _ H4.out.symm HFL.out hF1).mono ?_
    rintro e w2 ⟨v, rfl, hO, hb2⟩
    go_wp2
    go_ret
    exact ⟨_, rfl, by rw [hfin.out]; exact hO.mono hB.size, hB.trans (hb2.mono hB.size)⟩
  · have hfin : Hid (okSteps s (wr s.flash 1 a v) = []) := by unfold Hid okSteps; rw [if_neg hok]
    rw [show storeOk s = false by simpa using hok] at hSO
    clear hok hn hm
    go_enter Try.func27, Try.ntmps27
    go_wp2_with fail
    with_reducible refine hSO.out.mono ?_
    rintro e w1 ⟨rfl, hb⟩
    have hB : Below w.heap.size w w1 := ((Below.refl _ _).alloc (Nat.le_refl _) _).trans (hb.mono (by simp))
    have hz : w.heap.size ≤ w1.heap.size := hB.size
    go_wp2
    go_ret
    rw [StepsPost]
    exact ⟨_, rfl, by rw [hfin.out]; exact OwnS.nul _ _, hB⟩
theorem OwnS.shape' {w : World} {base : Nat} {v : Value} {xs : List Sp} (h : OwnS w base v xs) : ∃ A c, v = .slice A xs.length c ∧ xs.length ≤ c ∧ Row w A (sps xs) ∧ ∀ b, blk A b → base ≤ b ∧ b < w.heap.size := h.shape
set_option maxRecDepth 20000 in
theorem impl_StepsFlush (s : St) (a : Int) (A D : Option Addr) (n m c d : Nat) (w : World) (hn : n = s.flash.length) (hm : m = s.disk.length) (hF : Fl w A s.flash) (hD : Row w D (ints s.disk)) :
    Calls Try.prog 30 #[.agg #[.slice A n c, .slice D m d], .int .i64 a] w (StepsPost w (okSteps s (flush s a))) := by
  obtain ⟨ib, hib, hbz0, hbz1, hbz2⟩ := info_parts Try.info3_step
  have hF0 : Fl (w.alloc (.cells #[.slice A n c, .slice D m d] 28)) A s.flash := hF.alloc _
  have hD0 : Row (w.alloc (.cells #[.slice A n c, .slice D m d] 28)) D (ints s.disk) := hD.alloc _
  have hSO : Hid (Calls Try.prog 23 #[.agg #[.slice A n c, .slice D m d]] (w.alloc (.cells #[.slice A n c, .slice D m d] 28)) fun e w' => e = .returned (.bool (storeOk s)) ∧ Below (w.alloc (.cells #[.slice A n c, .slice D m d] 28)).heap.size (w.alloc (.cells #[.slice A n c, .slice D m d] 28)) w') := impl_StoreOk s A D n m c d _ hn hm hF0 hD0
  by_cases hok : storeOk s = true
  · have hfin : Hid (okSteps s (flush s a) = flush s a) := by unfold Hid okSteps; rw [if_pos hok]
    obtain ⟨h4, h6, hfl, hp4, hms⟩ := ok_parts hok
    obtain rfl : n = 4 := by omega
    obtain rfl : m = 6 := by omega
    rw [hok] at hSO
    have HFL := Lib.hid hfl
    have H4 := Lib.hid h4
    have H6 := Lib.hid h6
    have HP := Lib.hid hp4
    have HM := Lib.hid hms
    have HOK := Lib.hid (storeOk_iff.1 hok)
    clear hok h4 h6 hfl hp4 hms hm hn
    go_enter Try.func30, Try.ntmps30
    go_wp2_with fail
    with_reducible refine hSO.out.mono ?_
    rintro e w1 ⟨rfl, hb⟩
    have hB : Below w.heap.size w w1 := ((Below.refl _ _).alloc (Nat.le_refl _) _).trans (hb.mono (by simp))
    have hz : w.heap.size < w1.heap.size := by have := hb.size; simp at this; omega
    obtain ⟨hc, hfz⟩ := bcell hb
    have x0 : w1.cell? ⟨w.heap.size, 0, none⟩ = some (.slice A 4 c) := (hc _ _ (by simp)).trans (by simp)
    have x1 : w1.cell? ⟨w.heap.size, 1, none⟩ = some (.slice D 6 d) := (hc _ _ (by simp)).trans (by simp)
    have hF1 := hF.below hB (Nat.le_refl _)
    have hD1 := hD.below hB (Nat.le_refl _)
    clear hb hc hfz hSO hF0 hD0
    have hq : Hid (flush s a = if addrB a = false ∨ dirty s.flash a = false then [] else if wr s.flash 2 a (readV s a) = [] then [] else ⟨1, a, readV s a, 0, rc0⟩ :: wr s.flash 2 a (readV s a)) := rfl
    go_wp2_with fail
    refine (impl_FindLast s.flash a A _ c _ H4.out.symm hF1).mono ?_
    rintro e w2 ⟨rfl, hb2⟩
    replace x0 := (hb2.cell (p := ⟨w.heap.size, 0, none⟩) hz).trans x0
    have hB2 := hB.trans (hb2.mono hB.size)
    have hz2 := hb2.size
    clear hb2 hB x1
    by_cases hfd : addrB a = true ∧ 0 < (last s.flash a).seq
    · obtain ⟨ha, hpos⟩ := hfd
      have hfe : findLast s.flash a = (last s.flash a, true) := by unfold findLast; rw [if_pos ⟨ha, HFL.out⟩]; congr 1; simpa using hpos
      have hra : (last s.flash a).addr = a := (last_found (last_pages HFL.out) hpos).2
      have hdy : Hid (dirty s.flash a = decide ((last s.flash a).kind = 1)) := by unfold Hid dirty; rw [show decide (0 < (last s.flash a).seq) = true by simpa using hpos]; rfl
      have hrv : readV s a = (last s.flash a).val := by unfold readV; rw [if_pos hpos]
      rw [hfe]
      rw [hrv] at hq
      have HRA := Lib.hid hra
      have HA := Lib.hid ha
      generalize last s.flash a = r at *
      clear hfe hra hrv hpos ha
      unfold rcA
      dsimp only
      go_wp2_with fail
      refine (impl_isDirty r _).mono ?_
      rintro e w3 ⟨rfl, hb3⟩
      obtain ⟨hc, hfz⟩ := bcell hb3
      have r0 : w3.cell? ⟨w2.heap.size, 0, none⟩ = some (.int .i64 r.kind) := (hc _ _ (by simp)).trans (by simp)
      have r1 : w3.cell? ⟨w2.heap.size, 1, none⟩ = some (.int .i64 r.seq) := (hc _ _ (by simp)).trans (by simp)
      have r2 : w3.cell? ⟨w2.heap.size, 2, none⟩ = some (.int .i64 r.addr) := (hc _ _ (by simp)).trans (by simp)
      have r3 : w3.cell? ⟨w2.heap.size, 3, none⟩ = some (.int .i64 r.val) := (hc _ _ (by simp)).trans (by simp)
      have y0 : w3.cell? ⟨w.heap.size, 0, none⟩ = some (.slice A 4 c) := (hc _ _ (by simp; omega)).trans (cellP x0 _)
      have hB3 : Below w.heap.size w w3 := (hB2.alloc hB2.size _).trans (hb3.mono (by have := hB2.size; simp; omega))
      have hz3 : w2.heap.size + 1 ≤ w3.heap.size := by have := hb3.size; simpa using this
      clear hb3 hc hfz x0 hB2
      by_cases hk : r.kind = 1
      · rw [show decide (r.kind = 1) = true by simpa using hk]
        have hq2 : Hid (flush s a = if wr s.flash 2 a r.val = [] then [] else ⟨1, a, r.val, 0, rc0⟩ :: wr s.flash 2 a r.val) := by
          rw [Hid, hq.out, if_neg (by rw [HA.out, hdy.out]; simp [hk])]
        rw [hk] at r0
        clear hk hq hdy
        go_wp2_with fail
        refine (impl_stepsWrite s.flash 2 a r.val A _ c _ H4.out.symm HFL.out (hF.below hB3 (Nat.le_refl _))).mono ?_
        rintro e w4 ⟨v, rfl, hO, hb4⟩
        replace r0 := (hb4.cell (p := ⟨w2.heap.size, 0, none⟩) (by show w2.heap.size < _; omega)).trans r0
        replace r1 := (hb4.cell (p := ⟨w2.heap.size, 1, none⟩) (by show w2.heap.size < _; omega)).trans r1
        replace r2 := (hb4.cell (p := ⟨w2.heap.size, 2, none⟩) (by show w2.heap.size < _; omega)).trans r2
        replace r3 := (hb4.cell (p := ⟨w2.heap.size, 3, none⟩) (by show w2.heap.size < _; omega)).trans r3
        have hB4 := hB3.trans (hb4.mono hB3.size)
        have hz4 := hb4.size
        have hwl := wr_len H4.out HP.out 2 a r.val
        generalize wr s.flash 2 a r.val = xs at *
        obtain ⟨A2, c2, rfl, hcap, hRow, hblk⟩ := hO.shape'
        clear hb4 hB3 y0
        by_cases hx : xs = []
        · subst hx
          have h4' : Hid (flush s a = []) := by rw [Hid, hq2.out, if_pos rfl]
          go_wp2
          go_ret
          exact ⟨_, rfl, by rw [hfin.out, h4'.out]; exact OwnS.nul _ _, hB4⟩
        · have h4' : Hid (flush s a = [⟨1, a, r.val, 0, rc0⟩] ++ xs) := by rw [Hid, hq2.out, if_neg hx]; rfl
          have hlen : 0 < xs.length := List.length_pos_iff.2 hx
          have hle : ((xs.length : Int) == 0) = false := by rw [beq_eq_false_iff_ne]; omega
          obtain ⟨g2, o2, rfl⟩ := hRow.addr (by intro e; have := sps_len xs; rw [e] at this; simp at this; omega)
          clear hq2
          go_wp2_with fail
          refine (impl_diskStep ⟨1, r.seq, r.addr, r.val⟩ _).mono ?_
          rintro e w5 ⟨rfl, hb5⟩
          dsimp only
          rw [HRA.out]
          have hB5 := hB4.trans (hb5.mono hB4.size)
          have hz5 := hb5.size
          have hRow5 := hRow.below hb5 (Nat.le_refl _)
          have hlit : OwnS (w5.alloc (.cells #[.int .i64 1, .int .i64 a, .int .i64 r.val, .int .i64 0, .int .i64 0, .int .i64 0, .int .i64 0, .int .i64 0] 90)) w.heap.size (.slice (some ⟨w5.heap.size, 0, none⟩) 1 1) [⟨1, a, r.val, 0, rc0⟩] := OwnS.one w5 w.heap.size (by omega) ⟨1, a, r.val, 0, rc0⟩
          clear hRow hb5 hB4
          go_wp2_with (at_builtin; refine wpList_append_lies _ rfl (.tmp 36) (.tmp 37) _ rfl w.heap.size 90 ib _ 8 64 Try.underlying46 hib hbz0 hbz1 hbz2 rfl (by omega) (.slice (some ⟨w5.heap.size, 0, none⟩) 1 1) 1 (sps [⟨1, a, r.val, 0, rc0⟩]) rfl hlit ⟨g2, o2, none⟩ xs.length c2 (sps xs) rfl (sps_len xs) ((hRow5.alloc _).news) (sps_one xs) hlen (by unfold maxLen; omega) (by omega) (by simp; omega) (w5.heap.size + 1) (by simp) ?_; intro g3 c3 w6 hown2 hgrow2 hat2 hlt2)
          have hbb : Below w5.heap.size w5 w6 := ((Below.refl _ _).alloc (by omega) _).grown hgrow2 (by simp) (by intro q e; cases e; exact Nat.le_refl _)
          have hOS := OwnS.onto (xs := [⟨1, a, r.val, 0, rc0⟩]) rfl hown2
          go_ret
          exact ⟨_, rfl, by rw [hfin.out, h4'.out]; exact hOS, hB5.trans (hbb.mono (by omega))⟩
      · rw [show decide (r.kind = 1) = false by simpa using hk]
        have hq2 : Hid (flush s a = []) := by rw [Hid, hq.out, if_pos (.inr (by rw [hdy.out]; simpa using hk))]
        go_wp2
        go_ret
        exact ⟨_, rfl, by rw [hfin.out, hq2.out]; exact OwnS.nul _ _, hB3⟩
    · have hq2 : Hid (flush s a = []) := by
        rw [Hid, hq.out, if_pos]
        by_cases ha : addrB a = true
        · right; unfold dirty; rw [show decide (0 < (last s.flash a).seq) = false by simpa using fun h => hfd ⟨ha, h⟩]; rfl
        · left; simpa using ha
      have hfe : (findLast s.flash a).2 = false := by
        unfold findLast
        split
        · rename_i h; simpa using fun q => hfd ⟨h.1, q⟩
        · rfl
      rw [hfe]
      clear hfe hq hfd
      generalize (findLast s.flash a).1 = r at *
      unfold rcA
      go_wp2
      go_ret
      exact ⟨_, rfl, by rw [hfin.out, hq2.out]; exact OwnS.nul _ _, hB2.alloc hB2.size _⟩
  · have hfin : Hid (okSteps s (flush s a) = []) := by unfold Hid okSteps; rw [if_neg hok]
    rw [show storeOk s = false by simpa using hok] at hSO
    clear hok hn hm
    go_enter Try.func30, Try.ntmps30
    go_wp2_with fail
    with_reducible refine hSO.out.mono ?_
    rintro e w1 ⟨rfl, hb⟩
    have hB : Below w.heap.size w w1 := ((Below.refl _ _).alloc (Nat.le_refl _) _).trans (hb.mono (by simp))
    have hz : w.heap.size ≤ w1.heap.size := hB.size
    go_wp2
    go_ret
    rw [StepsPost]
    exact ⟨_, rfl, by rw [hfin.out]; exact OwnS.nul _ _, hB⟩
end Go.Proofs.Ytohkoogmbfaceaa
open Go.RowKit Go.IntWalk Go.Maps
namespace Go.Proofs.Ytohkoogmbfaceaa
set_option linter.unusedVariables false
set_option linter.unusedSimpArgs false
set_option maxHeartbeats 1000000
set_option maxRecDepth 20000 in
theorem impl_StepsFill (s : St) (a : Int) (A D : Option Addr) (n m c d : Nat) (w : World) (hn : n = s.flash.length) (hm : m = s.disk.length) (hF : Fl w A s.flash) (hD : Row w D (ints s.disk)) :
    Calls Try.prog 31 #[.agg #[.slice A n c, .slice D m d], .int .i64 a] w (StepsPost w (okSteps s (fill s a))) := by
  have hF0 : Fl (w.alloc (.cells #[.slice A n c, .slice D m d] 28)) A s.flash := hF.alloc _
  have hD0 : Row (w.alloc (.cells #[.slice A n c, .slice D m d] 28)) D (ints s.disk) := hD.alloc _
  have hSO : Hid (Calls Try.prog 23 #[.agg #[.slice A n c, .slice D m d]] (w.alloc (.cells #[.slice A n c, .slice D m d] 28)) fun e w' => e = .returned (.bool (storeOk s)) ∧ Below (w.alloc (.cells #[.slice A n c, .slice D m d] 28)).heap.size (w.alloc (.cells #[.slice A n c, .slice D m d] 28)) w') := impl_StoreOk s A D n m c d _ hn hm hF0 hD0
  by_cases hok : storeOk s = true
  · have hfin : Hid (okSteps s (fill s a) = fill s a) := by unfold Hid okSteps; rw [if_pos hok]
    obtain ⟨h4, h6, hfl, hp4, hms⟩ := ok_parts hok
    obtain rfl : n = 4 := by omega
    obtain rfl : m = 6 := by omega
    rw [hok] at hSO
    have HFL := Lib.hid hfl
    have H4 := Lib.hid h4
    have H6 := Lib.hid h6
    have HP := Lib.hid hp4
    have HM := Lib.hid hms
    have HOK := Lib.hid (storeOk_iff.1 hok)
    clear hok h4 h6 hfl hp4 hms hm hn
    go_enter Try.func31, Try.ntmps31
    go_wp2_with fail
    with_reducible refine hSO.out.mono ?_
    rintro e w1 ⟨rfl, hb⟩
    have hB : Below w.heap.size w w1 := ((Below.refl _ _).alloc (Nat.le_refl _) _).trans (hb.mono (by simp))
    have hz : w.heap.size < w1.heap.size := by have := hb.size; simp at this; omega
    obtain ⟨hc, hfz⟩ := bcell hb
    have x0 : w1.cell? ⟨w.heap.size, 0, none⟩ = some (.slice A 4 c) := (hc _ _ (by simp)).trans (by simp)
    have x1 : w1.cell? ⟨w.heap.size, 1, none⟩ = some (.slice D 6 d) := (hc _ _ (by simp)).trans (by simp)
    have hF1 := hF.below hB (Nat.le_refl _)
    have hD1 := hD.below hB (Nat.le_refl _)
    clear hb hc hfz hSO hF0 hD0
    by_cases ha : addrB a = true
    · obtain ⟨ha1, ha2⟩ := addrB_iff.1 ha
      have hAc : ∀ w, Hid (Calls Try.prog 46 #[.int .i64 a] w fun e w' => e = .returned (.bool true) ∧ w = w') := fun w => by have := impl_addrOk a w; rw [ha] at this; exact this
      have hq : Hid (fill s a = if addrB a = false ∨ 0 < (last s.flash a).seq then [] else wr s.flash 2 a (s.disk.getD (a - 1).toNat 0)) := rfl
      have hfe : findLast s.flash a = (last s.flash a, decide (0 < (last s.flash a).seq)) := by unfold findLast; rw [if_pos ⟨ha, HFL.out⟩]
      have HFE := Lib.hid hfe
      have HA := Lib.hid ha
      obtain ⟨i, rfl⟩ : ∃ i : Nat, a = i + 1 := ⟨(a - 1).toNat, by omega⟩
      have hi : i < 6 := by omega
      obtain ⟨v, hv⟩ := get_some (l := s.disk) (k := i) (by have := H6.out; omega)
      have hgd : s.disk.getD ((i : Int) + 1 - 1).toNat 0 = v := by rw [show ((i : Int) + 1 - 1).toNat = i by omega, List.getD_eq_getElem?_getD, hv]; rfl
      rw [hgd] at hq
      obtain ⟨db, dO, rfl⟩ := hD1.addr (ints_ne' (by intro e; rw [e] at hv; simp at hv))
      have hi6 : (i : Int) < 6 := by omega
      have HV := Lib.hid hv
      clear hv hgd ha hfe
      go_wp2_with (go_at_call 46; with_reducible refine (hAc _).out.mono ?_; rintro e w2 ⟨rfl, rfl⟩)
      with_reducible refine (impl_FindLast s.flash (i + 1) A _ c _ H4.out.symm hF1).mono ?_
      rintro e w2 ⟨rfl, hb2⟩
      rw [HFE.out]
      replace x0 := (hb2.cell (p := ⟨w.heap.size, 0, none⟩) hz).trans x0
      replace x1 := (hb2.cell (p := ⟨w.heap.size, 1, none⟩) hz).trans x1
      have hB2 := hB.trans (hb2.mono hB.size)
      have hz2 := hb2.size
      obtain ⟨hcv, _⟩ := (hD1.below hb2 (Nat.le_refl _)).int_ HV.out
      have hdb := lt_of_cell hcv
      have hF2 := hF.below hB2 (Nat.le_refl _)
      clear hb2 hB hAc HFE
      generalize last s.flash (i + 1) = x at *
      unfold rcA
      dsimp only
      have hzz : w.heap.size < w2.heap.size := by omega
      by_cases h1 : 0 < x.seq
      · have h3 : Hid (fill s (i + 1) = []) := by rw [Hid, hq.out, if_pos (.inr h1)]
        rw [show decide (0 < x.seq) = true by simpa using h1]
        go_wp2
        go_ret
        exact ⟨_, rfl, by rw [hfin.out, h3.out]; exact OwnS.nul _ _, hB2.alloc hB2.size _⟩
      · have h3 : Hid (fill s (i + 1) = wr s.flash 2 (i + 1) v) := by
          rw [Hid, hq.out, if_neg (by rw [HA.out]; simp; omega)]
        rw [show decide (0 < x.seq) = false by simpa using h1]
        have e1 : IntKind.i64.wrap ((i : Int) + 1 - 1) = i := by rw [show (i : Int) + 1 - 1 = i by omega]; exact IntWalk.i64_in _ (by omega)
        have e2 : IntKind.i64.wrap (i : Int) = i := IntWalk.i64_in _ (by omega)
        have e3 : (i : Int) + 1 - 1 = i := by omega
        have e4 : (0 : Int) ≤ i := by omega
        clear hq h1
        go_wp2
        go_region_with (first | (go_at_call 51; with_reducible refine (impl_stepsWrite s.flash 2 (i + 1) v A _ c _ H4.out.symm HFL.out (Fl.drew' (hF2.alloc _))).mono ?_; rintro e w3 ⟨u, rfl, hO, hb3⟩))
        all_goals
          have hle : w.heap.size ≤ (w2.alloc (.cells #[.int .i64 x.kind, .int .i64 x.seq, .int .i64 x.addr, .int .i64 x.val] 75)).drew.heap.size := by show w.heap.size ≤ (w2.alloc _).heap.size; simp; omega
          have hB3 : Below w.heap.size w w3 := ((hB2.alloc hB2.size _).drew).trans (hb3.mono hle)
          clear hb3
          go_wp2
          go_ret
          exact ⟨_, rfl, by rw [hfin.out, h3.out]; exact hO.mono hle, hB3⟩
    · have ha' : addrB a = false := by simpa using ha
      have hAc : ∀ w, Hid (Calls Try.prog 46 #[.int .i64 a] w fun e w' => e = .returned (.bool false) ∧ w = w') := fun w => by have := impl_addrOk a w; rw [ha'] at this; exact this
      have h3 : Hid (fill s a = []) := by unfold Hid fill; rw [if_pos (.inl ha')]
      clear ha ha'
      go_wp2_with (go_at_call 46; with_reducible refine (hAc _).out.mono ?_; rintro e w2 ⟨rfl, rfl⟩)
      go_ret
      exact ⟨_, rfl, by rw [hfin.out, h3.out]; exact OwnS.nul _ _, hB⟩
  · have hfin : Hid (okSteps s (fill s a) = []) := by unfold Hid okSteps; rw [if_neg hok]
    rw [show storeOk s = false by simpa using hok] at hSO
    clear hok hn hm
    go_enter Try.func31, Try.ntmps31
    go_wp2_with fail
    with_reducible refine hSO.out.mono ?_
    rintro e w1 ⟨rfl, hb⟩
    have hB : Below w.heap.size w w1 := ((Below.refl _ _).alloc (Nat.le_refl _) _).trans (hb.mono (by simp))
    have hz : w.heap.size ≤ w1.heap.size := hB.size
    go_wp2
    go_ret
    rw [StepsPost]
    exact ⟨_, rfl, by rw [hfin.out]; exact OwnS.nul _ _, hB⟩
end Go.Proofs.Ytohkoogmbfaceaa
open Go.RowKit Go.IntWalk Go.Maps
namespace Go.Proofs.Ytohkoogmbfaceaa
set_option linter.unusedVariables false
set_option linter.unusedSimpArgs false
set_option maxHeartbeats 1000000
set_option maxRecDepth 20000
theorem impl_player_put (s : St) (e : Ev) (A D : Option Addr) (n m c d : Nat) (w : World) (hn : n = s.flash.length) (hm : m = s.disk.length) (hF : Fl w A s.flash) (hD : Row w D (ints s.disk)) :
    Calls Try.prog 97 #[.agg #[.slice A n c, .slice D m d], .agg #[.int .i64 e.kind, .int .i64 e.a, .int .i64 e.b, .int .i64 e.c, .bool e.torn]] w (StepsPost w (okSteps s (wr s.flash 1 e.a e.b))) := by
  have hB0 : Below w.heap.size w ((w.alloc (.cells #[.slice A n c, .slice D m d] 127)).alloc (.cells #[.int .i64 e.kind, .int .i64 e.a, .int .i64 e.b, .int .i64 e.c, .bool e.torn] 34)) := by (repeat (first | (with_reducible exact Below.refl _ _) | (with_reducible assumption) | (refine Below.setCell ?_ (by first | omega | exact hB.size | exact hb.size | (have h := hB.size; simp; omega) | (have h := hb.size; simp; omega) | (simp; omega) | simp) _) | (refine Below.alloc ?_ (by first | omega | exact hB.size | exact hb.size | (have h := hB.size; simp; omega) | (have h := hb.size; simp; omega) | (simp; omega) | simp) _) | (refine Below.drew ?_)))
  have HC := Lib.hid (impl_StepsPut s e.a e.b A D n m c d _ hn hm (hF.below hB0 (Nat.le_refl _)) (hD.below hB0 (Nat.le_refl _)))
  clear hn hm
  go_enter Try.func97, Try.ntmps97
  go_wp2_with fail
  with_reducible refine HC.out.mono ?_
  rintro r w1 ⟨v, rfl, hO, hb⟩
  go_wp2
  go_ret
  exact ⟨_, rfl, hO.mono (by simp; omega), hB0.trans (hb.mono (by simp; omega))⟩
theorem impl_player_flush (s : St) (e : Ev) (A D : Option Addr) (n m c d : Nat) (w : World) (hn : n = s.flash.length) (hm : m = s.disk.length) (hF : Fl w A s.flash) (hD : Row w D (ints s.disk)) :
    Calls Try.prog 98 #[.agg #[.slice A n c, .slice D m d], .agg #[.int .i64 e.kind, .int .i64 e.a, .int .i64 e.b, .int .i64 e.c, .bool e.torn]] w (StepsPost w (okSteps s (flush s e.a))) := by
  have hB0 : Below w.heap.size w ((w.alloc (.cells #[.slice A n c, .slice D m d] 127)).alloc (.cells #[.int .i64 e.kind, .int .i64 e.a, .int .i64 e.b, .int .i64 e.c, .bool e.torn] 34)) := by (repeat (first | (with_reducible exact Below.refl _ _) | (with_reducible assumption) | (refine Below.setCell ?_ (by first | omega | exact hB.size | exact hb.size | (have h := hB.size; simp; omega) | (have h := hb.size; simp; omega) | (simp; omega) | simp) _) | (refine Below.alloc ?_ (by first | omega | exact hB.size | exact hb.size | (have h := hB.size; simp; omega) | (have h := hb.size; simp; omega) | (simp; omega) | simp) _) | (refine Below.drew ?_)))
  have HC := Lib.hid (impl_StepsFlush s e.a A D n m c d _ hn hm (hF.below hB0 (Nat.le_refl _)) (hD.below hB0 (Nat.le_refl _)))
  clear hn hm
  go_enter Try.func98, Try.ntmps98
  go_wp2_with fail
  with_reducible refine HC.out.mono ?_
  rintro r w1 ⟨v, rfl, hO, hb⟩
  go_wp2
  go_ret
  exact ⟨_, rfl, hO.mono (by simp; omega), hB0.trans (hb.mono (by simp; omega))⟩
theorem impl_player_fill (s : St) (e : Ev) (A D : Option Addr) (n m c d : Nat) (w : World) (hn : n = s.flash.length) (hm : m = s.disk.length) (hF : Fl w A s.flash) (hD : Row w D (ints s.disk)) :
    Calls Try.prog 99 #[.agg #[.slice A n c, .slice D m d], .agg #[.int .i64 e.kind, .int .i64 e.a, .int .i64 e.b, .int .i64 e.c, .bool e.torn]] w (StepsPost w (okSteps s (fill s e.a))) := by
  have hB0 : Below w.heap.size w ((w.alloc (.cells #[.slice A n c, .slice D m d] 127)).alloc (.cells #[.int .i64 e.kind, .int .i64 e.a, .int .i64 e.b, .int .i64 e.c, .bool e.torn] 34)) := by (repeat (first | (with_reducible exact Below.refl _ _) | (with_reducible assumption) | (refine Below.setCell ?_ (by first | omega | exact hB.size | exact hb.size | (have h := hB.size; simp; omega) | (have h := hb.size; simp; omega) | (simp; omega) | simp) _) | (refine Below.alloc ?_ (by first | omega | exact hB.size | exact hb.size | (have h := hB.size; simp; omega) | (have h := hb.size; simp; omega) | (simp; omega) | simp) _) | (refine Below.drew ?_)))
  have HC := Lib.hid (impl_StepsFill s e.a A D n m c d _ hn hm (hF.below hB0 (Nat.le_refl _)) (hD.below hB0 (Nat.le_refl _)))
  clear hn hm
  go_enter Try.func99, Try.ntmps99
  go_wp2_with fail
  with_reducible refine HC.out.mono ?_
  rintro r w1 ⟨v, rfl, hO, hb⟩
  go_wp2
  go_ret
  exact ⟨_, rfl, hO.mono (by simp; omega), hB0.trans (hb.mono (by simp; omega))⟩
theorem impl_PlaySteps (s : St) (e : Ev) (A D : Option Addr) (n m c d : Nat) (w : World) (hn : n = s.flash.length) (hm : m = s.disk.length) (hF : Fl w A s.flash) (hD : Row w D (ints s.disk)) :
    Calls Try.prog 68 #[.agg #[.slice A n c, .slice D m d], .agg #[.int .i64 e.kind, .int .i64 e.a, .int .i64 e.b, .int .i64 e.c, .bool e.torn]] w (StepsPost w (okSteps s (stepsOf s e))) := by
  have hmf : ∀ (fn : Fn) (first cap : Array Value) (w : World), (Instr.makeFunc fn first cap).run Try.prog w = .ok (.func fn first cap) w := fun _ _ _ _ => rfl
  have hB0 : Below w.heap.size w ((((w.alloc (.cells #[.slice A n c, .slice D m d] 28)).alloc (.cells #[.int .i64 e.kind, .int .i64 e.a, .int .i64 e.b, .int .i64 e.c, .bool e.torn] 34)).alloc (.cells #[.slice A n c, .slice D m d] 127)).alloc (.cells #[.nilFunc, .func (.func 97) #[.agg #[.slice A n c, .slice D m d]] #[], .func (.func 98) #[.agg #[.slice A n c, .slice D m d]] #[], .func (.func 99) #[.agg #[.slice A n c, .slice D m d]] #[]] 129)) := by (repeat (first | (with_reducible exact Below.refl _ _) | (with_reducible assumption) | (refine Below.setCell ?_ (by first | omega | exact hB.size | exact hb.size | (have h := hB.size; simp; omega) | (have h := hb.size; simp; omega) | (simp; omega) | simp) _) | (refine Below.alloc ?_ (by first | omega | exact hB.size | exact hb.size | (have h := hB.size; simp; omega) | (have h := hb.size; simp; omega) | (simp; omega) | simp) _) | (refine Below.drew ?_)))
  have hF0 : Fl ((((w.alloc (.cells #[.slice A n c, .slice D m d] 28)).alloc (.cells #[.int .i64 e.kind, .int .i64 e.a, .int .i64 e.b, .int .i64 e.c, .bool e.torn] 34)).alloc (.cells #[.slice A n c, .slice D m d] 127)).alloc (.cells #[.nilFunc, .func (.func 97) #[.agg #[.slice A n c, .slice D m d]] #[], .func (.func 98) #[.agg #[.slice A n c, .slice D m d]] #[], .func (.func 99) #[.agg #[.slice A n c, .slice D m d]] #[]] 129)).drew A s.flash := (hF.below hB0 (Nat.le_refl _)).drew'
  have hD0 : Row ((((w.alloc (.cells #[.slice A n c, .slice D m d] 28)).alloc (.cells #[.int .i64 e.kind, .int .i64 e.a, .int .i64 e.b, .int .i64 e.c, .bool e.torn] 34)).alloc (.cells #[.slice A n c, .slice D m d] 127)).alloc (.cells #[.nilFunc, .func (.func 97) #[.agg #[.slice A n c, .slice D m d]] #[], .func (.func 98) #[.agg #[.slice A n c, .slice D m d]] #[], .func (.func 99) #[.agg #[.slice A n c, .slice D m d]] #[]] 129)).drew D (ints s.disk) := (hD.below hB0 (Nat.le_refl _)).drew
  have H1 := Lib.hid (impl_player_put s e A D n m c d _ hn hm hF0 hD0)
  have H2 := Lib.hid (impl_player_flush s e A D n m c d _ hn hm hF0 hD0)
  have H3 := Lib.hid (impl_player_fill s e A D n m c d _ hn hm hF0 hD0)
  clear hn hm hF0 hD0 hF hD
  obtain ⟨k, a, b, ec, t⟩ := e
  dsimp only at *
  by_cases h1 : k = 1
  · subst h1
    have hq : Hid (stepsOf s ⟨1, a, b, ec, t⟩ = wr s.flash 1 a b) := rfl
    go_enter Try.func68, Try.ntmps68
    go_wp2
    go_region_with (first | (go_at_call 97; (with_reducible refine H1.out.mono ?_); rintro r w1 ⟨v, rfl, hO, hb⟩))
    all_goals
      go_wp2
      go_ret
      exact ⟨_, rfl, by rw [hq.out]; exact hO.mono hB0.size, hB0.drew.trans (hb.mono hB0.size)⟩
  by_cases h2 : k = 2
  · subst h2
    have hq : Hid (stepsOf s ⟨2, a, b, ec, t⟩ = flush s a) := rfl
    go_enter Try.func68, Try.ntmps68
    go_wp2
    go_region_with (first | (go_at_call 98; (with_reducible refine H2.out.mono ?_); rintro r w1 ⟨v, rfl, hO, hb⟩))
    all_goals
      go_wp2
      go_ret
      exact ⟨_, rfl, by rw [hq.out]; exact hO.mono hB0.size, hB0.drew.trans (hb.mono hB0.size)⟩
  by_cases h3 : k = 3
  · subst h3
    have hq : Hid (stepsOf s ⟨3, a, b, ec, t⟩ = fill s a) := rfl
    go_enter Try.func68, Try.ntmps68
    go_wp2
    go_region_with (first | (go_at_call 99; (with_reducible refine H3.out.mono ?_); rintro r w1 ⟨v, rfl, hO, hb⟩))
    all_goals
      go_wp2
      go_ret
      exact ⟨_, rfl, by rw [hq.out]; exact hO.mono hB0.size, hB0.drew.trans (hb.mono hB0.size)⟩
  have hq : Hid (okSteps s (stepsOf s ⟨k, a, b, ec, t⟩) = []) := by
    unfold Hid stepsOf okSteps
    dsimp only
    rw [if_neg h1, if_neg h2, if_neg h3]
    split <;> rfl
  have hk : k < 1 ∨ 3 < k := by omega
  rcases hk with hk | hk
  · go_enter Try.func68, Try.ntmps68
    go_wp2
    go_ret
    exact ⟨_, rfl, by rw [hq.out]; exact OwnS.nul _ _, hB0⟩
  · have hk2 : ¬ k < 1 := by omega
    go_enter Try.func68, Try.ntmps68
    go_wp2
    go_ret
    exact ⟨_, rfl, by rw [hq.out]; exact OwnS.nul _ _, hB0⟩
end Go.Proofs.Ytohkoogmbfaceaa
open Go.RowKit Go.IntWalk Go.Maps
namespace Go.Proofs.Ytohkoogmbfaceaa
set_option linter.unusedVariables false
set_option linter.unusedSimpArgs false
set_option maxHeartbeats 2000000
set_option maxRecDepth 20000
/-- a store in a box -/
def BoxSt (w : World) (lo ob : Nat) (t : St) : Prop :=
  ∃ A c D d hs, w.cell? ⟨ob, 0, none⟩ = some (.slice A 4 c) ∧ w.cell? ⟨ob, 1, none⟩ = some (.slice D 6 d) ∧ w.frozen? ⟨ob, 0, none⟩ = false ∧ w.frozen? ⟨ob, 1, none⟩ = false ∧ Bks w A t.flash hs ∧ (∀ b, fblk A hs b → lo ≤ b ∧ b ≠ ob) ∧ Row w D (ints t.disk) ∧ ∀ b, blk D b → lo ≤ b ∧ b ≠ ob
theorem BoxSt.below {w w' : World} {lo ob B : Nat} {t : St} (h : BoxSt w lo ob t) (hb : Below B w w') (hB : w.heap.size ≤ B) : BoxSt w' lo ob t := by
  obtain ⟨A, c, D, d, hs, o0, o1, f0, f1, hBk, h1, hD, h2⟩ := h
  have hob := lt_of_cell o0
  exact ⟨A, c, D, d, hs, (hb.cell (p := ⟨ob, 0, none⟩) (by show ob < B; omega)).trans o0, (hb.cell (p := ⟨ob, 1, none⟩) (by show ob < B; omega)).trans o1, (hb.frozen (p := ⟨ob, 0, none⟩) (by show ob < B; omega)).trans f0, (hb.frozen (p := ⟨ob, 1, none⟩) (by show ob < B; omega)).trans f1, hBk.below hb hB, h1, hD.below hb hB, h2⟩
theorem BoxSt.alloc {w : World} {lo ob : Nat} {t : St} (h : BoxSt w lo ob t) (o : Obj) : BoxSt (w.alloc o) lo ob t := h.below (B := w.heap.size) ((Below.refl _ _).alloc (Nat.le_refl _) _) (Nat.le_refl _)
theorem BoxSt.put {w w' : World} {lo ob : Nat} {t t' : St} {A D : Option Addr} {c d : Nat} (h : BoxSt w lo ob t) (hF : FlAt w (ob + 1) A t'.flash) (hD : Row w D (ints t'.disk)) (hd : ∀ b, blk D b → ob + 1 ≤ b) (hl : lo ≤ ob) (hw : w' = (w.setCell ⟨ob, 0, none⟩ (.slice A 4 c)).setCell ⟨ob, 1, none⟩ (.slice D 6 d)) : BoxSt w' lo ob t' := by
  obtain ⟨_, _, _, _, _, o0, o1, f0, f1, _⟩ := h
  obtain ⟨hs, hBk, hlo⟩ := hF
  have hW : Wrote w w' ob 0 [.slice A 4 c, .slice D 6 d] := by
    rw [hw]
    exact wrote_setRow ob [.slice A 4 c, .slice D 6 d] 0 w (fun j hj => by
      match j, hj with
      | 0, _ => exact ⟨_, o0⟩
      | 1, _ => exact ⟨_, o1⟩)
  refine ⟨A, c, D, d, hs, hW.new_ 0 _ rfl, hW.new_ 1 _ rfl, (hW.frozen _).trans f0, (hW.frozen _).trans f1, hBk.keep fun b hb hl => hW.block b ?_, fun b hb => (by have := hlo b hb; exact ⟨by omega, by omega⟩), hD.keep fun b hb hl => hW.block b (by have := hd b hb; omega), fun b hb => (by have := hd b hb; exact ⟨by omega, by omega⟩)⟩
  have hf : fblk A hs b := by
    rcases hb with hy | ⟨z, hz, hy⟩
    · exact .inl hy
    · obtain ⟨j, hj⟩ := List.getElem?_of_mem hz
      exact .inr ⟨j, z, hj, hy⟩
  have := hlo b hf
  omega
theorem box_cells {w : World} {lo ob : Nat} {t : St} {A D : Option Addr} {c d : Nat} (h : BoxSt w lo ob t) : ((w.setCell ⟨ob, 0, none⟩ (.slice A 4 c)).setCell ⟨ob, 1, none⟩ (.slice D 6 d)).cell? ⟨ob, 0, none⟩ = some (.slice A 4 c) ∧ ((w.setCell ⟨ob, 0, none⟩ (.slice A 4 c)).setCell ⟨ob, 1, none⟩ (.slice D 6 d)).cell? ⟨ob, 1, none⟩ = some (.slice D 6 d) ∧
    ((w.setCell ⟨ob, 0, none⟩ (.slice A 4 c)).setCell ⟨ob, 1, none⟩ (.slice D 6 d)).frozen? ⟨ob, 0, none⟩ = false ∧ ((w.setCell ⟨ob, 0, none⟩ (.slice A 4 c)).setCell ⟨ob, 1, none⟩ (.slice D 6 d)).frozen? ⟨ob, 1, none⟩ = false := by
  obtain ⟨_, _, _, _, _, o0, o1, f0, f1, _⟩ := h
  have hW : Wrote w ((w.setCell ⟨ob, 0, none⟩ (.slice A 4 c)).setCell ⟨ob, 1, none⟩ (.slice D 6 d)) ob 0 [.slice A 4 c, .slice D 6 d] :=
    wrote_setRow ob [.slice A 4 c, .slice D 6 d] 0 w (fun j hj => by
      match j, hj with
      | 0, _ => exact ⟨_, o0⟩
      | 1, _ => exact ⟨_, o1⟩)
  exact ⟨hW.new_ 0 _ rfl, hW.new_ 1 _ rfl, (hW.frozen _).trans f0, (hW.frozen _).trans f1⟩
theorem BoxSt.of {w : World} {lo ob : Nat} {t : St} {A D : Option Addr} {c d : Nat} (o0 : w.cell? ⟨ob, 0, none⟩ = some (.slice A 4 c)) (o1 : w.cell? ⟨ob, 1, none⟩ = some (.slice D 6 d)) (f0 : w.frozen? ⟨ob, 0, none⟩ = false) (f1 : w.frozen? ⟨ob, 1, none⟩ = false) (hF : FlAt w (ob + 1) A t.flash) (hD : Row w D (ints t.disk)) (hd : ∀ b, blk D b → ob + 1 ≤ b) (hl : lo ≤ ob) : BoxSt w lo ob t := by
  obtain ⟨hs, hBk, hlo⟩ := hF
  exact ⟨A, c, D, d, hs, o0, o1, f0, f1, hBk, fun b hb => (by have := hlo b hb; exact ⟨by omega, by omega⟩), hD, fun b hb => (by have := hd b hb; exact ⟨by omega, by omega⟩)⟩
theorem FlAt.keep {w w' : World} {lo : Nat} {A : Option Addr} {f : List Bk} (h : FlAt w lo A f) (hk : ∀ b, lo ≤ b → b < w.heap.size → w'.heap[b]? = w.heap[b]?) : FlAt w' lo A f := by
  obtain ⟨hs, hBk, hlo⟩ := h
  refine ⟨hs, hBk.keep fun b hb hl => hk b (hlo b ?_) hl, hlo⟩
  rcases hb with hy | ⟨z, hz, hy⟩
  · exact .inl hy
  · obtain ⟨j, hj⟩ := List.getElem?_of_mem hz
    exact .inr ⟨j, z, hj, hy⟩
theorem BoxSt.new {w : World} {lo c d : Nat} {A D : Option Addr} {t : St} (hO : OSt w lo w.heap.size A t.flash D t.disk) : BoxSt (w.alloc (.cells #[.slice A 4 c, .slice D 6 d] 28)) lo w.heap.size t := by
  obtain ⟨hs, hBk, hApt, hD, hdb⟩ := hO
  exact ⟨A, c, D, d, hs, by simp, by simp, by simp, by simp, hBk.alloc _, fun b hb => (by have := hApt.fblk hb; exact ⟨by omega, by omega⟩), hD.alloc _, fun b hb => (by have := hdb b hb; exact ⟨this.1, by omega⟩)⟩
theorem upto_okay {s : St} (h : Okay s) : ∀ k, k ≤ 6 → Okay (upto s k)
  | 0, _ => h
  | k + 1, hk => (doFlush_flu (upto_okay h k (by omega)) (a := (k : Int) + 1) (by omega)).ok
theorem run_append_zero {P : Program} (t ty elem : TypeId) (i : TypeInfo) (A B : Option Addr) (n c cb : Nat) (hu : P.underlying t = some (.slice elem)) (hi : P.info? elem = some i) (hc : n ≤ c) (w : World) :
    (Builtin.append_ #[t, t] ty #[.slice A n c, .slice B 0 cb]).run P w = .ok (.slice A n c) w := by
  have hf : (Builtin.firstCells i.size 0 (.slice B 0 cb)).run P w = .ok #[] w := by
    cases B with
    | none => simp [Builtin.firstCells]
    | some b => simp [Builtin.firstCells, loadCells, loadCellsFrom]
  cases A with
  | none => simp [Builtin.append_, run_underlying hu, sizeOf, typeInfo, hi, Builtin.lenOf, hc, hf]
  | some a => simp [Builtin.append_, run_underlying hu, sizeOf, typeInfo, hi, Builtin.lenOf, hc, hf, storeCells]
theorem wpList_append_zero {P : Program} {w : World} {ops : Array Oper} {rest : List Oper} {o : Oper} {a : Act} {Q : Exit → Act → World → Prop} (hgd : o.guard = none) (s x : Operand) (t elem : TypeId) (ho : o.op = .call { callee := .builtin .append, args := #[s, x], argTypes := #[t, t] })
    (i : TypeInfo) (A B : Option Addr) (n c cb : Nat) (hu : P.underlying t = some (.slice elem)) (hi : P.info? elem = some i) (hs : a.eval s = .slice A n c) (hx : a.eval x = .slice B 0 cb) (hc : n ≤ c) (h : wpList P ops Q rest (a.put o.dst (.slice A n c)) w) : wpList P ops Q (o :: rest) a w := by
  refine wpList_plain hgd fun K hK => ?_
  have hrun := run_append_zero (P := P) t o.type elem i A B n c cb hu hi hc w
  unfold Oper.wp execOp
  simp only [ho, resolve, invoke, builtin, Sem.run_bind, Sem.run_pure, Result.andThen_ok, List.map_toArray, List.map_cons, List.map_nil, hs, hx, hrun]
  exact hK _ _ h
/-- a store, and steps: what the play's inner functions answer -/
def PlaysPost (t : St) (w : World) (e : Ending) (w' : World) : Prop :=
  ∃ A c D d v, e = .returned (.tuple #[.agg #[.slice A 4 c, .slice D 6 d], v]) ∧ FlAt w' w.heap.size A t.flash ∧ Row w' D (ints t.disk) ∧ (∀ b, blk D b → w.heap.size ≤ b) ∧ Below w.heap.size w w'
theorem flush_whole {t : St} (h : Okay t) (a : Int) : toR t (flush t a) (flush t a).length false = (doFlush t a, true) := by
  have hb : allB (flush t a) = true := steps_allB h ⟨2, a, 0, 0, false⟩
  unfold toR
  rw [if_neg (by rintro (e | e | e); omega; rw [storeOk_iff.2 h] at e; cases e; rw [hb] at e; cases e)]
  rfl
theorem okSteps_ok {t : St} (h : Okay t) (xs : List Sp) : okSteps t xs = xs := by unfold okSteps; rw [if_pos (storeOk_iff.2 h)]
theorem FlAt.below {w w' : World} {lo lo' B : Nat} {A : Option Addr} {f : List Bk} (h : FlAt w lo A f) (hb : Below B w w') (hB : w.heap.size ≤ B) (hl : lo' ≤ lo) : FlAt w' lo' A f := by
  obtain ⟨hs, h1, h2⟩ := h
  exact ⟨hs, h1.below hb hB, fun b hb => Nat.le_trans hl (h2 b hb)⟩
theorem Row.lo {w : World} {A : Option Addr} {vs : List Value} (h : Row w A vs) (hn : vs ≠ []) : ∀ b, blk A b → b < w.heap.size := fun b hb => h.lt hn hb
theorem impl_playAll (s : St) (A D : Option Addr) (c d : Nat) (w : World) (hs : Okay s) (hF : Fl w A s.flash) (hD : Row w D (ints s.disk)) :
    Calls Try.prog 67 #[.agg #[.slice A 4 c, .slice D 6 d]] w (PlaysPost (doEvery s) w) := by
  obtain ⟨ib, hib, hbz0, hbz1, hbz2⟩ := info_parts Try.info3_step
  have hB0 : Below w.heap.size w ((w.alloc (.cells #[.slice A 4 c, .slice D 6 d] 28)).alloc (.cells #[.slice none 0 0, .slice none 0 0] 28)) := by (repeat (first | (with_reducible exact Below.refl _ _) | (with_reducible assumption) | (refine Below.setCell ?_ (by first | omega | exact hB.size | exact hb.size | (have h := hB.size; simp; omega) | (have h := hb.size; simp; omega) | (simp; omega) | simp) _) | (refine Below.alloc ?_ (by first | omega | exact hB.size | exact hb.size | (have h := hB.size; simp; omega) | (have h := hb.size; simp; omega) | (simp; omega) | simp) _) | (refine Below.drew ?_)))
  have HSC := Lib.hid (impl_storeCopy s A D c d _ hs.fine (hF.below hB0 (Nat.le_refl _)) (hD.below hB0 (Nat.le_refl _)))
  have HS := Lib.hid hs
  clear hs hF hD
  go_enter Try.func67, Try.ntmps67
  go_wp2_with fail
  with_reducible refine HSC.out.mono ?_
  rintro e w1 ⟨g0, d0, rfl, hO, hb1⟩
  have hs1 : w.heap.size + 2 ≤ w1.heap.size := by have := hb1.size; simpa using this
  have hB1 : Below w.heap.size w w1 := hB0.trans (hb1.mono (by simp; omega))
  obtain ⟨hc1, hf1⟩ := bcell hb1
  have r0 : w1.cell? ⟨w.heap.size + 1, 0, none⟩ = some (.slice none 0 0) := (hc1 _ _ (by simp)).trans (by simp)
  have r1 : w1.cell? ⟨w.heap.size + 1, 1, none⟩ = some (.slice none 0 0) := (hc1 _ _ (by simp)).trans (by simp)
  have q0 : w1.frozen? ⟨w.heap.size + 1, 0, none⟩ = false := (hf1 _ _ (by simp)).trans (by simp)
  have q1 : w1.frozen? ⟨w.heap.size + 1, 1, none⟩ = false := (hf1 _ _ (by simp)).trans (by simp)
  have hbx := BoxSt.new (c := 4) (d := 6) (t := s) (lo := w.heap.size + 2) (hO.mono (by simp) (Nat.le_refl _))
  clear HSC hO hb1 hc1 hf1 hB0
  go_wp2
  go_loopw [5, 6] (fun u q wr => ∃ (k : Nat) (ys : List Sp) (v : Value), k ≤ 6 ∧ q = .int .i64 (k + 1) ∧ v = u ∧ ys.length ≤ 7 * k ∧ OwnS wr (w1.heap.size + 1) v ys ∧ BoxSt wr (w.heap.size + 2) w1.heap.size (upto s k) ∧ Below w1.heap.size w1 wr ∧ w1.heap.size < wr.heap.size) (fun _ q _ => 7 - (intOf q).toNat)
  case atStart => exact ⟨0, [], _, by omega, rfl, rfl, by simp, OwnS.nul _ _, hbx, by (repeat (first | (with_reducible exact Below.refl _ _) | (with_reducible assumption) | (refine Below.setCell ?_ (by first | omega | exact hB.size | exact hb.size | (have h := hB.size; simp; omega) | (have h := hb.size; simp; omega) | (simp; omega) | simp) _) | (refine Below.alloc ?_ (by first | omega | exact hB.size | exact hb.size | (have h := hB.size; simp; omega) | (have h := hb.size; simp; omega) | (simp; omega) | simp) _) | (refine Below.drew ?_))), by simp⟩
  case round =>
    obtain ⟨k, ys, v, hk, rfl, rfl, hyl, hO, hX, hB, hz⟩ := hrel
    clear hbx
    have hBW := hB1.trans (hB.mono hB1.size)
    have rr0 := (hB.cell (p := ⟨w.heap.size + 1, 0, none⟩) (by show w.heap.size + 1 < _; omega)).trans r0
    have rr1 := (hB.cell (p := ⟨w.heap.size + 1, 1, none⟩) (by show w.heap.size + 1 < _; omega)).trans r1
    have qq0 := (hB.frozen (p := ⟨w.heap.size + 1, 0, none⟩) (by show w.heap.size + 1 < _; omega)).trans q0
    have qq1 := (hB.frozen (p := ⟨w.heap.size + 1, 1, none⟩) (by show w.heap.size + 1 < _; omega)).trans q1
    have hbs := hB.size
    have hOk := upto_okay HS.out k hk
    have HX := Lib.hid hX
    obtain ⟨Ao, co, Do, dd, hso, o0, o1, f0, f1, hBk, _, hDo, _⟩ := hX
    by_cases hlt : k < 6
    · have hk1 : (k : Int) + 1 ≤ 6 := by omega
      have hn4 : 4 = (upto s k).flash.length := (flashOk_len hOk.flash).symm
      have hm6 : 6 = (upto s k).disk.length := hOk.len.symm
      have HFLU := Lib.hid (impl_StepsFlush (upto s k) (k + 1) Ao Do 4 6 co dd wr hn4 hm6 ⟨hso, hBk⟩ hDo)
      rw [okSteps_ok hOk] at HFLU
      have hfl := flush_len hOk.fine (k + 1)
      have hwh := Lib.hid (flush_whole hOk (k + 1))
      have hup : Hid (doFlush (upto s k) (k + 1) = upto s (k + 1)) := rfl
      have HOK := Lib.hid hOk
      have HN4 := Lib.hid hn4
      have HM6 := Lib.hid hm6
      have HBK := Lib.hid hBk
      have HDO := Lib.hid hDo
      have e1 : IntKind.i64.wrap ((k : Int) + 1 + 1) = (k : Int) + 1 + 1 := IntWalk.i64_in _ (by omega)
      clear hn4 hm6 hOk hBk hDo
      go_wp2_with fail
      with_reducible refine HFLU.out.mono ?_
      rintro e w2 ⟨v2, rfl, hO2, hb2⟩
      generalize flush (upto s k) (k + 1) = xs at *
      obtain ⟨V, cs, rfl, hcs, hRow, hblk⟩ := hO2.shape
      have hs2 := hb2.size
      have hX2 := HX.out.below hb2 (Nat.le_refl _)
      have hOv := hO.below hb2 (Nat.le_refl _)
      have hB2 := hB.trans (hb2.mono hbs)
      replace o0 := (hb2.cell (p := ⟨w1.heap.size, 0, none⟩) hz).trans o0
      replace o1 := (hb2.cell (p := ⟨w1.heap.size, 1, none⟩) hz).trans o1
      have HTO := Lib.hid (impl_StepsTo (upto s k) xs xs.length false Ao Do V 4 6 co dd cs w2 HN4.out HM6.out (by omega) (Fl.below ⟨hso, HBK.out⟩ hb2 (Nat.le_refl _)) (HDO.out.below hb2 (Nat.le_refl _)) hRow)
      rw [hwh.out, hup.out] at HTO
      clear HFLU hwh hb2 hO HX
      go_wp2_with fail
      with_reducible refine HTO.out.mono ?_
      rintro e w3 ⟨A3, c3, D3, d3, rfl, hF3, hD3, hl3, hb3⟩
      have hOk3 := upto_okay HS.out (k + 1) (by omega)
      dsimp only at hF3 hD3
      rw [show ((upto s (k + 1), true) : St × Bool).1.flash.length = 4 from flashOk_len hOk3.flash, show ((upto s (k + 1), true) : St × Bool).1.disk.length = 6 from hOk3.len]
      have hs3 := hb3.size
      have hX3 := hX2.below hb3 (Nat.le_refl _)
      have hO3 := hOv.below hb3 (Nat.le_refl _)
      have hRow3 := hRow.below hb3 (Nat.le_refl _)
      have hB3 := hB2.trans (hb3.mono (by omega))
      have hF4 : FlAt w3 (w1.heap.size + 1) A3 (upto s (k + 1)).flash := hF3.below (Below.refl w3.heap.size _) (Nat.le_refl _) (by omega)
      have hX5 := Lib.hid ((hX3.put (c := c3) (d := d3) hF4 hD3 (fun b hb => by have := hl3 b hb; omega) (by omega) rfl).alloc (.cells #[.slice A3 4 c3, .slice D3 6 d3] 28))
      have hX3' := hX3
      obtain ⟨_, _, _, _, _, p0, p1, p2, p3, _⟩ := hX3'
      have hO4 : OwnS (((w3.setCell ⟨w1.heap.size, 0, none⟩ (.slice A3 4 c3)).setCell ⟨w1.heap.size, 1, none⟩ (.slice D3 6 d3)).alloc (.cells #[.slice A3 4 c3, .slice D3 6 d3] 28)) (w1.heap.size + 1) v ys := World.ownsRow.alloc (ownsRow_setCell_other (a := ⟨w1.heap.size, 1, none⟩) (ownsRow_setCell_other (a := ⟨w1.heap.size, 0, none⟩) hO3 (fun e => by have := (World.ownsRow.lt hO3 _ e).1; dsimp only at this; omega) (.slice A3 4 c3)) (fun e => by have := (World.ownsRow.lt hO3 _ e).1; dsimp only at this; omega) (.slice D3 6 d3)) _
      have hB5 : Below w1.heap.size w1 (((w3.setCell ⟨w1.heap.size, 0, none⟩ (.slice A3 4 c3)).setCell ⟨w1.heap.size, 1, none⟩ (.slice D3 6 d3)).alloc (.cells #[.slice A3 4 c3, .slice D3 6 d3] 28)) := ((hB3.setCell (p := ⟨w1.heap.size, 0, none⟩) (Nat.le_refl _) _).setCell (p := ⟨w1.heap.size, 1, none⟩) (Nat.le_refl _) _).alloc (by simp; omega) _
      have hz3 : w1.heap.size < w3.heap.size := by omega
      have hobv : ∀ q, v.ownBlock = some q → q < w2.heap.size := fun q e => (World.ownsRow.lt hOv q e).2
      have hbc := Lib.hid (box_cells (A := A3) (D := D3) (c := c3) (d := d3) hX3)
      have hF5 : FlAt (((w3.setCell ⟨w1.heap.size, 0, none⟩ (.slice A3 4 c3)).setCell ⟨w1.heap.size, 1, none⟩ (.slice D3 6 d3)).alloc (.cells #[.slice A3 4 c3, .slice D3 6 d3] 28)) w2.heap.size A3 (upto s (k + 1)).flash := hF3.keep fun b hb hl => by
        rw [Below.heap_alloc _ _ _ (by simpa using hl), Below.heap_setCell _ _ _ _ (show b ≠ w1.heap.size by omega), Below.heap_setCell _ _ _ _ (show b ≠ w1.heap.size by omega)]
      have hD5 : Row (((w3.setCell ⟨w1.heap.size, 0, none⟩ (.slice A3 4 c3)).setCell ⟨w1.heap.size, 1, none⟩ (.slice D3 6 d3)).alloc (.cells #[.slice A3 4 c3, .slice D3 6 d3] 28)) D3 (ints (upto s (k + 1)).disk) := hD3.keep fun b hb hl => by
        have := hl3 b hb
        rw [Below.heap_alloc _ _ _ (by simpa using hl), Below.heap_setCell _ _ _ _ (show b ≠ w1.heap.size by omega), Below.heap_setCell _ _ _ _ (show b ≠ w1.heap.size by omega)]
      have HL3 := Lib.hid hl3
      have HF5 := Lib.hid hF5
      have HD5 := Lib.hid hD5
      clear hF5 hD5
      have hnb : ∀ q, v.ownBlock = some q → w1.heap.size + 1 ≤ q := fun q e => (World.ownsRow.lt hO3 q e).1
      by_cases hx : xs = []
      · subst hx
        obtain ⟨Av, cv, hv, hcv, _⟩ := OwnS.shape hO3
        subst hv
        clear hF3 hF4 hD3 hl3 hX3 hRow3 hO3 hblk hnb
        dsimp only
        have HCV := Lib.hid hcv
        go_wp2_with (at_builtin; refine wpList_append_zero rfl (.tmp 29) (.tmp 30) 46 90 rfl ib Av V ys.length cv cs Try.underlying46 hib rfl rfl HCV.out ?_)
        go_roundw
        case rel => exact ⟨k + 1, ys, _, by omega, by go_num, rfl, by omega, hO4, hX5.out, hB5, by simp; omega⟩
        case measure => simp [intOf]; omega
      · have hlen : 0 < xs.length := List.length_pos_iff.2 hx
        obtain ⟨vb, vo, rfl⟩ := hRow3.addr (by intro e; have := sps_len xs; rw [e] at this; simp at this; omega)
        have hvb := hblk vb (blk_some.2 rfl)
        have hRow5 : Row (((w3.setCell ⟨w1.heap.size, 0, none⟩ (.slice A3 4 c3)).setCell ⟨w1.heap.size, 1, none⟩ (.slice D3 6 d3)).alloc (.cells #[.slice A3 4 c3, .slice D3 6 d3] 28)) (some ⟨vb, vo, none⟩) (sps xs) := Row.alloc (hRow3.keep fun b hb _ => by
          rw [blk_some] at hb
          subst hb
          rw [Below.heap_setCell _ _ _ _ (show vb ≠ w1.heap.size by omega), Below.heap_setCell _ _ _ _ (show vb ≠ w1.heap.size by omega)]) _
        clear hF3 hF4 hD3 hl3 hX3 hRow3 hO3 hblk
        have hA2 : ys.length + xs.length ≤ maxLen := by unfold maxLen; omega
        have hA3 : (ys.length + xs.length) * 64 ≤ 140737488355328 := by omega
        have hA4 : w1.heap.size + 1 ≤ (((w3.setCell ⟨w1.heap.size, 0, none⟩ (.slice A3 4 c3)).setCell ⟨w1.heap.size, 1, none⟩ (.slice D3 6 d3)).alloc (.cells #[.slice A3 4 c3, .slice D3 6 d3] 28)).heap.size := by simp; omega
        have hA5 : (((w3.setCell ⟨w1.heap.size, 0, none⟩ (.slice A3 4 c3)).setCell ⟨w1.heap.size, 1, none⟩ (.slice D3 6 d3)).alloc (.cells #[.slice A3 4 c3, .slice D3 6 d3] 28)).heap.size = w3.heap.size + 1 := by simp
        have HA2 := Lib.hid hA2
        have HA3 := Lib.hid hA3
        have HA4 := Lib.hid hA4
        have HA5 := Lib.hid hA5
        have HLN := Lib.hid hlen
        clear hA2 hA3 hA4 hA5
        dsimp only
        go_wp2_with (at_builtin; refine wpList_append_lies _ rfl (.tmp 29) (.tmp 30) _ rfl (w1.heap.size + 1) 90 ib _ 8 64 Try.underlying46 hib hbz0 hbz1 hbz2 rfl (by decide) v ys.length (sps ys) rfl hO4 ⟨vb, vo, none⟩ xs.length cs (sps xs) rfl (sps_len xs) hRow5.news (sps_one xs) HLN.out HA2.out HA3.out HA4.out (w3.heap.size + 1) HA5.out ?_; intro g2 c2 w6 hown2 hgrow2 hat2 hlt2)
        have hbb : Below (w1.heap.size + 1) (((w3.setCell ⟨w1.heap.size, 0, none⟩ (.slice A3 4 c3)).setCell ⟨w1.heap.size, 1, none⟩ (.slice D3 6 d3)).alloc (.cells #[.slice A3 4 c3, .slice D3 6 d3] 28)) w6 := (Below.refl _ _).grown hgrow2 (by simp; omega) hnb
        have hOS := OwnS.onto (xs := ys) rfl hown2
        have hB6 := hB5.trans (hbb.mono (by omega))
        have hs6 := hbb.size
        have hz6 : w1.heap.size < w6.heap.size := by simp at hs6; omega
        obtain ⟨_, _, _, _, hg5⟩ := hgrow2
        have hk6 : ∀ b, w2.heap.size ≤ b → b < (((w3.setCell ⟨w1.heap.size, 0, none⟩ (.slice A3 4 c3)).setCell ⟨w1.heap.size, 1, none⟩ (.slice D3 6 d3)).alloc (.cells #[.slice A3 4 c3, .slice D3 6 d3] 28)).heap.size → w6.heap[b]? = (((w3.setCell ⟨w1.heap.size, 0, none⟩ (.slice A3 4 c3)).setCell ⟨w1.heap.size, 1, none⟩ (.slice D3 6 d3)).alloc (.cells #[.slice A3 4 c3, .slice D3 6 d3] 28)).heap[b]? := fun b hb hl => hg5 b hl (fun e => by have := hobv b e.symm; omega)
        obtain ⟨z0, z1, z2, z3⟩ := hbc.out
        have hzz : w1.heap.size < ((w3.setCell ⟨w1.heap.size, 0, none⟩ (.slice A3 4 c3)).setCell ⟨w1.heap.size, 1, none⟩ (.slice D3 6 d3)).heap.size := by simp; omega
        have hX6 : BoxSt w6 (w.heap.size + 2) w1.heap.size (upto s (k + 1)) := BoxSt.of ((hbb.cell (p := ⟨w1.heap.size, 0, none⟩) (by show w1.heap.size < _; omega)).trans (cellP z0 _)) ((hbb.cell (p := ⟨w1.heap.size, 1, none⟩) (by show w1.heap.size < _; omega)).trans (cellP z1 _))
          ((hbb.frozen (p := ⟨w1.heap.size, 0, none⟩) (by show w1.heap.size < _; omega)).trans (fzP hzz z2 _)) ((hbb.frozen (p := ⟨w1.heap.size, 1, none⟩) (by show w1.heap.size < _; omega)).trans (fzP hzz z3 _))
          (by obtain ⟨hs', h1, h2⟩ := HF5.out.keep hk6; exact ⟨hs', h1, fun b hb => by have := h2 b hb; omega⟩) (HD5.out.keep fun b hb hl => hk6 b (HL3.out b hb) hl) (fun b hb => by have := HL3.out b hb; omega) (by omega)
        go_roundw
        case rel => exact ⟨k + 1, ys ++ xs, _, by omega, by go_num, rfl, by simp; omega, hOS, hX6, hB6, hz6⟩
        case measure => simp [intOf]; omega
    · have hk6 : k = 6 := by omega
      have hki : (6 : Int) ≤ k := by omega
      have h6 : upto s k = doEvery s := by rw [hk6, upto_six]
      have hkk : ¬ ((k : Int) + 1 ≤ 6) := by omega
      have hz7 : w.heap.size + 1 < wr.heap.size := by omega
      have hXo := HX.out
      obtain ⟨A', c', D', d', hs', p0, p1, _, _, hBk', hne, hD', hned⟩ := hXo
      clear HX hk6 hk hlt hki
      go_wp2
      have e0 := p0; have e1 := p1
      rw [o0] at e0; rw [o1] at e1
      cases e0; cases e1
      have hk2 : ∀ b, w.heap.size + 2 ≤ b → ((wr.setCell ⟨w.heap.size + 1, 0, none⟩ (.slice Ao 4 co)).setCell ⟨w.heap.size + 1, 1, none⟩ (.slice Do 6 dd)).heap[b]? = wr.heap[b]? := fun b hb => by
        rw [Below.heap_setCell _ _ _ _ (show b ≠ w.heap.size + 1 by omega), Below.heap_setCell _ _ _ _ (show b ≠ w.heap.size + 1 by omega)]
      refine bodyPost_ret (v := .tuple #[.agg #[.slice Ao 4 co, .slice Do 6 dd], v]) (by simp [results, Try.results67, go_sem, hz7, rr0, rr1]) rfl ⟨Ao, co, Do, dd, v, rfl, ?_, ?_, fun b hb => by have := (hned b hb).1; omega, ?_⟩
      · rw [← h6]
        obtain ⟨hs3, h1, h2⟩ : FlAt _ (w.heap.size + 2) Ao (upto s k).flash := FlAt.keep (w := wr) ⟨hs', hBk', fun b hb => (hne b hb).1⟩ (fun b hb _ => hk2 b hb)
        exact ⟨hs3, h1, fun b hb => by have := h2 b hb; omega⟩
      · rw [← h6]
        exact hD'.keep fun b hb _ => hk2 b (hned b hb).1
      · refine Below.setCell (Below.setCell hBW ?_ _) ?_ _ <;> (show w.heap.size ≤ w.heap.size + 1; omega)
end Go.Proofs.Ytohkoogmbfaceaa
open Go.RowKit Go.IntWalk Go.Maps
namespace Go.Proofs.Ytohkoogmbfaceaa
set_option linter.unusedVariables false
set_option linter.unusedSimpArgs false
set_option maxHeartbeats 2000000
set_option maxRecDepth 20000
theorem toR_event {s : St} (h : Okay s) (e : Ev) : toR s (stepsOf s e) e.c e.torn = if e.c < 0 then (st0, false) else (doTo s (stepsOf s e) e.c e.torn, true) := by
  have hb := steps_allB h e
  have hs := storeOk_iff.2 h
  unfold toR
  by_cases hc : e.c < 0
  · rw [if_pos (.inl hc), if_pos hc]
  · rw [if_neg (by rintro (q | q | q); exact hc q; rw [hs] at q; cases q; rw [hb] at q; cases q), if_neg hc]
theorem PlaysPost.more {t : St} {w w' w'' : World} {e : Ending} (h : PlaysPost t w e w') (hb : Below w'.heap.size w' w'') : PlaysPost t w e w'' := by
  obtain ⟨A, c, D, d, v, he, h1, h2, h3, h4⟩ := h
  exact ⟨A, c, D, d, v, he, h1.below hb (Nat.le_refl _) (Nat.le_refl _), h2.below hb (Nat.le_refl _), h3, h4.trans (hb.mono h4.size)⟩
theorem impl_playBegun (s : St) (e : Ev) (A D : Option Addr) (c d : Nat) (w : World) (hs : Okay s) (hF : Fl w A s.flash) (hD : Row w D (ints s.disk)) :
    Calls Try.prog 40 #[.agg #[.slice A 4 c, .slice D 6 d], .agg #[.int .i64 e.kind, .int .i64 e.a, .int .i64 e.b, .int .i64 e.c, .bool e.torn]] w (PlaysPost (doEv s e) w) := by
  have hB0 : Below w.heap.size w (((w.alloc (.cells #[.slice A 4 c, .slice D 6 d] 28)).alloc (.cells #[.int .i64 e.kind, .int .i64 e.a, .int .i64 e.b, .int .i64 e.c, .bool e.torn] 34)).alloc (.cells #[.slice none 0 0, .slice none 0 0] 28)) := by (repeat (first | (with_reducible exact Below.refl _ _) | (with_reducible assumption) | (refine Below.setCell ?_ (by first | omega | exact hB.size | exact hb.size | (have h := hB.size; simp; omega) | (have h := hb.size; simp; omega) | (simp; omega) | simp) _) | (refine Below.alloc ?_ (by first | omega | exact hB.size | exact hb.size | (have h := hB.size; simp; omega) | (have h := hb.size; simp; omega) | (simp; omega) | simp) _) | (refine Below.drew ?_)))
  have hF0 := hF.below hB0 (Nat.le_refl _)
  have hD0 := hD.below hB0 (Nat.le_refl _)
  have hn4 : 4 = s.flash.length := (flashOk_len hs.flash).symm
  have hm6 : 6 = s.disk.length := hs.len.symm
  have HPA := Lib.hid (impl_playAll s A D c d _ hs hF0 hD0)
  have HPS := Lib.hid (impl_PlaySteps s e A D 4 6 c d _ hn4 hm6 hF0 hD0)
  rw [okSteps_ok hs] at HPS
  have HN4 := Lib.hid hn4
  have HM6 := Lib.hid hm6
  have HS := Lib.hid hs
  have HF := Lib.hid hF
  have HD := Lib.hid hD
  have htr := Lib.hid (toR_event hs e)
  have hev : Hid (doEv s e = if e.kind = 4 then doEvery s else if e.c < 0 then s else doTo s (stepsOf s e) e.c e.torn) := rfl
  have hok := doEv_evt hs e
  have HL4 := Lib.hid (flashOk_len hok.ok.flash)
  have HL6 := Lib.hid hok.ok.len
  have hsl : Hid ((stepsOf s e).length ≤ 8) := stepsOf_len hs.fine e
  clear hs hF hD hF0 hD0 hn4 hm6 hok
  obtain ⟨k, ea, eb, ec, t⟩ := e
  dsimp only at *
  by_cases h4 : k = 4
  · subst h4
    rw [if_pos rfl] at hev
    go_enter Try.func40, Try.ntmps40
    go_wp2_with fail
    with_reducible refine HPA.out.mono ?_
    rintro r w1 ⟨A1, c1, D1, d1, v, rfl, hF1, hD1, hl1, hb⟩
    have hs1 : w.heap.size + 3 ≤ w1.heap.size := by have := hb.size; simpa using this
    obtain ⟨hcc, hff⟩ := bcell hb
    have r0 : w1.cell? ⟨w.heap.size + 1 + 1, 0, none⟩ = some (.slice none 0 0) := (hcc _ _ (by simp)).trans ((top3 w _ _ #[.slice none 0 0, .slice none 0 0] 28).at0 (j := 0) rfl).1
    have r1 : w1.cell? ⟨w.heap.size + 1 + 1, 1, none⟩ = some (.slice none 0 0) := (hcc _ _ (by simp)).trans ((top3 w _ _ #[.slice none 0 0, .slice none 0 0] 28).at0 (j := 1) rfl).1
    have q0 : w1.frozen? ⟨w.heap.size + 1 + 1, 0, none⟩ = false := (hff _ _ (by simp)).trans ((top3 w _ _ #[.slice none 0 0, .slice none 0 0] 28).at0 (j := 0) rfl).2
    have q1 : w1.frozen? ⟨w.heap.size + 1 + 1, 1, none⟩ = false := (hff _ _ (by simp)).trans ((top3 w _ _ #[.slice none 0 0, .slice none 0 0] 28).at0 (j := 1) rfl).2
    have hB1 : Below w.heap.size w w1 := hB0.trans (hb.mono (by simp; omega))
    have hsz : (((w.alloc (.cells #[.slice A 4 c, .slice D 6 d] 28)).alloc (.cells #[.int .i64 4, .int .i64 ea, .int .i64 eb, .int .i64 ec, .bool t] 34)).alloc (.cells #[.slice none 0 0, .slice none 0 0] 28)).heap.size = w.heap.size + 3 := by simp
    rw [hsz] at hF1 hl1
    have hz : w.heap.size + 1 + 1 < w1.heap.size := by omega
    have hk2 : ∀ b, w.heap.size + 3 ≤ b → ((w1.setCell ⟨w.heap.size + 1 + 1, 0, none⟩ (.slice A1 4 c1)).setCell ⟨w.heap.size + 1 + 1, 1, none⟩ (.slice D1 6 d1)).heap[b]? = w1.heap[b]? := fun b hb => by
      rw [Below.heap_setCell _ _ _ _ (show b ≠ w.heap.size + 1 + 1 by omega), Below.heap_setCell _ _ _ _ (show b ≠ w.heap.size + 1 + 1 by omega)]
    clear hcc hff hb hsz
    go_wp2
    refine bodyPost_ret (v := .tuple #[.agg #[.slice A1 4 c1, .slice D1 6 d1], v]) (by simp [results, Try.results40, go_sem, hz, r0, r1]) rfl ⟨A1, c1, D1, d1, v, rfl, ?_, ?_, fun b hb => by have := hl1 b hb; omega, ?_⟩
    · rw [hev.out]
      obtain ⟨hs3, k1, k2⟩ := hF1.keep (fun b hb _ => hk2 b hb)
      exact ⟨hs3, k1, fun b hb => by have := k2 b hb; omega⟩
    · rw [hev.out]
      exact hD1.keep fun b hb _ => hk2 b (hl1 b hb)
    · refine Below.setCell (Below.setCell hB1 ?_ _) ?_ _ <;> (show w.heap.size ≤ w.heap.size + 1 + 1; omega)
  · rw [if_neg h4] at hev
    have h4' : (k == 4) = false := by simpa using h4
    go_enter Try.func40, Try.ntmps40
    go_wp2_with fail
    with_reducible refine HPS.out.mono ?_
    rintro r w1 ⟨v1, rfl, hO, hb⟩
    have hs1 : w.heap.size + 3 ≤ w1.heap.size := by have := hb.size; simpa using this
    obtain ⟨hcc, hff⟩ := bcell hb
    have x0 : w1.cell? ⟨w.heap.size, 0, none⟩ = some (.slice A 4 c) := (hcc _ _ (by simp; omega)).trans (cellP (cellP (by simp) _) _)
    have x1 : w1.cell? ⟨w.heap.size, 1, none⟩ = some (.slice D 6 d) := (hcc _ _ (by simp; omega)).trans (cellP (cellP (by simp) _) _)
    have y3 : w1.cell? ⟨w.heap.size + 1, 3, none⟩ = some (.int .i64 ec) := (hcc _ _ (by simp)).trans (cellP (by simp) _)
    have y4 : w1.cell? ⟨w.heap.size + 1, 4, none⟩ = some (.bool t) := (hcc _ _ (by simp)).trans (cellP (by simp) _)
    have r0 : w1.cell? ⟨w.heap.size + 1 + 1, 0, none⟩ = some (.slice none 0 0) := (hcc _ _ (by simp)).trans ((top3 w _ _ #[.slice none 0 0, .slice none 0 0] 28).at0 (j := 0) rfl).1
    have r1 : w1.cell? ⟨w.heap.size + 1 + 1, 1, none⟩ = some (.slice none 0 0) := (hcc _ _ (by simp)).trans ((top3 w _ _ #[.slice none 0 0, .slice none 0 0] 28).at0 (j := 1) rfl).1
    have q0 : w1.frozen? ⟨w.heap.size + 1 + 1, 0, none⟩ = false := (hff _ _ (by simp)).trans ((top3 w _ _ #[.slice none 0 0, .slice none 0 0] 28).at0 (j := 0) rfl).2
    have q1 : w1.frozen? ⟨w.heap.size + 1 + 1, 1, none⟩ = false := (hff _ _ (by simp)).trans ((top3 w _ _ #[.slice none 0 0, .slice none 0 0] 28).at0 (j := 1) rfl).2
    have hB1 : Below w.heap.size w w1 := hB0.trans (hb.mono (by simp; omega))
    generalize stepsOf s ⟨k, ea, eb, ec, t⟩ = xs at *
    obtain ⟨V, cs, rfl, hcs, hRow, hblk⟩ := hO.shape
    have HTO := Lib.hid (impl_StepsTo s xs ec t A D V 4 6 c d cs w1 HN4.out HM6.out (by have := hsl.out; omega) (HF.out.below hB1 (Nat.le_refl _)) (HD.out.below hB1 (Nat.le_refl _)) hRow)
    rw [htr.out] at HTO
    have HCS := Lib.hid hcs
    clear hcc hff hb hO hRow hblk htr HPA HPS hB0
    go_wp2_with fail
    with_reducible refine HTO.out.mono ?_
    rintro r w2 ⟨A2, c2, D2, d2, rfl, hF2, hD2, hl2, hb2⟩
    have hs2 := hb2.size
    replace x0 := (hb2.cell (p := ⟨w.heap.size, 0, none⟩) (by show w.heap.size < _; omega)).trans x0
    replace x1 := (hb2.cell (p := ⟨w.heap.size, 1, none⟩) (by show w.heap.size < _; omega)).trans x1
    replace y3 := (hb2.cell (p := ⟨w.heap.size + 1, 3, none⟩) (by show w.heap.size + 1 < _; omega)).trans y3
    replace y4 := (hb2.cell (p := ⟨w.heap.size + 1, 4, none⟩) (by show w.heap.size + 1 < _; omega)).trans y4
    replace r0 := (hb2.cell (p := ⟨w.heap.size + 1 + 1, 0, none⟩) (by show w.heap.size + 1 + 1 < _; omega)).trans r0
    replace r1 := (hb2.cell (p := ⟨w.heap.size + 1 + 1, 1, none⟩) (by show w.heap.size + 1 + 1 < _; omega)).trans r1
    replace q0 := (hb2.frozen (p := ⟨w.heap.size + 1 + 1, 0, none⟩) (by show w.heap.size + 1 + 1 < _; omega)).trans q0
    replace q1 := (hb2.frozen (p := ⟨w.heap.size + 1 + 1, 1, none⟩) (by show w.heap.size + 1 + 1 < _; omega)).trans q1
    have hB2 := hB1.trans (hb2.mono hB1.size)
    have z0 : w.heap.size < w2.heap.size := by omega
    have z1 : w.heap.size + 1 < w2.heap.size := by omega
    have z2 : w.heap.size + 1 + 1 < w2.heap.size := by omega
    clear HTO hb2 h4
    have hend : ∀ (w3 : World) (A3 D3 : Option Addr) (c3 d3 lo : Nat) (v : Value) (t' : St), w.heap.size + 3 ≤ lo → Below w.heap.size w w3 → FlAt w3 lo A3 t'.flash → Row w3 D3 (ints t'.disk) → (∀ b, blk D3 b → lo ≤ b) → t' = doEv s ⟨k, ea, eb, ec, t⟩ →
        PlaysPost (doEv s ⟨k, ea, eb, ec, t⟩) w (.returned (.tuple #[.agg #[.slice A3 4 c3, .slice D3 6 d3], v])) ((w3.setCell ⟨w.heap.size + 1 + 1, 0, none⟩ (.slice A3 4 c3)).setCell ⟨w.heap.size + 1 + 1, 1, none⟩ (.slice D3 6 d3)) := fun w3 A3 D3 c3 d3 lo v t' h1 h2 h3 h4 h5 h6 => by
      have hk2 : ∀ b, lo ≤ b → ((w3.setCell ⟨w.heap.size + 1 + 1, 0, none⟩ (.slice A3 4 c3)).setCell ⟨w.heap.size + 1 + 1, 1, none⟩ (.slice D3 6 d3)).heap[b]? = w3.heap[b]? := fun b hb => by
        rw [Below.heap_setCell _ _ _ _ (show b ≠ w.heap.size + 1 + 1 by omega), Below.heap_setCell _ _ _ _ (show b ≠ w.heap.size + 1 + 1 by omega)]
      rw [← h6]
      refine ⟨A3, c3, D3, d3, v, rfl, ?_, h4.keep fun b hb _ => hk2 b (h5 b hb), fun b hb => by have := h5 b hb; omega, ?_⟩
      · obtain ⟨hs3, k1, k2⟩ := h3.keep (fun b hb _ => hk2 b hb)
        exact ⟨hs3, k1, fun b hb => by have := k2 b hb; omega⟩
      · refine Below.setCell (Below.setCell h2 ?_ _) ?_ _ <;> (show w.heap.size ≤ w.heap.size + 1 + 1; omega)
    have HEND := Lib.hid hend
    clear hend
    by_cases hc : ec < 0
    · rw [if_pos hc] at hev
      rw [if_pos hc]
      rw [show ((st0, false) : St × Bool).1.flash.length = 0 from rfl, show ((st0, false) : St × Bool).1.disk.length = 0 from rfl]
      dsimp only
      have HSC := Lib.hid (impl_storeCopy s A D c d _ HS.out.fine ((HF.out.below hB2 (Nat.le_refl _)).alloc (.cells #[.slice A2 0 c2, .slice D2 0 d2] 28)) ((HD.out.below hB2 (Nat.le_refl _)).alloc (.cells #[.slice A2 0 c2, .slice D2 0 d2] 28)))
      clear hF2 hD2 hl2 hc
      go_wp2_with fail
      with_reducible refine HSC.out.mono ?_
      rintro r w3 ⟨g3, d3, rfl, hO3, hb3⟩
      have hs3 : w2.heap.size + 1 ≤ w3.heap.size := by have := hb3.size; simpa using this
      obtain ⟨hcc, hff⟩ := bcell hb3
      replace r0 := (hcc (w.heap.size + 1 + 1) 0 (by simp; omega)).trans (cellP r0 _)
      replace r1 := (hcc (w.heap.size + 1 + 1) 1 (by simp; omega)).trans (cellP r1 _)
      replace q0 := (hff (w.heap.size + 1 + 1) 0 (by simp; omega)).trans (fzP z2 q0 _)
      replace q1 := (hff (w.heap.size + 1 + 1) 1 (by simp; omega)).trans (fzP z2 q1 _)
      have hB3 : Below w.heap.size w w3 := (hB2.alloc hB2.size _).trans (hb3.mono (by simp; omega))
      have hz3 : w.heap.size + 1 + 1 < w3.heap.size := by omega
      obtain ⟨hs5, hBk5, hApt5, hD5, hdb5⟩ := hO3
      have hsz : (w2.alloc (.cells #[.slice A2 0 c2, .slice D2 0 d2] 28)).heap.size = w2.heap.size + 1 := by simp
      rw [hsz] at hApt5 hdb5
      clear hb3 hcc hff HSC
      go_wp2
      refine bodyPost_ret (v := .tuple #[.agg #[.slice (some ⟨g3, 0, none⟩) 4 4, .slice (some ⟨d3, 0, none⟩) 6 6], .slice none 0 0]) (by simp [results, Try.results40, go_sem, hz3, r0, r1]) rfl ?_
      exact HEND.out w3 _ _ 4 6 (w2.heap.size + 1) _ s (by omega) hB3 ⟨hs5, hBk5, fun b hb => (hApt5.fblk hb).1⟩ hD5 (fun b hb => (hdb5 b hb).1) hev.out.symm
    · rw [if_neg hc] at hev hF2 hD2
      rw [if_neg hc]
      have h4f : (doTo s xs ec t).flash.length = 4 := by rw [← hev.out]; exact HL4.out
      have h6f : (doTo s xs ec t).disk.length = 6 := by rw [← hev.out]; exact HL6.out
      rw [show ((doTo s xs ec t, true) : St × Bool).1.flash.length = 4 from h4f, show ((doTo s xs ec t, true) : St × Bool).1.disk.length = 6 from h6f]
      dsimp only at hF2 hD2 ⊢
      obtain ⟨cn, rfl⟩ := Int.eq_ofNat_of_zero_le (show (0 : Int) ≤ ec by omega)
      have hcsl := HCS.out
      have hxl := hsl.out
      have HF2 := Lib.hid hF2
      have HD2 := Lib.hid hD2
      have HLL := Lib.hid hl2
      clear hF2 hD2 hl2 h4f h6f hc
      rcases Nat.lt_trichotomy xs.length cn with hl | hl | hl
      · have hl' : (xs.length : Int) < cn := by omega
        cases t
        · skip
          go_wp2
          go_region
          go_wp2
          refine bodyPost_ret (v := .tuple #[.agg #[.slice A2 4 c2, .slice D2 6 d2], .slice V (xs.length) cs]) (by simp [results, Try.results40, go_sem, z2, r0, r1]) rfl ?_
          exact (HEND.out w2 A2 D2 c2 d2 w1.heap.size _ _ (by omega) hB2 HF2.out HD2.out HLL.out hev.out.symm).more (((Below.refl _ _).alloc (Nat.le_refl _) _).drew)
        · skip
          go_wp2
          go_region
          go_wp2
          refine bodyPost_ret (v := .tuple #[.agg #[.slice A2 4 c2, .slice D2 6 d2], .slice V (xs.length) cs]) (by simp [results, Try.results40, go_sem, z2, r0, r1]) rfl ?_
          exact (HEND.out w2 A2 D2 c2 d2 w1.heap.size _ _ (by omega) hB2 HF2.out HD2.out HLL.out hev.out.symm).more (((Below.refl _ _).alloc (Nat.le_refl _) _).drew)
      · subst hl
        cases t
        · skip
          go_wp2
          go_region
          go_wp2
          refine bodyPost_ret (v := .tuple #[.agg #[.slice A2 4 c2, .slice D2 6 d2], .slice V (xs.length) cs]) (by simp [results, Try.results40, go_sem, z2, r0, r1]) rfl ?_
          exact (HEND.out w2 A2 D2 c2 d2 w1.heap.size _ _ (by omega) hB2 HF2.out HD2.out HLL.out hev.out.symm).more (((Below.refl _ _).alloc (Nat.le_refl _) _).drew)
        · skip
          go_wp2
          go_region
          go_wp2
          refine bodyPost_ret (v := .tuple #[.agg #[.slice A2 4 c2, .slice D2 6 d2], .slice V (xs.length) cs]) (by simp [results, Try.results40, go_sem, z2, r0, r1]) rfl ?_
          exact (HEND.out w2 A2 D2 c2 d2 w1.heap.size _ _ (by omega) hB2 HF2.out HD2.out HLL.out hev.out.symm).more (((Below.refl _ _).alloc (Nat.le_refl _) _).drew)
      · have hl' : (cn : Int) < xs.length := by omega
        have hl2 : ¬ (xs.length : Int) < cn := by omega
        have hl3 : ¬ xs.length < cn := by omega
        have hcn : cn ≤ cs := by omega
        have hcn1 : cn + 1 ≤ cs := by omega
        have e1 : IntKind.i64.wrap ((cn : Int) + 1) = (cn : Int) + 1 := IntWalk.i64_in _ (by omega)
        have e2 : ((cn : Int) + 1).toNat = cn + 1 := by omega
        have e3 : (0 : Int) ≤ (cn : Int) + 1 := by omega
        cases t
        · skip
          go_wp2
          go_region
          go_wp2
          refine bodyPost_ret (v := .tuple #[.agg #[.slice A2 4 c2, .slice D2 6 d2], .slice V (cn) cs]) (by simp [results, Try.results40, go_sem, z2, r0, r1]) rfl ?_
          exact (HEND.out w2 A2 D2 c2 d2 w1.heap.size _ _ (by omega) hB2 HF2.out HD2.out HLL.out hev.out.symm).more (((Below.refl _ _).alloc (Nat.le_refl _) _).drew)
        · skip
          go_wp2
          go_region
          go_wp2
          refine bodyPost_ret (v := .tuple #[.agg #[.slice A2 4 c2, .slice D2 6 d2], .slice V (cn + 1) cs]) (by simp [results, Try.results40, go_sem, z2, r0, r1]) rfl ?_
          exact (HEND.out w2 A2 D2 c2 d2 w1.heap.size _ _ (by omega) hB2 HF2.out HD2.out HLL.out hev.out.symm).more (((Below.refl _ _).alloc (Nat.le_refl _) _).drew)
end Go.Proofs.Ytohkoogmbfaceaa
open Go.RowKit Go.IntWalk Go.Maps
namespace Go.Proofs.Ytohkoogmbfaceaa
set_option linter.unusedVariables false
set_option linter.unusedSimpArgs false
set_option maxHeartbeats 2000000
set_option maxRecDepth 20000
def plDo (s : St) (e : Ev) : St := if storeOk s = true then doEv s e else st0
def DoPost (t : St) (w : World) (e : Ending) (w' : World) : Prop :=
  ∃ A c D d, e = .returned (.agg #[.slice A t.flash.length c, .slice D t.disk.length d]) ∧ FlAt w' w.heap.size A t.flash ∧ Row w' D (ints t.disk) ∧ (∀ b, blk D b → w.heap.size ≤ b) ∧ Below w.heap.size w w'
theorem impl_PlayDo (s : St) (e : Ev) (A D : Option Addr) (n m c d : Nat) (w : World) (hn : n = s.flash.length) (hm : m = s.disk.length) (hF : Fl w A s.flash) (hD : Row w D (ints s.disk)) :
    Calls Try.prog 18 #[.agg #[.slice A n c, .slice D m d], .agg #[.int .i64 e.kind, .int .i64 e.a, .int .i64 e.b, .int .i64 e.c, .bool e.torn]] w (DoPost (plDo s e) w) := by
  have hB0 : Below w.heap.size w (((w.alloc (.cells #[.slice A n c, .slice D m d] 28)).alloc (.cells #[.int .i64 e.kind, .int .i64 e.a, .int .i64 e.b, .int .i64 e.c, .bool e.torn] 34)).alloc (.cells #[.slice none 0 0, .slice none 0 0] 28)) := by (repeat (first | (with_reducible exact Below.refl _ _) | (with_reducible assumption) | (refine Below.setCell ?_ (by first | omega | exact hB.size | exact hb.size | (have h := hB.size; simp; omega) | (have h := hb.size; simp; omega) | (simp; omega) | simp) _) | (refine Below.alloc ?_ (by first | omega | exact hB.size | exact hb.size | (have h := hB.size; simp; omega) | (have h := hb.size; simp; omega) | (simp; omega) | simp) _) | (refine Below.drew ?_)))
  have HSO := Lib.hid (impl_StoreOk s A D n m c d _ hn hm (hF.below hB0 (Nat.le_refl _)) (hD.below hB0 (Nat.le_refl _)))
  have HF := Lib.hid hF
  have HD := Lib.hid hD
  have hfacts : ∀ w1, Below (((w.alloc (.cells #[.slice A n c, .slice D m d] 28)).alloc (.cells #[.int .i64 e.kind, .int .i64 e.a, .int .i64 e.b, .int .i64 e.c, .bool e.torn] 34)).alloc (.cells #[.slice none 0 0, .slice none 0 0] 28)).heap.size (((w.alloc (.cells #[.slice A n c, .slice D m d] 28)).alloc (.cells #[.int .i64 e.kind, .int .i64 e.a, .int .i64 e.b, .int .i64 e.c, .bool e.torn] 34)).alloc (.cells #[.slice none 0 0, .slice none 0 0] 28)) w1 →
      w.heap.size + 3 ≤ w1.heap.size ∧ w1.cell? ⟨w.heap.size, 0, none⟩ = some (.slice A n c) ∧ w1.cell? ⟨w.heap.size, 1, none⟩ = some (.slice D m d) ∧ w1.cell? ⟨w.heap.size + 1, 0, none⟩ = some (.int .i64 e.kind) ∧ w1.cell? ⟨w.heap.size + 1, 1, none⟩ = some (.int .i64 e.a) ∧ w1.cell? ⟨w.heap.size + 1, 2, none⟩ = some (.int .i64 e.b) ∧ w1.cell? ⟨w.heap.size + 1, 3, none⟩ = some (.int .i64 e.c) ∧ w1.cell? ⟨w.heap.size + 1, 4, none⟩ = some (.bool e.torn) ∧
      w1.cell? ⟨w.heap.size + 1 + 1, 0, none⟩ = some (.slice none 0 0) ∧ w1.cell? ⟨w.heap.size + 1 + 1, 1, none⟩ = some (.slice none 0 0) ∧ w1.frozen? ⟨w.heap.size + 1 + 1, 0, none⟩ = false ∧ w1.frozen? ⟨w.heap.size + 1 + 1, 1, none⟩ = false := fun w1 hb => by
    have hs1 : w.heap.size + 3 ≤ w1.heap.size := by have := hb.size; simpa using this
    obtain ⟨hcc, hff⟩ := bcell hb
    exact ⟨hs1, (hcc _ _ (by simp; omega)).trans (cellP (cellP (by simp) _) _), (hcc _ _ (by simp; omega)).trans (cellP (cellP (by simp) _) _), (hcc _ _ (by simp)).trans (cellP (by simp) _), (hcc _ _ (by simp)).trans (cellP (by simp) _), (hcc _ _ (by simp)).trans (cellP (by simp) _), (hcc _ _ (by simp)).trans (cellP (by simp) _), (hcc _ _ (by simp)).trans (cellP (by simp) _),
      (hcc _ _ (by simp)).trans ((top3 w _ _ #[.slice none 0 0, .slice none 0 0] 28).at0 (j := 0) rfl).1, (hcc _ _ (by simp)).trans ((top3 w _ _ #[.slice none 0 0, .slice none 0 0] 28).at0 (j := 1) rfl).1, (hff _ _ (by simp)).trans ((top3 w _ _ #[.slice none 0 0, .slice none 0 0] 28).at0 (j := 0) rfl).2, (hff _ _ (by simp)).trans ((top3 w _ _ #[.slice none 0 0, .slice none 0 0] 28).at0 (j := 1) rfl).2⟩
  have HFA := Lib.hid hfacts
  clear hfacts
  by_cases hok : storeOk s = true
  · have hs := storeOk_iff.1 hok
    have hfin : Hid (plDo s e = doEv s e) := by unfold Hid plDo; rw [if_pos hok]
    obtain rfl : n = 4 := by have := flashOk_len hs.flash; omega
    obtain rfl : m = 6 := by have := hs.len; omega
    have hev := (doEv_evt hs e).ok
    have HL4 := Lib.hid (flashOk_len hev.flash)
    have HL6 := Lib.hid hev.len
    have HS := Lib.hid hs
    rw [hok] at HSO
    clear hok hn hm hF hD hs hev
    go_enter Try.func18, Try.ntmps18
    go_wp2_with fail
    with_reducible refine HSO.out.mono ?_
    rintro r w1 ⟨rfl, hb⟩
    obtain ⟨hs1, x0, x1, y0, y1, y2, y3, y4, r0, r1, q0, q1⟩ := HFA.out w1 hb
    have hB1 : Below w.heap.size w w1 := hB0.trans (hb.mono (by simp; omega))
    have HPB := Lib.hid (impl_playBegun s e A D c d w1 HS.out (HF.out.below hB1 (Nat.le_refl _)) (HD.out.below hB1 (Nat.le_refl _)))
    clear hb HSO HFA hB0
    go_wp2_with fail
    with_reducible refine HPB.out.mono ?_
    rintro r w2 ⟨A2, c2, D2, d2, v, rfl, hF2, hD2, hl2, hb2⟩
    have hs2 := hb2.size
    replace r0 := (hb2.cell (p := ⟨w.heap.size + 1 + 1, 0, none⟩) (by show w.heap.size + 1 + 1 < _; omega)).trans r0
    replace r1 := (hb2.cell (p := ⟨w.heap.size + 1 + 1, 1, none⟩) (by show w.heap.size + 1 + 1 < _; omega)).trans r1
    replace q0 := (hb2.frozen (p := ⟨w.heap.size + 1 + 1, 0, none⟩) (by show w.heap.size + 1 + 1 < _; omega)).trans q0
    replace q1 := (hb2.frozen (p := ⟨w.heap.size + 1 + 1, 1, none⟩) (by show w.heap.size + 1 + 1 < _; omega)).trans q1
    have hB2 := hB1.trans (hb2.mono hB1.size)
    have z2 : w.heap.size + 1 + 1 < w2.heap.size := by omega
    have HF2 := Lib.hid hF2
    have HD2 := Lib.hid hD2
    have HL2 := Lib.hid hl2
    clear hF2 hD2 hl2 hb2 HPB x0 x1 y0 y1 y2 y3 y4
    go_wp2
    have hk2 : ∀ b, w1.heap.size ≤ b → b < w2.heap.size → (((w2.setCell ⟨w.heap.size + 1 + 1, 0, none⟩ (.slice A2 4 c2)).setCell ⟨w.heap.size + 1 + 1, 1, none⟩ (.slice D2 6 d2)).alloc (.cells #[.slice A2 4 c2, .slice D2 6 d2] 28)).heap[b]? = w2.heap[b]? := fun b hb hl => by
      rw [Below.heap_alloc _ _ _ (by simpa using hl), Below.heap_setCell _ _ _ _ (show b ≠ w.heap.size + 1 + 1 by omega), Below.heap_setCell _ _ _ _ (show b ≠ w.heap.size + 1 + 1 by omega)]
    refine bodyPost_ret (v := .agg #[.slice A2 4 c2, .slice D2 6 d2]) (by simp [results, Try.results18, go_sem, z2, r0, r1]) rfl ?_
    rw [hfin.out]
    refine ⟨A2, c2, D2, d2, by rw [HL4.out, HL6.out], ?_, HD2.out.keep fun b hb hl => hk2 b (HL2.out b hb) hl, fun b hb => by have := HL2.out b hb; omega, ?_⟩
    · obtain ⟨hs3, k1, k2⟩ := HF2.out.keep hk2
      exact ⟨hs3, k1, fun b hb => by have := k2 b hb; omega⟩
    · exact ((hB2.setCell (p := ⟨w.heap.size + 1 + 1, 0, none⟩) (by show w.heap.size ≤ w.heap.size + 1 + 1; omega) _).setCell (p := ⟨w.heap.size + 1 + 1, 1, none⟩) (by show w.heap.size ≤ w.heap.size + 1 + 1; omega) _).alloc (by simp; omega) _
  · have hok' : storeOk s = false := by simpa using hok
    have hfin : Hid (plDo s e = st0) := by unfold Hid plDo; rw [if_neg hok]
    rw [hok'] at HSO
    clear hok hok' hn hm hF hD
    go_enter Try.func18, Try.ntmps18
    go_wp2_with (go_at_call 23; (with_reducible refine HSO.out.mono ?_); rintro r w1 ⟨rfl, hb⟩; obtain ⟨hs1, x0, x1, y0, y1, y2, y3, y4, r0, r1, q0, q1⟩ := HFA.out w1 hb)
    have hB1 : Below w.heap.size w w1 := hB0.trans (hb.mono (by simp; omega))
    have z2 : w.heap.size + 1 + 1 < w1.heap.size := by omega
    refine bodyPost_ret (v := .agg #[.slice none 0 0, .slice none 0 0]) (by simp [results, Try.results18, go_sem, z2, r0, r1]) rfl ?_
    rw [hfin.out]
    refine ⟨none, 0, none, 0, rfl, FlAt.nil _ _, Row.nil _ _, (fun b hb => by cases hb), ?_⟩
    refine Below.setCell (Below.setCell hB1 ?_ _) ?_ _ <;> (show w.heap.size ≤ w.heap.size + 1 + 1; omega)
end Go.Proofs.Ytohkoogmbfaceaa
open Go.RowKit Go.IntWalk Go.Maps
namespace Go.Proofs.Ytohkoogmbfaceaa
set_option linter.unusedVariables false
set_option linter.unusedSimpArgs false
set_option maxHeartbeats 2000000
set_option maxRecDepth 20000
def runR (es : List Ev) : St × Bool := if 60 < es.length then (st0, false) else (doRun es, true)
theorem Row.ev {w : World} {b o k : Nat} {xs : List Ev} {x : Ev} (h : Row w (some ⟨b, o, none⟩) (evs xs)) (hk : xs[k]? = some x) :
    w.cell? ⟨b, o + k * 5, none⟩ = some (.int .i64 x.kind) ∧ w.cell? ⟨b, o + k * 5 + 1, none⟩ = some (.int .i64 x.a) ∧ w.cell? ⟨b, o + k * 5 + 2, none⟩ = some (.int .i64 x.b) ∧ w.cell? ⟨b, o + k * 5 + 3, none⟩ = some (.int .i64 x.c) ∧ w.cell? ⟨b, o + k * 5 + 4, none⟩ = some (.bool x.torn) := by
  have hlt := (List.getElem?_eq_some_iff.1 hk).1
  obtain ⟨b', o', he, hc⟩ := h (by intro e; have := evs_len xs; rw [e] at this; simp at this; omega)
  cases he
  have hg : ∀ j u, x.vs[j]? = some u → j < 5 → w.cell? ⟨b, o + (k * 5 + j), none⟩ = some u := fun j u hj hl => (hc (k * 5 + j) u (by rw [evs, flat_get _ 5 (fun _ => rfl) xs k j x hk hl]; exact hj)).1
  exact ⟨hg 0 _ rfl (by omega), hg 1 _ rfl (by omega), hg 2 _ rfl (by omega), hg 3 _ rfl (by omega), hg 4 _ rfl (by omega)⟩
theorem impl_PlayRun (es : List Ev) (V : Option Addr) (cs : Nat) (w : World) (hl : es.length < 1000000000000) (hX : Row w V (evs es)) :
    Calls Try.prog 15 #[.slice V es.length cs] w (ToPost (runR es) w) := by
  by_cases h60 : 60 < es.length
  · have hfin : Hid (runR es = (st0, false)) := by unfold Hid runR; rw [if_pos h60]
    have h60' : (60 : Int) < es.length := by omega
    go_enter Try.func15, Try.ntmps15
    go_wp2
    refine bodyPost_ret (v := .tuple #[.agg #[.slice none 0 0, .slice none 0 0], .bool false]) (by simp [results, Try.results15, go_sem]) rfl ?_
    rw [hfin.out]
    exact ToPost.fail (by (repeat (first | (with_reducible exact Below.refl _ _) | (with_reducible assumption) | (refine Below.setCell ?_ (by first | omega | exact hB.size | exact hb.size | (have h := hB.size; simp; omega) | (have h := hb.size; simp; omega) | (simp; omega) | simp) _) | (refine Below.alloc ?_ (by first | omega | exact hB.size | exact hb.size | (have h := hB.size; simp; omega) | (have h := hb.size; simp; omega) | (simp; omega) | simp) _) | (refine Below.drew ?_))))
  · have hfin : Hid (runR es = (doRun es, true)) := by unfold Hid runR; rw [if_neg h60]
    have h60' : ¬ (60 : Int) < es.length := by omega
    go_enter Try.func15, Try.ntmps15
    go_wp2_with fail
    with_reducible refine (impl_StoreNew _).mono ?_
    rintro e w1 ⟨A0, c0, D0, rfl, hc0, hO, hb1⟩
    have hs1 : w.heap.size + 1 ≤ w1.heap.size := by have := hb1.size; simpa using this
    have hB1 : Below w.heap.size w w1 := ((Below.refl _ _).alloc (Nat.le_refl _) _).trans (hb1.mono (by simp))
    obtain ⟨hcc, hff⟩ := bcell hb1
    have r0 : w1.cell? ⟨w.heap.size, 0, none⟩ = some (.slice none 0 0) := (hcc _ _ (by simp)).trans (by simp)
    have r1 : w1.cell? ⟨w.heap.size, 1, none⟩ = some (.slice none 0 0) := (hcc _ _ (by simp)).trans (by simp)
    have q0 : w1.frozen? ⟨w.heap.size, 0, none⟩ = false := (hff _ _ (by simp)).trans (by simp)
    have q1 : w1.frozen? ⟨w.heap.size, 1, none⟩ = false := (hff _ _ (by simp)).trans (by simp)
    have hbx := BoxSt.new (c := c0) (d := 6) (t := new0) (lo := w.heap.size + 1) (hO.mono (by simp) (Nat.le_refl _))
    have hX1 := hX.below hB1 (Nat.le_refl _)
    clear hO hb1 hcc hff
    go_wp2
    go_loopw [14] (fun i wr => ∃ k : Nat, k ≤ es.length ∧ i = .int .i64 k ∧ BoxSt wr (w.heap.size + 1) w1.heap.size (doRun (es.take k)) ∧ Below w1.heap.size w1 wr ∧ w1.heap.size < wr.heap.size) (fun i _ => es.length - (intOf i).toNat)
    case atStart => exact ⟨0, by omega, rfl, hbx, by (repeat (first | (with_reducible exact Below.refl _ _) | (with_reducible assumption) | (refine Below.setCell ?_ (by first | omega | exact hB.size | exact hb.size | (have h := hB.size; simp; omega) | (have h := hb.size; simp; omega) | (simp; omega) | simp) _) | (refine Below.alloc ?_ (by first | omega | exact hB.size | exact hb.size | (have h := hB.size; simp; omega) | (have h := hb.size; simp; omega) | (simp; omega) | simp) _) | (refine Below.drew ?_))), by simp⟩
    case round =>
      obtain ⟨k, hk, rfl, hBx, hB, hz⟩ := hrel
      clear hbx
      have hbs := hB.size
      have rr0 := (hB.cell (p := ⟨w.heap.size, 0, none⟩) (by show w.heap.size < _; omega)).trans r0
      have rr1 := (hB.cell (p := ⟨w.heap.size, 1, none⟩) (by show w.heap.size < _; omega)).trans r1
      have qq0 := (hB.frozen (p := ⟨w.heap.size, 0, none⟩) (by show w.heap.size < _; omega)).trans q0
      have qq1 := (hB.frozen (p := ⟨w.heap.size, 1, none⟩) (by show w.heap.size < _; omega)).trans q1
      have hBW := hB1.trans (hB.mono hB1.size)
      have HBX := Lib.hid hBx
      obtain ⟨Ao, co, Do, dd, hso, o0, o1, f0, f1, hBk, hne, hDo, hned⟩ := hBx
      by_cases hlt : k < es.length
      · obtain ⟨x, hx⟩ := get_some hlt
        have hXr := hX1.below hB (Nat.le_refl _)
        obtain ⟨vb, vo, rfl⟩ := hXr.addr (by intro e; have := evs_len es; rw [e] at this; simp at this; omega)
        obtain ⟨c0', c1', c2', c3', c4'⟩ := hXr.ev hx
        have hk1 : (k : Int) < es.length := by omega
        have e1 : IntKind.i64.wrap ((k : Int) + 1) = (k : Int) + 1 := IntWalk.i64_in _ (by omega)
        have hsn : Hid (doRun (es.take (k + 1)) = doEv (doRun (es.take k)) x) := by rw [Hid, List.take_add_one, hx]; exact run_snoc _ _
        have hokr := (run_run (es.take k)).ok
        have hev := (doEv_evt hokr x).ok
        have hpl : plDo (doRun (es.take k)) x = doEv (doRun (es.take k)) x := by unfold plDo; rw [if_pos (storeOk_iff.2 hokr)]
        have HPD := Lib.hid (impl_PlayDo (doRun (es.take k)) x Ao Do 4 6 co dd (wr.alloc (.cells #[.int .i64 x.kind, .int .i64 x.a, .int .i64 x.b, .int .i64 x.c, .bool x.torn] 34)) (flashOk_len hokr.flash).symm hokr.len.symm (Fl.alloc ⟨hso, hBk⟩ _) (hDo.alloc _))
        rw [hpl] at HPD
        have HL4 := Lib.hid (flashOk_len hev.flash)
        have HL6 := Lib.hid hev.len
        clear hx hXr hpl hokr hev hBk hDo hne hned
        go_wp2_with fail
        with_reducible refine HPD.out.mono ?_
        rintro e w2 ⟨A2, c2, D2, d2, rfl, hF2, hD2, hl2, hb2⟩
        rw [HL4.out, HL6.out]
        have hB2 : Below wr.heap.size wr w2 := ((Below.refl _ _).alloc (Nat.le_refl _) _).trans (hb2.mono (by simp))
        have hsz : (wr.alloc (.cells #[.int .i64 x.kind, .int .i64 x.a, .int .i64 x.b, .int .i64 x.c, .bool x.torn] 34)).heap.size = wr.heap.size + 1 := by simp
        rw [hsz] at hF2 hl2
        have hX2 := HBX.out.below hB2 (Nat.le_refl _)
        have hs2 := hB2.size
        have hF3 : FlAt w2 (w1.heap.size + 1) A2 (doEv (doRun (es.take k)) x).flash := hF2.below (Below.refl w2.heap.size _) (Nat.le_refl _) (by omega)
        have hX3 := Lib.hid (hX2.put (c := c2) (d := d2) hF3 hD2 (fun b hb => by have := hl2 b hb; omega) (by omega) rfl)
        have hB3 : Below w1.heap.size w1 ((w2.setCell ⟨w1.heap.size, 0, none⟩ (.slice A2 4 c2)).setCell ⟨w1.heap.size, 1, none⟩ (.slice D2 6 d2)) := ((hB.trans (hB2.mono hbs)).setCell (p := ⟨w1.heap.size, 0, none⟩) (Nat.le_refl _) _).setCell (p := ⟨w1.heap.size, 1, none⟩) (Nat.le_refl _) _
        obtain ⟨_, _, _, _, _, p0, p1, p2, p3, _⟩ := hX2
        clear HPD hF2 hF3 hD2 hl2 hb2 HBX
        go_wp2
        go_roundw
        case rel => exact ⟨k + 1, by omega, by go_num, by rw [hsn.out]; exact hX3.out, hB3, by simp; omega⟩
        case measure => simp [intOf]; omega
      · have hki : (es.length : Int) ≤ k := by omega
        have htk : es.take k = es := List.take_of_length_le (by omega)
        have hz7 : w.heap.size < wr.heap.size := by omega
        rw [htk] at hBk hDo
        have hok := (run_run es).ok
        have HB := Lib.hid hBk
        have hzo : w.heap.size + 1 ≤ wr.heap.size := by omega
        clear HBX htk
        go_wp2
        have hk2 : ∀ b, w.heap.size + 1 ≤ b → ((wr.setCell ⟨w.heap.size, 0, none⟩ (.slice Ao 4 co)).setCell ⟨w.heap.size, 1, none⟩ (.slice Do 6 dd)).heap[b]? = wr.heap[b]? := fun b hb => by
          rw [Below.heap_setCell _ _ _ _ (show b ≠ w.heap.size by omega), Below.heap_setCell _ _ _ _ (show b ≠ w.heap.size by omega)]
        refine bodyPost_ret (v := .tuple #[.agg #[.slice Ao 4 co, .slice Do 6 dd], .bool true]) (by simp [results, Try.results15, go_sem, hz7, rr0, rr1]) rfl ?_
        rw [hfin.out]
        refine ⟨Ao, co, Do, dd, by dsimp only; rw [flashOk_len hok.flash, hok.len], ?_, hDo.keep fun b hb _ => hk2 b (hned b hb).1, fun b hb => by have := (hned b hb).1; omega, ?_⟩
        · obtain ⟨hs3, h1, h2⟩ : FlAt _ (w.heap.size + 1) Ao (doRun es).flash := FlAt.keep (w := wr) ⟨hso, hBk, fun b hb => (hne b hb).1⟩ (fun b hb _ => hk2 b hb)
          exact ⟨hs3, h1, fun b hb => by have := h2 b hb; omega⟩
        · exact (hBW.setCell (p := ⟨w.heap.size, 0, none⟩) (Nat.le_refl _) _).setCell (p := ⟨w.heap.size, 1, none⟩) (Nat.le_refl _) _
end Go.Proofs.Ytohkoogmbfaceaa
open Go.RowKit Go.IntWalk Go.Maps
namespace Go.Proofs.Ytohkoogmbfaceaa
set_option linter.unusedVariables false
set_option linter.unusedSimpArgs false
set_option maxHeartbeats 2000000
set_option maxRecDepth 20000
theorem OSt.flAt {w : World} {lo hi : Nat} {A D : Option Addr} {f : List Bk} {xs : List Int} (h : OSt w lo hi A f D xs) : FlAt w lo A f := by
  obtain ⟨hs, hBk, hApt, _, _⟩ := h
  exact ⟨hs, hBk, fun b hb => (hApt.fblk hb).1⟩
theorem OSt.dlo {w : World} {lo hi : Nat} {A D : Option Addr} {f : List Bk} {xs : List Int} (h : OSt w lo hi A f D xs) : ∀ b, blk D b → lo ≤ b ∧ b < hi := by
  obtain ⟨hs, hBk, hApt, _, h⟩ := h
  exact fun b hb => ⟨(h b hb).1, (h b hb).2.1⟩
theorem spec_PlayRun (es : List Ev) (V : Option Addr) (cs : Nat) (w : World) (hl : es.length < 1000000000000) (hX : Row w V (evs es)) :
    Calls Try.prog 16 #[.slice V es.length cs] w (ToPost (runR es) w) := by
  by_cases h60 : 60 < es.length
  · have hfin : Hid (runR es = (st0, false)) := by unfold Hid runR; rw [if_pos h60]
    have h60' : (60 : Int) < es.length := by omega
    go_enter Try.func16, Try.ntmps16
    go_wp2
    refine bodyPost_ret (v := .tuple #[.agg #[.slice none 0 0, .slice none 0 0], .bool false]) (by simp [results, Try.results16, go_sem]) rfl ?_
    rw [hfin.out]
    exact ToPost.fail (by (repeat (first | (with_reducible exact Below.refl _ _) | (with_reducible assumption) | (refine Below.setCell ?_ (by first | omega | exact hB.size | exact hb.size | (have h := hB.size; simp; omega) | (have h := hb.size; simp; omega) | (simp; omega) | simp) _) | (refine Below.alloc ?_ (by first | omega | exact hB.size | exact hb.size | (have h := hB.size; simp; omega) | (have h := hb.size; simp; omega) | (simp; omega) | simp) _) | (refine Below.drew ?_))))
  · have hfin : Hid (runR es = (doRun es, true)) := by unfold Hid runR; rw [if_neg h60]
    have h60' : ¬ (60 : Int) < es.length := by omega
    go_enter Try.func16, Try.ntmps16
    go_wp2_with fail
    with_reducible refine (spec_StoreNew _).mono ?_
    rintro e w1 ⟨A0, c0, D0, rfl, hc0, hO, hb1⟩
    have hs1 : w.heap.size + 1 ≤ w1.heap.size := by have := hb1.size; simpa using this
    have hB1 : Below w.heap.size w w1 := ((Below.refl _ _).alloc (Nat.le_refl _) _).trans (hb1.mono (by simp))
    obtain ⟨hcc, hff⟩ := bcell hb1
    have r0 : w1.cell? ⟨w.heap.size, 0, none⟩ = some (.slice none 0 0) := (hcc _ _ (by simp)).trans (by simp)
    have r1 : w1.cell? ⟨w.heap.size, 1, none⟩ = some (.slice none 0 0) := (hcc _ _ (by simp)).trans (by simp)
    have q0 : w1.frozen? ⟨w.heap.size, 0, none⟩ = false := (hff _ _ (by simp)).trans (by simp)
    have q1 : w1.frozen? ⟨w.heap.size, 1, none⟩ = false := (hff _ _ (by simp)).trans (by simp)
    replace hO : OSt w1 (w.heap.size + 1) w1.heap.size A0 new0.flash D0 new0.disk := hO.mono (by simp) (Nat.le_refl _)
    have hO1 := hO.below (B := w1.heap.size) ((Below.refl _ _).alloc (Nat.le_refl _) (.cells #[.slice A0 4 c0, .slice D0 6 6] 28)) (Nat.le_refl _)
    have hX1 := hX.below hB1 (Nat.le_refl _)
    clear hO hb1 hcc hff
    go_wp2
    go_loopw [5] (fun i wr => ∃ k : Nat, k ≤ es.length ∧ i = .int .i64 k ∧ OSt wr (w.heap.size + 1) w1.heap.size A0 (doRun (es.take k)).flash D0 (doRun (es.take k)).disk ∧ Below w.heap.size w wr ∧ w1.heap.size < wr.heap.size ∧
      (wr.cell? ⟨w.heap.size, 0, none⟩ = some (.slice none 0 0) ∧ wr.cell? ⟨w.heap.size, 1, none⟩ = some (.slice none 0 0) ∧ wr.frozen? ⟨w.heap.size, 0, none⟩ = false ∧ wr.frozen? ⟨w.heap.size, 1, none⟩ = false) ∧
      (wr.cell? ⟨w1.heap.size, 0, none⟩ = some (.slice A0 4 c0) ∧ wr.cell? ⟨w1.heap.size, 1, none⟩ = some (.slice D0 6 6) ∧ wr.frozen? ⟨w1.heap.size, 0, none⟩ = false ∧ wr.frozen? ⟨w1.heap.size, 1, none⟩ = false)) (fun i _ => es.length - (intOf i).toNat)
    case atStart => exact ⟨0, by omega, rfl, hO1, by (repeat (first | (with_reducible exact Below.refl _ _) | (with_reducible assumption) | (refine Below.setCell ?_ (by first | omega | exact hB.size | exact hb.size | (have h := hB.size; simp; omega) | (have h := hb.size; simp; omega) | (simp; omega) | simp) _) | (refine Below.alloc ?_ (by first | omega | exact hB.size | exact hb.size | (have h := hB.size; simp; omega) | (have h := hb.size; simp; omega) | (simp; omega) | simp) _) | (refine Below.drew ?_))), by simp, ⟨cellP r0 _, cellP r1 _, fzP (by omega) q0 _, fzP (by omega) q1 _⟩, by simp⟩
    case round =>
      obtain ⟨k, hk, rfl, hOk, hB, hz, ⟨rr0, rr1, qq0, qq1⟩, ⟨o0, o1, f0, f1⟩⟩ := hrel
      clear hO1 r0 r1 q0 q1
      have hbs := hB.size
      by_cases hlt : k < es.length
      · obtain ⟨x, hx⟩ := get_some hlt
        have hXr := hX.below hB (Nat.le_refl _)
        obtain ⟨vb, vo, rfl⟩ := hXr.addr (by intro e; have := evs_len es; rw [e] at this; simp at this; omega)
        obtain ⟨c0', c1', c2', c3', c4'⟩ := hXr.ev hx
        have hk1 : (k : Int) < es.length := by omega
        have e1 : IntKind.i64.wrap ((k : Int) + 1) = (k : Int) + 1 := IntWalk.i64_in _ (by omega)
        have hsn : Hid (doRun (es.take (k + 1)) = doEv (doRun (es.take k)) x) := by rw [Hid, List.take_add_one, hx]; exact run_snoc _ _
        have hst := (run_run (es.take k)).ok.fine
        clear hx hXr
        go_wp2
        have hle : w1.heap.size ≤ wr.drew.heap.size := by show w1.heap.size ≤ wr.heap.size; omega
        have hn0 : ¬ (w.heap.size + 1 ≤ w1.heap.size ∧ w1.heap.size < w1.heap.size) := by omega
        have hl0 : w1.heap.size < wr.drew.heap.size := by show w1.heap.size < wr.heap.size; omega
        have hOd := hOk.drew
        have g0 : wr.drew.cell? ⟨w1.heap.size, 0, none⟩ = some (.slice A0 4 c0) := o0
        have g1 : wr.drew.cell? ⟨w1.heap.size, 1, none⟩ = some (.slice D0 6 6) := o1
        have g2 : wr.drew.frozen? ⟨w1.heap.size, 0, none⟩ = false := f0
        have g3 : wr.drew.frozen? ⟨w1.heap.size, 1, none⟩ = false := f1
        go_region_with (first | (go_at_call 38; refine (spec_l21Do (doRun (es.take k)) x A0 D0 c0 6 (w.heap.size + 1) w1.heap.size _ hst hle hOd).mono ?_; rintro e w2 ⟨rfl, hO2, hA2⟩; have d0 := (hA2.cell hl0 hn0 0).trans g0; have d1 := (hA2.cell hl0 hn0 1).trans g1; have d2 := (hA2.fz hl0 hn0 0).trans g2; have d3 := (hA2.fz hl0 hn0 1).trans g3))
        all_goals
          have hn1 : ¬ (w.heap.size + 1 ≤ w.heap.size ∧ w.heap.size < w1.heap.size) := by omega
          have hl1 : w.heap.size < wr.drew.heap.size := by show w.heap.size < wr.heap.size; omega
          have p0 := (hA2.cell hl1 hn1 0).trans (show wr.drew.cell? ⟨w.heap.size, 0, none⟩ = some (.slice none 0 0) from rr0)
          have p1 := (hA2.cell hl1 hn1 1).trans (show wr.drew.cell? ⟨w.heap.size, 1, none⟩ = some (.slice none 0 0) from rr1)
          have p2 := (hA2.fz hl1 hn1 0).trans (show wr.drew.frozen? ⟨w.heap.size, 0, none⟩ = false from qq0)
          have p3 := (hA2.fz hl1 hn1 1).trans (show wr.drew.frozen? ⟨w.heap.size, 1, none⟩ = false from qq1)
          have hs2 : wr.heap.size ≤ w2.heap.size := hA2.size
          have hB2 : Below w.heap.size w w2 := hB.drew.trans (hA2.below (B := w.heap.size) (by show w.heap.size ≤ wr.heap.size; omega) (fun i hi => by omega))
          rw [← hsn.out] at hO2
          have hW : Wrote w2 ((w2.setCell ⟨w1.heap.size, 0, none⟩ (.slice A0 4 c0)).setCell ⟨w1.heap.size, 1, none⟩ (.slice D0 6 6)) w1.heap.size 0 [.slice A0 4 c0, .slice D0 6 6] := wrote_setRow w1.heap.size [.slice A0 4 c0, .slice D0 6 6] 0 w2 (fun j hj => by
            match j, hj with
            | 0, _ => exact ⟨_, d0⟩
            | 1, _ => exact ⟨_, d1⟩)
          have hO3 : OSt _ (w.heap.size + 1) w1.heap.size A0 (doRun (es.take (k + 1))).flash D0 (doRun (es.take (k + 1))).disk := hO2.keep fun b h1 h2 _ => hW.block b (by omega)
          have hB3 := hB2.trans (hW.agr.below (B := w.heap.size) (by omega) (fun i hi => by omega))
          have t0 := hW.new_ 0 _ rfl
          have t1 := hW.new_ 1 _ rfl
          have t2 := (hW.frozen ⟨w1.heap.size, 0, none⟩).trans d2
          have t3 := (hW.frozen ⟨w1.heap.size, 1, none⟩).trans d3
          have s0 := (hW.agr.cell (b := w.heap.size) (by omega) (by omega) 0).trans p0
          have s1 := (hW.agr.cell (b := w.heap.size) (by omega) (by omega) 1).trans p1
          have s2 := (hW.frozen ⟨w.heap.size, 0, none⟩).trans p2
          have s3 := (hW.frozen ⟨w.heap.size, 1, none⟩).trans p3
          have hss := hW.size
          clear hW
          go_wp2
          go_roundw
          (case rel => exact ⟨k + 1, by omega, by go_num, hO3, hB3, by omega, ⟨s0, s1, s2, s3⟩, ⟨t0, t1, t2, t3⟩⟩)
          (case measure => simp [intOf]; omega)
      · have hki : (es.length : Int) ≤ k := by omega
        have htk : es.take k = es := List.take_of_length_le (by omega)
        rw [htk] at hOk
        have hok := (run_run es).ok
        have HO := Lib.hid hOk
        clear hOk htk
        go_wp2
        refine bodyPost_ret (v := .tuple #[.agg #[.slice A0 4 c0, .slice D0 6 6], .bool true]) (by simp [results, Try.results16, go_sem, rr0, rr1]) rfl ?_
        rw [hfin.out]
        have hF : Agr (· = w.heap.size) wr ((wr.setCell ⟨w.heap.size, 0, none⟩ (.slice A0 4 c0)).setCell ⟨w.heap.size, 1, none⟩ (.slice D0 6 6)) := Agr.setCell (S := fun b => b = w.heap.size) (Agr.setCell (S := fun b => b = w.heap.size) (Agr.refl _ _) (p := ⟨w.heap.size, 0, none⟩) (.inr rfl) _) (p := ⟨w.heap.size, 1, none⟩) (.inr rfl) _
        have hOf := HO.out.keep (w' := (wr.setCell ⟨w.heap.size, 0, none⟩ (.slice A0 4 c0)).setCell ⟨w.heap.size, 1, none⟩ (.slice D0 6 6)) fun b h1 h2 hl => hF.block b hl (by omega)
        refine ⟨A0, c0, D0, 6, by dsimp only; rw [flashOk_len hok.flash, hok.len], ?_, hOf.disk, fun b hb => by have := hOf.dlo b hb; omega, hB.trans (hF.below (B := w.heap.size) (by omega) (fun i hi => by omega))⟩
        obtain ⟨hs, h1, h2⟩ := hOf.flAt
        exact ⟨hs, h1, fun b hb => by have := h2 b hb; omega⟩
end Go.Proofs.Ytohkoogmbfaceaa
namespace Go.Proofs.Ytohkoogmbfaceaa
set_option linter.unusedVariables false
set_option linter.unusedSimpArgs false
open Go.RowKit Go.Maps
set_option maxHeartbeats 400000
def slLen : Value → Nat
  | .slice _ n _ => n
  | _ => 0
theorem OwnE.out {w : World} {base : Nat} {v : Value} {xs : List Ev} (h : OwnE w base v xs) : ∃ A c, v = .slice A xs.length c ∧ Row w A (evs xs) ∧ (∀ b, blk A b → base ≤ b ∧ b < w.heap.size) ∧ xs.length ≤ c := by
  have h' := h
  obtain ⟨hl, ⟨hv, hz⟩ | ⟨g, cap, cur, hv, hb, hh, hnc, hm, hs, ht⟩⟩ := h
  · have hxs : xs = [] := List.eq_nil_of_length_eq_zero hz
    subst hxs
    exact ⟨none, 0, hv, Row.nil _ _, (fun b hb => by cases hb), Nat.le_refl _⟩
  · refine ⟨some ⟨g, 0, none⟩, cap, hv, ?_, fun b hb' => ?_, hnc⟩
    · unfold OwnE at h'; rw [hv] at h'; exact Row.of_own h'
    · rw [blk_some] at hb'
      subst hb'
      exact ⟨hb, (Array.getElem?_eq_some_iff.1 hh).1⟩
/-- what a drawn play answers -/
def DrawnEv (w : World) (e : Ending) (w' : World) : Prop :=
  ∃ (v : Value) (es : List Ev), e = .returned v ∧ OwnE w' w.heap.size v es ∧ es.length ≤ 61 ∧ (∀ x ∈ es, evFine x) ∧ Below w.heap.size w w'
set_option maxHeartbeats 4000000 in
set_option maxRecDepth 100000 in
theorem spec_DrawPlayRun (A : Option Addr) (bs : List Nat) (c : Nat) (w : World) (hc : Code w A bs c) :
    Calls Try.prog 14 #[.slice A bs.length c] w (DrawnEv w) := by
  obtain ⟨ib, hib, hbz0, hbz1, hbz2⟩ := info_parts Try.info3_event
  go_enter Try.func14, Try.ntmps14
  go_wp2_with fail
  refine (spec_l6Open A bs c _ hc.len hc.cap hc.byte hc.row).mono ?_
  rintro e w1 ⟨rfl, hR1, hb1⟩
  have hs1 := hb1.size
  have hRl := hR1.lt
  go_wp2_with fail
  refine (spec_l71Play _ _ 0 _ (by omega) hR1).mono ?_
  rintro e w2 ⟨v, A2, D2, c2, lo, hi, s, xs, rfl, hlo, hhi, hc2, hO, hst, hE, hxl, hxf, hR2, hA2⟩
  have hs2 := hA2.size
  have hlt : lo < hi := by
    obtain ⟨db, dO, rfl⟩ := hO.disk.addr (by intro e; have h1 := ints_len s.disk; rw [e] at h1; have h2 := hst.2.1; simp at h1; omega)
    obtain ⟨hs, _, _, _, h⟩ := hO
    have := h db (blk_some.2 rfl)
    omega
  have hE2 : OwnE w2 (w.heap.size + 1) v xs := hE.mono (by omega)
  have hB2 := hb1.trans (hA2.below (B := w.heap.size) (by omega) (fun i hi => by omega))
  have HX := Lib.hid hxf
  clear hE hO hst hA2 hb1 hxf
  obtain ⟨W2, hW2⟩ : ∃ W, W = w2.alloc (.cells #[.slice A2 4 c2, .slice D2 6 6] 28) := ⟨_, rfl⟩
  have hBW : Below w2.heap.size w2 W2 := by rw [hW2]; (repeat (first | (with_reducible exact Below.refl _ _) | (with_reducible assumption) | (refine Below.setCell ?_ (by first | omega | exact hB.size | exact hb.size | (have h := hB.size; simp; omega) | (have h := hb.size; simp; omega) | (simp; omega) | simp) _) | (refine Below.alloc ?_ (by first | omega | exact hB.size | exact hb.size | (have h := hB.size; simp; omega) | (have h := hb.size; simp; omega) | (simp; omega) | simp) _) | (refine Below.drew ?_)))
  have hsW := hBW.size
  have hR3 := hR2.below hBW (Nat.le_refl _)
  have hE3 := hE2.below hBW (Nat.le_refl _)
  have hB3 := hB2.trans (hBW.mono (by omega))
  have HW2 := Lib.hid hW2
  clear hBW hW2 hR2 hE2 hB2
  go_wp2_with fail
  rw [← HW2.out]
  refine (spec_pickI 40 40 _ _ (0 + 500) _ rfl (by omega) (by omega) (by omega) hR3).mono ?_
  rintro e w3 ⟨k, rfl, hk, hR4, hA4⟩
  have hs3 := hA4.size
  have hE4 : OwnE w3 (w.heap.size + 1) v xs := hE3.agr hA4 (by intro b h1 h2; omega)
  have hB4 := hB3.trans (hA4.below (B := w.heap.size) (by omega) (fun i hi => by omega))
  clear hA4 hB3 hE3 hR3
  by_cases hk0 : k = 0
  · subst hk0
    go_wp2
    go_loopw [4] (fun t wr => ∃ (p : Nat) (ys : List Ev), OwnE wr (w.heap.size + 1) t ys ∧ ys.length ≤ 61 ∧ Hid (∀ x ∈ ys, evFine x) ∧ Rd wr w.heap.size w.heap.size p ∧ p + 7 * (61 - ys.length) ≤ 1000 ∧ Below w.heap.size w wr ∧ w.heap.size + 1 ≤ wr.heap.size) (fun t _ => 61 - slLen t)
    case atStart => exact ⟨0 + 500 + 1, xs, hE4, by omega, HX, hR4, by omega, hB4, by omega⟩
    case round =>
      obtain ⟨p, ys, hEk, hyl, hY, hRk, hp, hBk, hsk⟩ := hrel
      clear hE4 hR4 hB4
      obtain ⟨Av, cv, rfl, hRow, hbk, hcv⟩ := hEk.out
      clear hRow hbk
      by_cases hlt : ys.length ≤ 60
      · have hlt' : (ys.length : Int) ≤ 60 := by omega
        go_wp2_with fail
        refine (spec_l71Event _ _ p _ (by omega) hRk).mono ?_
        rintro e w4 ⟨x, rfl, hx, hR5, hA5⟩
        have hs5 := hA5.size
        have hE5 : OwnE w4 (w.heap.size + 1) (.slice Av ys.length cv) ys := hEk.agr hA5 (by intro b h1 h2; omega)
        have hB5 := hBk.trans (hA5.below (B := w.heap.size) (by omega) (fun i hi => by omega))
        have hE6 := hE5.alloc (.cells #[.int .i64 x.kind, .int .i64 x.a, .int .i64 x.b, .int .i64 x.c, .bool x.torn] 34)
        have hR6 := hR5.alloc (.cells #[.int .i64 x.kind, .int .i64 x.a, .int .i64 x.b, .int .i64 x.c, .bool x.torn] 34)
        have hnews : ∀ j u, x.vs[j]? = some u → (w4.alloc (.cells #[.int .i64 x.kind, .int .i64 x.a, .int .i64 x.b, .int .i64 x.c, .bool x.torn] 34)).cell? ((⟨w4.heap.size, 0, none⟩ : Addr).add j) = some u := (Row.new w4 #[.int .i64 x.kind, .int .i64 x.a, .int .i64 x.b, .int .i64 x.c, .bool x.torn] 34).news
        have hY2 := Lib.hid (show ∀ y ∈ ys ++ [x], evFine y from fun y hy => by
          rcases List.mem_append.1 hy with hy | hy
          · exact hY.out y hy
          · rw [List.mem_singleton] at hy; subst hy; exact hx)
        have hQ : ∀ q, (Value.slice Av ys.length cv).ownBlock = some q → w.heap.size + 1 ≤ q ∧ q < w4.heap.size := fun q e => World.ownsRow.lt hE5 q e
        clear hEk hRk hA5 hx hE5 hR5 hY
        go_wp2_with (at_builtin; refine wpList_append_lies _ rfl (.tmp 19) (.tmp 22) _ rfl (w.heap.size + 1) 34 ib _ 5 40 Try.underlying23 hib hbz0 hbz1 hbz2 rfl (by omega) (.slice Av ys.length cv) ys.length (evs ys) rfl hE6 ⟨w4.heap.size, 0, none⟩ 1 1 x.vs rfl rfl hnews (by simp [Value.oneCell', Ev.vs]) (by omega) (by unfold maxLen; omega) (by omega) (by simp; omega) (w4.heap.size + 1) (by simp) ?_; intro g2 c2 w7 hown2 hgrow2 hat2 hlt2)
        have hAg := (Agr.refl (fun b => (Value.slice Av ys.length cv).ownBlock = some b) _).grown hgrow2 (fun g hg => .inr hg)
        have hR7 : Rd w7 w.heap.size w.heap.size (p + 7) := hR6.agr hAg (fun e => by have := hQ _ e; omega) (fun b hb e => by have := hQ _ e; omega)
        have hz6 : (w4.alloc (.cells #[.int .i64 x.kind, .int .i64 x.a, .int .i64 x.b, .int .i64 x.c, .bool x.torn] 34)).heap.size = w4.heap.size + 1 := by simp
        have hB6 : Below w.heap.size w (w4.alloc (.cells #[.int .i64 x.kind, .int .i64 x.a, .int .i64 x.b, .int .i64 x.c, .bool x.torn] 34)) := hB5.alloc (by omega) _
        have hB7 := hB6.trans (hAg.below (B := w.heap.size) (by omega) (fun b hb => by have := hQ _ hb; omega))
        have hs7 := hAg.size
        have hE7 : OwnE w7 (w.heap.size + 1) (.slice (some ⟨g2, 0, none⟩) (ys.length + 1) c2) (ys ++ [x]) := OwnE.snoc rfl hown2
        clear hAg hB6 hB5 hE6 hR6 hnews hQ hown2 hgrow2 hat2
        go_wp2
        go_roundw
        (case rel => exact ⟨p + 7, ys ++ [x], hE7, by rw [List.length_append]; simp only [List.length_cons, List.length_nil]; omega, hY2, hR7, by rw [List.length_append]; simp only [List.length_cons, List.length_nil]; omega, hB7, by omega⟩)
        (case measure => simp [slLen]; omega)
      · have hlt' : ¬ (ys.length : Int) ≤ 60 := by omega
        go_wp2
        go_ret
        exact ⟨_, ys, rfl, hEk.mono (by omega), hyl, hY.out, hBk⟩
  · have hk1 : ¬ ((k : Int) = 0) := by omega
    have hk2 : ((k : Int) == 0) = false := by simpa using hk1
    go_wp2
    go_ret
    exact ⟨_, xs, rfl, hE4.mono (by omega), by omega, HX.out, hB4⟩
end Go.Proofs.Ytohkoogmbfaceaa
namespace Go.Proofs.Ytohkoogmbfaceaa
set_option linter.unusedVariables false
set_option linter.unusedSimpArgs false
/-- what cannot be changes nothing -/
theorem doEv_idle {s : St} {e : Ev} (h4 : e.kind ≠ 4) (h : stepsOf s e = []) : doEv s e = s := by
  unfold doEv
  rw [if_neg h4, h, doTo_nil]
  split <;> rfl
theorem doEv_zero {s : St} {e : Ev} (h4 : e.kind ≠ 4) (hc : e.c = 0) (ht : e.torn = false) : doEv s e = s := by
  unfold doEv doTo
  rw [if_neg h4, if_neg (by omega), ht, if_neg (by simp), hc]
  rfl
theorem idle_kind (s : St) : doEv s ⟨5, 1, 0, 9, false⟩ = s := doEv_idle (by decide) (by unfold stepsOf; rw [if_neg (by decide), if_neg (by decide), if_neg (by decide)])
theorem idle_wr {s : St} {a v : Int} (h : ¬ ((1 ≤ a ∧ a ≤ 6) ∧ 0 ≤ v ∧ v ≤ 9)) : wr s.flash 1 a v = [] := by
  by_cases hw : wr s.flash 1 a v = []
  · exact hw
  · exact absurd (recOk_mk.1 (wr_iff.1 hw).2).2.2 h
theorem idle_addr (s : St) : doEv s ⟨1, 7, 0, 9, false⟩ = s := doEv_idle (by decide) (by unfold stepsOf; rw [if_pos rfl]; exact idle_wr (by decide))
theorem idle_val (s : St) : doEv s ⟨1, 1, 10, 9, false⟩ = s := doEv_idle (by decide) (by unfold stepsOf; rw [if_pos rfl]; exact idle_wr (by decide))
theorem idle_cut (s : St) : doEv s ⟨1, 1, 1, 0, false⟩ = s := doEv_zero (by decide) rfl rfl
theorem idle_flush (s : St) : doEv s ⟨2, 0, 0, 9, false⟩ = s := doEv_idle (by decide) (by
  unfold stepsOf
  rw [if_neg (by decide), if_pos rfl]
  by_cases hw : flush s 0 = []
  · exact hw
  · exact absurd (flush_parts hw).1 (by decide))
/-- the beginning -/
theorem new_read {a : Int} (a1 : 1 ≤ a) (a2 : a ≤ 6) : readV new0 a = 0 ∧ dk new0 a = 0 := by
  have hd : dk new0 a = 0 := by
    have : a = 1 ∨ a = 2 ∨ a = 3 ∨ a = 4 ∨ a = 5 ∨ a = 6 := by omega
    rcases this with rfl | rfl | rfl | rfl | rfl | rfl <;> rfl
  refine ⟨?_, hd⟩
  rw [readV_dk, show new0.flash = flashNew from rfl, last_new, if_neg (by decide)]
  exact hd
/-- what was never put -/
def isPut (a : Int) (e : Ev) : Bool := decide (e.kind = 1) && decide (e.a = a)
theorem isPut_iff {a : Int} {e : Ev} : isPut a e = true ↔ e.kind = 1 ∧ e.a = a := by unfold isPut; simp
theorem run_none {es : List Ev} {a : Int} (a1 : 1 ≤ a) (a2 : a ≤ 6) : es.any (isPut a) = false → readV (doRun es) a = 0 ∧ dk (doRun es) a = 0 := by
  refine snoc_ind (p := fun es => es.any (isPut a) = false → readV (doRun es) a = 0 ∧ dk (doRun es) a = 0) (fun _ => new_read a1 a2) (fun l e ih h => ?_) es
  rw [List.any_append] at h
  simp only [Bool.or_eq_false_iff, List.any_cons, List.any_nil, Bool.or_false] at h
  obtain ⟨i1, i2⟩ := ih h.1
  rw [run_snoc]
  have k := doEv_evt (run_run l).ok e
  constructor
  · rcases k.vals a a1 a2 with h1 | ⟨h1, _, h2, _⟩
    · rw [h1, i1]
    · rw [isPut_iff.2 ⟨h1, h2.symm⟩] at h; exact absurd h.2 (by decide)
  · rcases k.dsk a a1 a2 with h1 | h1
    · rw [h1, i2]
    · rw [h1, i1]
/-- the slow disk has what was put -/
def isPutV (a v : Int) (e : Ev) : Bool := decide (e.kind = 1) && (decide (e.a = a) && decide (e.b = v))
theorem isPutV_iff {a v : Int} {e : Ev} : isPutV a v e = true ↔ e.kind = 1 ∧ e.a = a ∧ e.b = v := by unfold isPutV; simp
def wasPut (es : List Ev) (a v : Int) : Prop := v = 0 ∨ es.any (isPutV a v) = true
theorem wasPut.more {es : List Ev} {a v : Int} (h : wasPut es a v) (e : Ev) : wasPut (es ++ [e]) a v := by
  rcases h with h | h
  · exact .inl h
  · exact .inr (by rw [List.any_append, h]; rfl)
theorem run_disk {es : List Ev} {a : Int} (a1 : 1 ≤ a) (a2 : a ≤ 6) : wasPut es a (readV (doRun es) a) ∧ wasPut es a (dk (doRun es) a) := by
  refine snoc_ind (p := fun es => wasPut es a (readV (doRun es) a) ∧ wasPut es a (dk (doRun es) a)) ⟨.inl (new_read a1 a2).1, .inl (new_read a1 a2).2⟩ (fun l e ih => ?_) es
  rw [run_snoc]
  have k := doEv_evt (run_run l).ok e
  constructor
  · rcases k.vals a a1 a2 with h1 | ⟨h1, _, h2, h3⟩
    · rw [h1]; exact ih.1.more e
    · refine .inr ?_
      rw [List.any_append, List.any_cons, h3, isPutV_iff.2 ⟨h1, h2.symm, rfl⟩, Bool.true_or, Bool.or_true]
  · rcases k.dsk a a1 a2 with h1 | h1
    · rw [h1]; exact ih.2.more e
    · rw [h1]; exact ih.1.more e
/-- what is read is read again -/
def stayStep (a : Int) (s : St) (e : Ev) : St := if isPut a e = true then s else doEv s e
theorem stay_step {s : St} (h : Okay s) {a : Int} (a1 : 1 ≤ a) (a2 : a ≤ 6) (e : Ev) : Okay (stayStep a s e) ∧ readV (stayStep a s e) a = readV s a := by
  unfold stayStep
  split
  · exact ⟨h, rfl⟩
  · rename_i hp
    have k := doEv_evt h e
    refine ⟨k.ok, ?_⟩
    rcases k.vals a a1 a2 with h1 | ⟨h1, _, h2, _⟩
    · exact h1
    · exact absurd (isPut_iff.2 ⟨h1, h2.symm⟩) hp
theorem stay_all {a : Int} (a1 : 1 ≤ a) (a2 : a ≤ 6) : ∀ (es : List Ev) {s : St}, Okay s → Okay (es.foldl (stayStep a) s) ∧ readV (es.foldl (stayStep a) s) a = readV s a
  | [], s, h => ⟨h, rfl⟩
  | e :: es, s, h => by
    obtain ⟨h1, h2⟩ := stay_step h a1 a2 e
    obtain ⟨h3, h4⟩ := stay_all a1 a2 es h1
    exact ⟨h3, h4.trans h2⟩
/-- one can put again and again -/
def putEv (m k : Nat) : Ev := ⟨1, 1 + ((k : Int) + m) % 6, ((k : Int) * 3 + m) % 10, 60, false⟩
def putMany (s : St) (m : Nat) : Nat → St
  | 0 => s
  | k + 1 => doEv (putMany s m k) (putEv m k)
theorem putMany_run {n : Nat} {s : St} (h : Run n s) (m : Nat) : ∀ k, Run (n + k) (putMany s m k)
  | 0 => h
  | k + 1 => (putMany_run h m k).step _
theorem putMany_read {n : Nat} {s : St} (h : Run n s) (hn : n ≤ 60) (m k : Nat) (hk : k < 21) : readV (putMany s m (k + 1)) (1 + ((k : Int) + m) % 6) = ((k : Int) * 3 + m) % 10 := by
  have hr := putMany_run h m k
  have hs := hr.small (by omega)
  exact (doEv_evt hr.ok (putEv m k)).full rfl (by unfold putEv; dsimp only; omega) (by unfold putEv; dsimp only; omega) (by unfold putEv; dsimp only; omega) hs.1 hs.2.1
/-- whole events -/
def wholeEv (e : Ev) : Ev := { e with c := 60, torn := false }
theorem full_run {l : List Ev} (hl : l.length ≤ 60) {e : Ev} (hf : evFine e) (hk : e.kind = 1) : readV (doEv (doRun l) (wholeEv e)) e.a = e.b := by
  have hs := (run_run l).small (by omega)
  exact (doEv_evt (run_run l).ok (wholeEv e)).full hk (by unfold wholeEv; dsimp only; omega) hf.2.1 hf.2.2.1 hs.1 hs.2.1
theorem other_run {l : List Ev} {e : Ev} {a : Int} (a1 : 1 ≤ a) (a2 : a ≤ 6) (h : ¬ (e.kind = 1 ∧ e.a = a)) : readV (doEv (doRun l) e) a = readV (doRun l) a := by
  rcases (doEv_evt (run_run l).ok e).vals a a1 a2 with h1 | ⟨h1, _, h2, _⟩
  · exact h1
  · exact absurd ⟨h1, h2.symm⟩ h
theorem run_alone {a : Int} (a1 : 1 ≤ a) (a2 : a ≤ 6) {p : Ev → Bool} (hp : ∀ e, p (wholeEv e) = false → ¬ (e.kind = 1 ∧ e.a = a)) (es : List Ev) : es.length ≤ 60 → (∀ e ∈ es, evFine e) →
    readV (doRun (es.map wholeEv)) a = readV (doRun ((es.map wholeEv).filter p)) a := by
  refine snoc_ind (p := fun es => es.length ≤ 60 → (∀ e ∈ es, evFine e) → readV (doRun (es.map wholeEv)) a = readV (doRun ((es.map wholeEv).filter p)) a) (fun _ _ => rfl) (fun l e ih hl hf => ?_) es
  rw [List.length_append] at hl
  simp only [List.length_cons, List.length_nil] at hl
  have h1 := ih (by omega) (fun x hx => hf x (List.mem_append_left _ hx))
  have hfe := hf e (List.mem_append_right _ (List.mem_singleton_self _))
  have hlm : (l.map wholeEv).length ≤ 60 := by rw [List.length_map]; omega
  have hlf : ((l.map wholeEv).filter p).length ≤ 60 := Nat.le_trans (List.length_filter_le _ _) hlm
  rw [List.map_append, List.map_cons, List.map_nil, List.filter_append, run_snoc]
  by_cases hput : e.kind = 1 ∧ e.a = a
  · have hpe : p (wholeEv e) = true := by
      by_cases h : p (wholeEv e) = true
      · exact h
      · exact absurd hput (hp e (by simpa using h))
    rw [List.filter_cons_of_pos hpe, List.filter_nil, run_snoc]
    rw [← hput.2, full_run hlm hfe hput.1, full_run hlf hfe hput.1]
  · have o1 := other_run (l := l.map wholeEv) (e := wholeEv e) a1 a2 hput
    rw [o1, h1]
    by_cases hpe : p (wholeEv e) = true
    · rw [List.filter_cons_of_pos hpe, List.filter_nil, run_snoc, other_run a1 a2 (e := wholeEv e) hput]
    · rw [List.filter_cons_of_neg (by simpa using hpe), List.filter_nil, List.append_nil]
/-- a page that is torn is nothing to who reads -/
def lessB (e : Ev) : Bool := decide (e.c ≠ 0) || decide (e.kind = 4)
theorem run_torn (es : List Ev) : es.length ≤ 60 → (∀ e ∈ es, evFine e) → (∀ e ∈ es.filter lessB, ¬ (e.c < 6 ∧ e.kind = 1)) → Same (doRun (es.filter lessB)) (doRun es) := by
  refine snoc_ind (p := fun es => es.length ≤ 60 → (∀ e ∈ es, evFine e) → (∀ e ∈ es.filter lessB, ¬ (e.c < 6 ∧ e.kind = 1)) → Same (doRun (es.filter lessB)) (doRun es)) (fun _ _ _ => Same.refl _) (fun l e ih hl hf hc => ?_) es
  rw [List.length_append] at hl
  simp only [List.length_cons, List.length_nil] at hl
  rw [List.filter_append] at hc ⊢
  have h1 := ih (by omega) (fun x hx => hf x (List.mem_append_left _ hx)) (fun x hx => hc x (List.mem_append_left _ hx))
  have hfe := hf e (List.mem_append_right _ (List.mem_singleton_self _))
  have hlf : (l.filter lessB).length ≤ 60 := Nat.le_trans (List.length_filter_le _ _) (by omega)
  rw [run_snoc]
  have k := doEv_evt (run_run l).ok e
  by_cases hb : lessB e = true
  · rw [List.filter_cons_of_pos hb, List.filter_nil] at hc ⊢
    rw [run_snoc]
    have hce := hc e (List.mem_append_right _ (List.mem_singleton_self _))
    intro a a1 a2
    by_cases hput : e.kind = 1 ∧ e.a = a
    · have h6 : 6 ≤ e.c := by have := hput.1; omega
      have s1 := (run_run l).small (by omega)
      have s2 := (run_run (l.filter lessB)).small (by omega)
      rw [← hput.2, k.full hput.1 h6 hfe.2.1 hfe.2.2.1 s1.1 s1.2.1, (doEv_evt (run_run (l.filter lessB)).ok e).full hput.1 h6 hfe.2.1 hfe.2.2.1 s2.1 s2.2.1]
    · rw [other_run a1 a2 hput, other_run a1 a2 hput]
      exact h1 a a1 a2
  · rw [List.filter_cons_of_neg hb, List.filter_nil, List.append_nil]
    unfold lessB at hb
    simp only [Bool.or_eq_true, decide_eq_true_iff, not_or, ne_eq, Decidable.not_not] at hb
    exact h1.trans (k.zero hb.2 (by omega))
/-- nothing that was put is lost -/
def canStep (a : Int) (l : List Int) (e : Ev) : List Int := if e.kind ≠ 1 ∨ e.a ≠ a ∨ e.c < 0 then l else (if 6 ≤ e.c then [] else l) ++ [e.b]
theorem run_can {a : Int} (a1 : 1 ≤ a) (a2 : a ≤ 6) (es : List Ev) : es.length ≤ 60 → (∀ e ∈ es, evFine e) → readV (doRun es) a ∈ es.foldl (canStep a) [0] := by
  refine snoc_ind (p := fun es => es.length ≤ 60 → (∀ e ∈ es, evFine e) → readV (doRun es) a ∈ es.foldl (canStep a) [0]) (fun _ _ => ?_) (fun l e ih hl hf => ?_) es
  · rw [show doRun [] = new0 from rfl, (new_read a1 a2).1]; exact List.mem_singleton_self _
  · rw [List.length_append] at hl
    simp only [List.length_cons, List.length_nil] at hl
    have h1 := ih (by omega) (fun x hx => hf x (List.mem_append_left _ hx))
    have hfe := hf e (List.mem_append_right _ (List.mem_singleton_self _))
    rw [run_snoc, List.foldl_append, List.foldl_cons, List.foldl_nil]
    unfold canStep
    split
    · rename_i hc
      rcases (doEv_evt (run_run l).ok e).vals a a1 a2 with g | ⟨g1, g2, g3, _⟩
      · rw [g]; exact h1
      · rcases hc with hc | hc | hc
        · exact absurd g1 hc
        · exact absurd g3.symm hc
        · omega
    · rename_i hc
      have hc1 : e.kind = 1 := by
        by_cases h : e.kind = 1
        · exact h
        · exact absurd (.inl h) hc
      have hc2 : e.a = a := by
        by_cases h : e.a = a
        · exact h
        · exact absurd (.inr (.inl h)) hc
      by_cases h6 : 6 ≤ e.c
      · have s1 := (run_run l).small (by omega)
        rw [if_pos h6, ← hc2, (doEv_evt (run_run l).ok e).full hc1 h6 hfe.2.1 hfe.2.2.1 s1.1 s1.2.1]
        exact List.mem_append_right _ (List.mem_singleton_self _)
      · rw [if_neg h6]
        rcases (doEv_evt (run_run l).ok e).vals a a1 a2 with g | ⟨_, _, _, g⟩
        · rw [g]; exact List.mem_append_left _ h1
        · rw [g]; exact List.mem_append_right _ (List.mem_singleton_self _)
/-- told all, the slow disk has all -/
def evAll : Ev := ⟨4, 0, 0, 0, false⟩
theorem allV_eq (s : St) : allV s = [readV s 1, readV s 2, readV s 3, readV s 4, readV s 5, readV s 6] := rfl
theorem allV_same {s t : St} (h : Same s t) : allV t = allV s := by
  rw [allV_eq, allV_eq, h 1 (by decide) (by decide), h 2 (by decide) (by decide), h 3 (by decide) (by decide), h 4 (by decide) (by decide), h 5 (by decide) (by decide), h 6 (by decide) (by decide)]
theorem disk_eq {s : St} (h : s.disk.length = 6) : s.disk = [dk s 1, dk s 2, dk s 3, dk s 4, dk s 5, dk s 6] := by
  unfold dk
  match hd : s.disk, h with
  | [a, b, c, d, e, f], _ => rfl
theorem dirtyTo_no {f : List Bk} (h : ∀ a : Int, 1 ≤ a → a ≤ 6 → dirty f a = false) : ∀ k, k ≤ 6 → dirtyTo f k = []
  | 0, _ => rfl
  | k + 1, hk => by
    unfold dirtyTo
    rw [if_neg (by rw [h _ (by omega) (by omega)]; decide)]
    exact dirtyTo_no h k (by omega)
theorem doFlush_no {s : St} {a : Int} (h : dirty s.flash a = false) : doFlush s a = s := by
  have : flush s a = [] := by
    by_cases hf : flush s a = []
    · exact hf
    · have := (flush_parts hf).2.1; rw [h] at this; cases this
  unfold doFlush
  rw [this, doTo_nil]
theorem doEvery_no {s : St} (h : ∀ a : Int, 1 ≤ a → a ≤ 6 → dirty s.flash a = false) : doEvery s = s := by
  unfold doEvery
  simp only [List.foldl_cons, List.foldl_nil]
  rw [doFlush_no (h 1 (by decide) (by decide)), doFlush_no (h 2 (by decide) (by decide)), doFlush_no (h 3 (by decide) (by decide)), doFlush_no (h 4 (by decide) (by decide)), doFlush_no (h 5 (by decide) (by decide)), doFlush_no (h 6 (by decide) (by decide))]
structure AllTold (s t : St) : Prop where
  ok : Okay t
  none : dirtyL t = []
  disk : t.disk = allV t
  same : allV t = allV s
  again : doEv t evAll = t
theorem all_told {n : Nat} {s : St} (h : Run n s) (hn : n ≤ 99) : AllTold s (doEv s evAll) := by
  have hs := h.small hn
  have k := doEv_evt h.ok evAll
  have hd := k.all rfl hs.2.2.1 hs.2.2.2
  refine ⟨k.ok, ?_, ?_, allV_same fun a a1 a2 => ?_, ?_⟩
  · unfold dirtyL
    rw [if_pos (storeOk_iff.2 k.ok)]
    exact dirtyTo_no hd 6 (Nat.le_refl _)
  · rw [allV_eq]
    conv => lhs; rw [disk_eq k.ok.len]
    rw [k.ok.clean (a := 1) (by decide) (by decide) (hd 1 (by decide) (by decide)), k.ok.clean (a := 2) (by decide) (by decide) (hd 2 (by decide) (by decide)), k.ok.clean (a := 3) (by decide) (by decide) (hd 3 (by decide) (by decide)),
      k.ok.clean (a := 4) (by decide) (by decide) (hd 4 (by decide) (by decide)), k.ok.clean (a := 5) (by decide) (by decide) (hd 5 (by decide) (by decide)), k.ok.clean (a := 6) (by decide) (by decide) (hd 6 (by decide) (by decide))]
  · rcases k.vals a a1 a2 with h1 | ⟨h1, _⟩
    · exact h1
    · exact absurd h1 (by decide)
  · have e : ∀ t, doEv t evAll = doEvery t := fun t => by unfold doEv; rw [if_pos (show evAll.kind = 4 from rfl)]
    rw [e (doEv s evAll)]
    exact doEvery_no hd
end Go.Proofs.Ytohkoogmbfaceaa
namespace Go.Proofs.Ytohkoogmbfaceaa
set_option linter.unusedVariables false
set_option linter.unusedSimpArgs false
open Go.RowKit Go.Maps
set_option maxHeartbeats 400000
theorem OSt.agr {w w' : World} {lo hi : Nat} {A D : Option Addr} {f : List Bk} {xs : List Int} {S : Nat → Prop} (h : OSt w lo hi A f D xs) (ha : Agr S w w') (hS : ∀ b, lo ≤ b → b < hi → ¬ S b) : OSt w' lo hi A f D xs := h.keep fun b h1 h2 hl => ha.block b hl (hS b h1 h2)
end Go.Proofs.Ytohkoogmbfaceaa
namespace Go.Proofs.Ytohkoogmbfaceaa
set_option linter.unusedVariables false
set_option linter.unusedSimpArgs false
open Go.RowKit Go.Maps
set_option maxHeartbeats 400000
/-- a store in a box, and what it holds -/
structure Held (W : World) (bx : Nat) (A D : Option Addr) (n c m d : Nat) (s : St) : Prop where
  fl : Fl W A s.flash
  dk : Row W D (ints s.disk)
  x0 : W.cell? ⟨bx, 0, none⟩ = some (.slice A n c)
  x1 : W.cell? ⟨bx, 1, none⟩ = some (.slice D m d)
  hn : n = s.flash.length
  hm : m = s.disk.length
theorem Held.below {W X : World} {bx n c m d B : Nat} {A D : Option Addr} {s : St} (h : Held W bx A D n c m d s) (hb : Below B W X) (hB : W.heap.size ≤ B) : Held X bx A D n c m d s :=
  ⟨h.fl.below hb hB, h.dk.below hb hB, (hb.cell (p := ⟨bx, 0, none⟩) (Nat.lt_of_lt_of_le (lt_of_cell h.x0) hB)).trans h.x0, (hb.cell (p := ⟨bx, 1, none⟩) (Nat.lt_of_lt_of_le (lt_of_cell h.x1) hB)).trans h.x1, h.hn, h.hm⟩
theorem Held.new (w : World) {A D : Option Addr} {n c m d : Nat} {s : St} (hF : Fl w A s.flash) (hD : Row w D (ints s.disk)) (hn : n = s.flash.length) (hm : m = s.disk.length) : Held (w.alloc (.cells #[.slice A n c, .slice D m d] 28)) w.heap.size A D n c m d s :=
  ⟨hF.below ((Below.refl _ _).alloc (Nat.le_refl _) _) (Nat.le_refl _), hD.alloc _, by simp, by simp, hn, hm⟩
theorem Held.drew {W : World} {bx n c m d : Nat} {A D : Option Addr} {s : St} (h : Held W bx A D n c m d s) : Held W.drew bx A D n c m d s := ⟨h.fl.drew', h.dk, h.x0, h.x1, h.hn, h.hm⟩
theorem impl_StoreAll' (s : St) (A D : Option Addr) (n m c d : Nat) (w : World) (hn : n = s.flash.length) (hm : m = s.disk.length) (hF : Fl w A s.flash) (hD : Row w D (ints s.disk)) :
    Calls Try.prog 25 #[.agg #[.slice A n c, .slice D m d]] w fun e w' => ∃ A' c', e = .returned (.slice A' (allSp s).length c') ∧ Row w' A' (ints (allSp s)) ∧ Below w.heap.size w w' := by
  refine (impl_StoreAll s A D n m c d w hn hm hF hD).mono ?_
  rintro e w' ⟨hb, ⟨h, g, rfl, _, hR⟩ | ⟨h, rfl⟩⟩
  · have ha : allSp s = allV s := by unfold allSp; rw [if_pos h]
    exact ⟨_, 6, by rw [ha]; rfl, by rw [ha]; exact hR, hb⟩
  · have ha : allSp s = [] := by unfold allSp; rw [if_neg (by rw [h]; simp)]
    exact ⟨none, 0, by rw [ha]; rfl, by rw [ha]; exact Row.nil _ _, hb⟩
end Go.Proofs.Ytohkoogmbfaceaa
namespace Go.Proofs.Ytohkoogmbfaceaa
set_option linter.unusedVariables false
set_option linter.unusedSimpArgs false
open Go.RowKit Go.Maps
set_option maxHeartbeats 400000
/-- a store handed back, in memory of the call's own -/
def DoneP (t : St) (w : World) (e : Ending) (w' : World) : Prop :=
  ∃ A c D d, e = .returned (.agg #[.slice A 4 c, .slice D 6 d]) ∧ FlAt w' w.heap.size A t.flash ∧ Row w' D (ints t.disk) ∧ (∀ b, blk D b → w.heap.size ≤ b) ∧ Below w.heap.size w w'
/-- .. and that it was done -/
def RunP (t : St) (w : World) (e : Ending) (w' : World) : Prop :=
  ∃ A c D d, e = .returned (.tuple #[.agg #[.slice A 4 c, .slice D 6 d], .bool true]) ∧ FlAt w' w.heap.size A t.flash ∧ Row w' D (ints t.disk) ∧ (∀ b, blk D b → w.heap.size ≤ b) ∧ Below w.heap.size w w'
/-- not done: an empty store -/
def NoP (w : World) (e : Ending) (w' : World) : Prop :=
  ∃ A c D d, e = .returned (.tuple #[.agg #[.slice A 0 c, .slice D 0 d], .bool false]) ∧ Below w.heap.size w w'
theorem ToPost.run {t : St} {w w' : World} {e : Ending} (ht : Okay t) (h : ToPost (t, true) w e w') : RunP t w e w' := by
  obtain ⟨A, c, D, d, rfl, h1, h2, h3, h4⟩ := h
  exact ⟨A, c, D, d, by dsimp only; rw [flashOk_len ht.flash, ht.len], h1, h2, h3, h4⟩
theorem ToPost.no {w w' : World} {e : Ending} (h : ToPost (st0, false) w e w') : NoP w e w' := by
  obtain ⟨A, c, D, d, rfl, h1, h2, h3, h4⟩ := h
  exact ⟨A, c, D, d, rfl, h4⟩
theorem runR_ok {es : List Ev} (h : es.length ≤ 60) : runR es = (doRun es, true) := by unfold runR; rw [if_neg (by omega)]
theorem runR_no {es : List Ev} (h : 60 < es.length) : runR es = (st0, false) := by unfold runR; rw [if_pos h]
theorem impl_PlayRun_ok {es : List Ev} (h : es.length ≤ 60) (V : Option Addr) (cs : Nat) (w : World) (hX : Row w V (evs es)) : Calls Try.prog 15 #[.slice V es.length cs] w (RunP (doRun es) w) :=
  (impl_PlayRun es V cs w (by omega) hX).mono fun _ _ q => ToPost.run (run_run es).ok (by rw [runR_ok h] at q; exact q)
theorem spec_PlayRun_ok {es : List Ev} (h : es.length ≤ 60) (V : Option Addr) (cs : Nat) (w : World) (hX : Row w V (evs es)) : Calls Try.prog 16 #[.slice V es.length cs] w (RunP (doRun es) w) :=
  (spec_PlayRun es V cs w (by omega) hX).mono fun _ _ q => ToPost.run (run_run es).ok (by rw [runR_ok h] at q; exact q)
theorem impl_PlayRun_no {es : List Ev} (h : 60 < es.length) (hl : es.length < 1000000000000) (V : Option Addr) (cs : Nat) (w : World) (hX : Row w V (evs es)) : Calls Try.prog 15 #[.slice V es.length cs] w (NoP w) :=
  (impl_PlayRun es V cs w hl hX).mono fun _ _ q => ToPost.no (by rw [runR_no h] at q; exact q)
theorem spec_PlayRun_no {es : List Ev} (h : 60 < es.length) (hl : es.length < 1000000000000) (V : Option Addr) (cs : Nat) (w : World) (hX : Row w V (evs es)) : Calls Try.prog 16 #[.slice V es.length cs] w (NoP w) :=
  (spec_PlayRun es V cs w hl hX).mono fun _ _ q => ToPost.no (by rw [runR_no h] at q; exact q)
theorem okay_pages {t : St} (h : Okay t) : ∀ b ∈ t.flash, b.pages.length < 1000000000000 := fun b hb => by have := (flashOk_shape h.flash b hb).1; omega
theorem laws_lqStore_ok {t : St} (ht : Okay t) (A D A' D' : Option Addr) (c d c' d' : Nat) (w : World) (hF : Fl w A t.flash) (hD : Row w D (ints t.disk)) (hF' : Fl w A' t.flash) (hD' : Row w D' (ints t.disk)) :
    Calls Try.prog 17 #[.agg #[.slice A 4 c, .slice D 6 d], .agg #[.slice A' 4 c', .slice D' 6 d']] w fun e w' => e = .returned (.bool true) ∧ Below w.heap.size w w' :=
  laws_lqStore t A D A' D' 4 6 4 6 c d c' d' w (flashOk_len ht.flash).symm ht.len.symm (flashOk_len ht.flash).symm ht.len.symm (by rw [flashOk_len ht.flash]; omega) (okay_pages ht) (by rw [ht.len]; omega) hF hD hF' hD'
theorem laws_lqStore_no (A D A' D' : Option Addr) (c d c' d' : Nat) (w : World) :
    Calls Try.prog 17 #[.agg #[.slice A 0 c, .slice D 0 d], .agg #[.slice A' 0 c', .slice D' 0 d']] w fun e w' => e = .returned (.bool true) ∧ Below w.heap.size w w' :=
  laws_lqStore st0 A D A' D' 0 0 0 0 c d c' d' w rfl rfl rfl rfl (by decide) (fun b hb => by cases hb) (by decide) ⟨[], rfl, Row.nil _ _, fun i b x h => by simp [st0] at h⟩ (Row.nil _ _) ⟨[], rfl, Row.nil _ _, fun i b x h => by simp [st0] at h⟩ (Row.nil _ _)
theorem impl_PlayDo_ok {s : St} (hs : Okay s) (k a b v : Int) (t : Bool) (A D : Option Addr) (c d : Nat) (w : World) (hF : Fl w A s.flash) (hD : Row w D (ints s.disk)) :
    Calls Try.prog 18 #[.agg #[.slice A 4 c, .slice D 6 d], .agg #[.int .i64 k, .int .i64 a, .int .i64 b, .int .i64 v, .bool t]] w (DoneP (doEv s ⟨k, a, b, v, t⟩) w) :=
  (impl_PlayDo s ⟨k, a, b, v, t⟩ A D 4 6 c d w (flashOk_len hs.flash).symm hs.len.symm hF hD).mono fun e w' q => by
    have hok := (doEv_evt hs ⟨k, a, b, v, t⟩).ok
    have hp : plDo s ⟨k, a, b, v, t⟩ = doEv s ⟨k, a, b, v, t⟩ := by unfold plDo; rw [if_pos (storeOk_iff.2 hs)]
    rw [hp] at q
    obtain ⟨A', c', D', d', rfl, h1, h2, h3, h4⟩ := q
    exact ⟨A', c', D', d', by rw [flashOk_len hok.flash, hok.len], h1, h2, h3, h4⟩
theorem impl_StoreAll_ok {s : St} (hs : Okay s) (A D : Option Addr) (c d : Nat) (w : World) (hF : Fl w A s.flash) (hD : Row w D (ints s.disk)) :
    Calls Try.prog 25 #[.agg #[.slice A 4 c, .slice D 6 d]] w fun e w' => ∃ A' c', e = .returned (.slice A' 6 c') ∧ Row w' A' (ints (allV s)) ∧ Below w.heap.size w w' :=
  (impl_StoreAll' s A D 4 6 c d w (flashOk_len hs.flash).symm hs.len.symm hF hD).mono fun e w' q => by
    rw [show allSp s = allV s by unfold allSp; rw [if_pos (storeOk_iff.2 hs)]] at q
    exact q
theorem impl_StoreOk_ok {s : St} (hs : Okay s) (A D : Option Addr) (c d : Nat) (w : World) (hF : Fl w A s.flash) (hD : Row w D (ints s.disk)) :
    Calls Try.prog 23 #[.agg #[.slice A 4 c, .slice D 6 d]] w fun e w' => e = .returned (.bool true) ∧ Below w.heap.size w w' :=
  (impl_StoreOk s A D 4 6 c d w (flashOk_len hs.flash).symm hs.len.symm hF hD).mono fun e w' q => by rw [storeOk_iff.2 hs] at q; exact q
theorem impl_StoreRead_ok {s : St} (hs : Okay s) {a : Int} (a1 : 1 ≤ a) (a2 : a ≤ 6) (A D : Option Addr) (c d : Nat) (w : World) (hF : Fl w A s.flash) (hD : Row w D (ints s.disk)) :
    Calls Try.prog 22 #[.agg #[.slice A 4 c, .slice D 6 d], .int .i64 a] w fun e w' => e = .returned (.int .i64 (readV s a)) ∧ Below w.heap.size w w' :=
  (impl_StoreRead s a A D 4 6 c d w (flashOk_len hs.flash).symm hs.len.symm hF hD).mono fun e w' q => by
    rw [show storeRead s a = readV s a by unfold storeRead; rw [if_pos (storeOk_iff.2 hs), if_pos (addrB_iff.2 ⟨a1, a2⟩)]] at q
    exact q
theorem Held.no (w : World) (A D : Option Addr) (c d : Nat) : Held (w.alloc (.cells #[.slice A 0 c, .slice D 0 d] 28)) w.heap.size A D 0 c 0 d st0 :=
  Held.new w (s := st0) ⟨[], rfl, Row.nil _ _, fun i b x h => by simp [st0] at h⟩ (Row.nil _ _) rfl rfl
theorem Held.ok {w : World} {t : St} (ht : Okay t) {A D : Option Addr} (c d : Nat) (hF : Fl w A t.flash) (hD : Row w D (ints t.disk)) : Held (w.alloc (.cells #[.slice A 4 c, .slice D 6 d] 28)) w.heap.size A D 4 c 6 d t :=
  Held.new w hF hD (flashOk_len ht.flash).symm ht.len.symm
theorem laws_lqInts_6 {xs ys : List Int} (h : xs = ys) (h6 : xs.length = 6) (A A' : Option Addr) (c c' : Nat) (w : World) (hR : Row w A (ints xs)) (hR' : Row w A' (ints ys)) :
    Calls Try.prog 24 #[.slice A 6 c, .slice A' 6 c'] w fun e w' => e = .returned (.bool true) ∧ Below w.heap.size w w' :=
  (laws_lqInts A A' 6 6 c c' xs ys w h6.symm (by rw [← h, h6]) (by omega) hR hR').mono fun e w' q => by rw [decide_eq_true h] at q; exact q
/-- a store in a box, put there anew -/
theorem Held.put {W : World} {bx n c m d n' c' m' d' : Nat} {A D A' D' : Option Addr} {s t : St} (h : Held W bx A D n c m d s) (hF : FlAt W (bx + 1) A' t.flash) (hD : Row W D' (ints t.disk)) (hd : ∀ b, blk D' b → bx + 1 ≤ b) (hn : n' = t.flash.length) (hm : m' = t.disk.length) :
    Held ((W.setCell ⟨bx, 0, none⟩ (.slice A' n' c')).setCell ⟨bx, 1, none⟩ (.slice D' m' d')) bx A' D' n' c' m' d' t := by
  have hW : Wrote W ((W.setCell ⟨bx, 0, none⟩ (.slice A' n' c')).setCell ⟨bx, 1, none⟩ (.slice D' m' d')) bx 0 [.slice A' n' c', .slice D' m' d'] := wrote_setRow bx [.slice A' n' c', .slice D' m' d'] 0 W (fun j hj => by
    match j, hj with
    | 0, _ => exact ⟨_, h.x0⟩
    | 1, _ => exact ⟨_, h.x1⟩)
  refine ⟨?_, hD.keep fun b hb hl => hW.block b (by have := hd b hb; omega), hW.new_ 0 _ rfl, hW.new_ 1 _ rfl, hn, hm⟩
  exact (hF.keep (w' := (W.setCell ⟨bx, 0, none⟩ (.slice A' n' c')).setCell ⟨bx, 1, none⟩ (.slice D' m' d')) fun b hb hl => hW.block b (by omega)).fl
theorem FlAt.mono {w : World} {lo lo' : Nat} {A : Option Addr} {f : List Bk} (h : FlAt w lo A f) (hl : lo' ≤ lo) : FlAt w lo' A f := by
  obtain ⟨hs, h1, h2⟩ := h
  exact ⟨hs, h1, fun b hb => Nat.le_trans hl (h2 b hb)⟩
end Go.Proofs.Ytohkoogmbfaceaa
namespace Go.Proofs.Ytohkoogmbfaceaa
set_option linter.unusedVariables false
set_option linter.unusedSimpArgs false
open Go.RowKit Go.Maps
set_option maxHeartbeats 400000
theorem Try.info3_int' : (Try.prog.info? 3).map (fun i => (i.zero, i.size, i.bytes)) = some (some (.int .i64 0), 1, 8) := by kernel_rfl
theorem evs_one (xs : List Ev) : ∀ u ∈ evs xs, u.oneCell' = true := fun u hu => by
  obtain ⟨x, _, hx⟩ := List.mem_flatMap.1 hu
  simp only [Ev.vs, List.mem_cons, List.not_mem_nil, or_false] at hx
  rcases hx with rfl | rfl | rfl | rfl | rfl <;> rfl
theorem ints_one' (xs : List Int) : ∀ u ∈ ints xs, u.oneCell' = true := fun u hu => by
  obtain ⟨x, _, rfl⟩ := List.mem_map.1 hu
  rfl
theorem own_below {w w' : World} {base size n : Nat} {e : TypeId} {v : Value} {xs : List Value} (h : w.ownsRow base e size v n xs) (hb : base ≤ w.heap.size) (hg : w.grownBy w' v.ownBlock) : Below base w w' :=
  ((Agr.refl (fun b => v.ownBlock = some b) w).grown hg (fun g hg => .inr hg)).below hb (fun b hb => (World.ownsRow.lt h b hb).1)
/-- 'append(dst, src...)' of events, dst of the call's own -/
theorem wpList_evs {ops : Array Oper} {rest : List Oper} {o : Oper} {a : Act} {Q : Exit → Act → World → Prop} {w : World} (hgd : o.guard = none) (s x : Operand)
    (ho : o.op = .call { callee := .builtin .append, args := #[s, x], argTypes := #[23, 23] }) (base : Nat) (v : Value) (ys xs : List Ev) (hs : a.eval s = v) (hO : OwnE w base v ys)
    (b p m n c : Nat) (hx : a.eval x = .slice (some ⟨b, p, none⟩) m c) (hm : m = xs.length) (hn : n = ys.length + m) (hR : Row w (some ⟨b, p, none⟩) (evs xs)) (h0 : 0 < m) (h63 : n ≤ 1000000) (hbase : base ≤ w.heap.size)
    (h : ∀ g cap w', OwnE w' base (.slice (some ⟨g, 0, none⟩) n cap) (ys ++ xs) → Below base w w' → wpList Try.prog ops Q rest (a.put o.dst (.slice (some ⟨g, 0, none⟩) n cap)) w') : wpList Try.prog ops Q (o :: rest) a w := by
  obtain ⟨ib, hib, hbz0, hbz1, hbz2⟩ := info_parts Try.info3_event
  subst hn; subst hm
  refine wpList_append_lies w hgd s x _ ho base 34 ib _ 5 40 Try.underlying23 hib hbz0 hbz1 hbz2 rfl (by omega) v ys.length (evs ys) hs hO ⟨b, p, none⟩ xs.length c (evs xs) hx (evs_len xs) hR.news (evs_one xs) h0 (by unfold maxLen; omega) (by omega) hbase w.heap.size rfl ?_
  intro g cap w' h1 h2 _ _
  refine h g cap w' ?_ (own_below hO hbase h2)
  unfold OwnE
  rw [List.length_append, show evs (ys ++ xs) = evs ys ++ evs xs from List.flatMap_append]
  exact h1
/-- 'append(dst, src...)' of numbers -/
theorem wpList_ints {ops : Array Oper} {rest : List Oper} {o : Oper} {a : Act} {Q : Exit → Act → World → Prop} {w : World} (hgd : o.guard = none) (s x : Operand)
    (ho : o.op = .call { callee := .builtin .append, args := #[s, x], argTypes := #[26, 26] }) (base : Nat) (v : Value) (ys xs : List Int) (hs : a.eval s = v) (hO : OwnI w base v ys)
    (b p m n c : Nat) (hx : a.eval x = .slice (some ⟨b, p, none⟩) m c) (hm : m = xs.length) (hn : n = ys.length + m) (hR : Row w (some ⟨b, p, none⟩) (ints xs)) (h0 : 0 < m) (h63 : n ≤ 1000000) (hbase : base ≤ w.heap.size)
    (h : ∀ g cap w', OwnI w' base (.slice (some ⟨g, 0, none⟩) n cap) (ys ++ xs) → Below base w w' → wpList Try.prog ops Q rest (a.put o.dst (.slice (some ⟨g, 0, none⟩) n cap)) w') : wpList Try.prog ops Q (o :: rest) a w := by
  obtain ⟨ib, hib, hbz0, hbz1, hbz2⟩ := info_parts Try.info3_int'
  subst hn; subst hm
  refine wpList_append_lies w hgd s x _ ho base 3 ib _ 1 8 Try.underlying26 hib hbz0 hbz1 hbz2 rfl (by omega) v ys.length (ints ys) hs hO ⟨b, p, none⟩ xs.length c (ints xs) hx (by rw [ints_len]; omega) hR.news (ints_one' xs) h0 (by unfold maxLen; omega) (by omega) hbase w.heap.size rfl ?_
  intro g cap w' h1 h2 _ _
  refine h g cap w' ?_ (own_below hO hbase h2)
  unfold OwnI
  rw [List.length_append, show ints (ys ++ xs) = ints ys ++ ints xs from List.map_append]
  exact h1
theorem OwnI.one (w : World) (base : Nat) (x : Int) (hb : base ≤ w.heap.size) : OwnI (w.alloc (.cells #[.int .i64 x] 3)) base (.slice (some ⟨w.heap.size, 0, none⟩) 1 1) [x] := World.ownsRow_lit w #[.int .i64 x] 1 hb (by unfold maxLen; omega) rfl
/-- the events, made whole one by one -/
def wholeTo (es : List Ev) (k : Nat) : List Ev := (es.take k).map wholeEv ++ es.drop k
theorem wholeTo_len (es : List Ev) (k : Nat) : (wholeTo es k).length = es.length := by unfold wholeTo; rw [List.length_append, List.length_map, List.length_take, List.length_drop]; omega
theorem wholeTo_get {es : List Ev} {k : Nat} {x : Ev} (h : es[k]? = some x) : (wholeTo es k)[k]? = some x := by
  have hl := (List.getElem?_eq_some_iff.1 h).1
  unfold wholeTo
  rw [List.getElem?_append_right (by rw [List.length_map, List.length_take]; omega), List.length_map, List.length_take, show k - min k es.length = 0 by omega, List.getElem?_drop]
  exact h
theorem wholeTo_set {es : List Ev} {k : Nat} {x : Ev} (h : es[k]? = some x) : (wholeTo es k).set k (wholeEv x) = wholeTo es (k + 1) := by
  have hl := (List.getElem?_eq_some_iff.1 h).1
  unfold wholeTo
  rw [List.set_append_right _ _ (by rw [List.length_map, List.length_take]; omega), List.length_map, List.length_take, show k - min k es.length = 0 by omega, List.take_add_one, h, drop_cons h]
  simp
theorem wholeTo_all (es : List Ev) {k : Nat} (h : es.length ≤ k) : wholeTo es k = es.map wholeEv := by
  unfold wholeTo
  rw [List.take_of_length_le h, List.drop_of_length_le h, List.append_nil]
theorem evs_whole : ∀ {l : List Ev} {k : Nat} {x : Ev}, l[k]? = some x → evs (l.set k (wholeEv x)) = setL (evs l) (k * 5 + 3) [.int .i64 60, .bool false]
  | [], _, _, h => by simp at h
  | y :: l, 0, x, h => by simp at h; subst h; rfl
  | y :: l, k + 1, x, h => by
    have := evs_whole (l := l) (k := k) (x := x) (by simpa using h)
    show y.vs ++ evs (l.set k (wholeEv x)) = setL (y.vs ++ evs l) ((k + 1) * 5 + 3) _
    rw [this, show (k + 1) * 5 + 3 = y.vs.length + (k * 5 + 3) by simp [Ev.vs]; omega, setL_right]
/-- event k was made whole: two cells written -/
theorem Row.whole {w w' : World} {b k : Nat} {es : List Ev} {x : Ev} (h : Row w (some ⟨b, 0, none⟩) (evs (wholeTo es k))) (hx : es[k]? = some x) (hW : Wrote w w' b (k * 5 + 3) [.int .i64 60, .bool false]) : Row w' (some ⟨b, 0, none⟩) (evs (wholeTo es (k + 1))) := by
  have hl := (List.getElem?_eq_some_iff.1 hx).1
  rw [← wholeTo_set hx, evs_whole (wholeTo_get hx)]
  refine Wrote.row (w := w) (by rw [Nat.zero_add]; exact hW) h ?_
  rw [evs_len, wholeTo_len]
  simp
  omega
end Go.Proofs.Ytohkoogmbfaceaa
namespace Go.Proofs.Ytohkoogmbfaceaa
set_option linter.unusedVariables false
set_option linter.unusedSimpArgs false
open Go.RowKit Go.Maps
set_option maxHeartbeats 400000
theorem impl_PlayRun_n {es : List Ev} (h : es.length ≤ 60) (V : Option Addr) (n cs : Nat) (hn : n = es.length) (w : World) (hX : Row w V (evs es)) : Calls Try.prog 15 #[.slice V n cs] w (RunP (doRun es) w) := by
  subst hn; exact impl_PlayRun_ok h V cs w hX
theorem impl_PlayRun_big {es : List Ev} (h : 60 < es.length) (hl : es.length < 1000000000000) (V : Option Addr) (n cs : Nat) (hn : n = es.length) (w : World) (hX : Row w V (evs es)) : Calls Try.prog 15 #[.slice V n cs] w (NoP w) := by
  subst hn; exact impl_PlayRun_no h hl V cs w hX
theorem Row.part {w : World} {V : Option Addr} {xs ys : List Value} (h : Row w V (xs ++ ys)) : Row w V xs := fun hn => by
  obtain ⟨b, o, hV, hc⟩ := h (by intro e; exact hn (List.append_eq_nil_iff.1 e).1)
  refine ⟨b, o, hV, fun j u hj => hc j u ?_⟩
  rw [List.getElem?_append_left (List.getElem?_eq_some_iff.1 hj).1]; exact hj
theorem Row.evs_take {w : World} {V : Option Addr} {es : List Ev} (h : Row w V (evs es)) (q : Nat) : Row w V (evs (es.take q)) := by
  refine Row.part (ys := evs (es.drop q)) ?_
  have : evs (es.take q) ++ evs (es.drop q) = evs es := by unfold evs; rw [← List.flatMap_append, List.take_append_drop]
  rw [this]; exact h
/-- 'append(dst, src...)' of events, however many there are -/
theorem wpList_evs_any {ops : Array Oper} {rest : List Oper} {o : Oper} {a : Act} {Q : Exit → Act → World → Prop} {w : World} (hgd : o.guard = none) (s x : Operand)
    (ho : o.op = .call { callee := .builtin .append, args := #[s, x], argTypes := #[23, 23] }) (base : Nat) (v : Value) (ys xs : List Ev) (hs : a.eval s = v) (hO : OwnE w base v ys)
    (V : Option Addr) (m n c : Nat) (hx : a.eval x = .slice V m c) (hm : m = xs.length) (hn : n = ys.length + m) (hR : Row w V (evs xs)) (h63 : n ≤ 1000000) (hbase : base ≤ w.heap.size)
    (h : ∀ A cap w', OwnE w' base (.slice A n cap) (ys ++ xs) → Below base w w' → wpList Try.prog ops Q rest (a.put o.dst (.slice A n cap)) w') : wpList Try.prog ops Q (o :: rest) a w := by
  obtain ⟨ib, hib, hbz0, hbz1, hbz2⟩ := info_parts Try.info3_event
  by_cases h0 : xs = []
  · subst h0
    simp only [List.length_nil] at hm
    subst hm
    obtain ⟨A, cv, rfl, _, _, hcv⟩ := hO.out
    rw [Nat.add_zero] at hn
    subst hn
    rw [List.append_nil] at h
    exact wpList_append_zero hgd s x _ _ ho ib A V ys.length cv c Try.underlying23 hib hs hx hcv (h A cv w hO (Below.refl _ _))
  · have hlen : 0 < xs.length := List.length_pos_iff.2 h0
    obtain ⟨b, p, rfl⟩ := hR.addr (by intro e; have h1 := evs_len xs; rw [e] at h1; simp at h1; omega)
    exact wpList_evs hgd s x ho base v ys xs hs hO b p m n c hx hm hn hR (by omega) h63 hbase (fun g cap w' h1 h2 => h (some ⟨g, 0, none⟩) cap w' h1 h2)
/-- event k was made whole: two cells written -/
theorem Row.wholeAt {w w' : World} {b o k : Nat} {es : List Ev} {x : Ev} (h : Row w (some ⟨b, o, none⟩) (evs (wholeTo es k))) (hx : es[k]? = some x) (hW : Wrote w w' b (o + (k * 5 + 3)) [.int .i64 60, .bool false]) : Row w' (some ⟨b, o, none⟩) (evs (wholeTo es (k + 1))) := by
  have hl := (List.getElem?_eq_some_iff.1 hx).1
  rw [← wholeTo_set hx, evs_whole (wholeTo_get hx)]
  refine Wrote.row (w := w) hW h ?_
  rw [evs_len, wholeTo_len]
  simp
  omega
theorem wholeTo_get' {es : List Ev} {k : Nat} {x : Ev} (h : es[k]? = some x) : (wholeTo es (k + 1))[k]? = some (wholeEv x) := by
  have hl := (List.getElem?_eq_some_iff.1 h).1
  rw [← wholeTo_set h, List.getElem?_set_self (by rw [wholeTo_len]; exact hl)]
theorem Row.evf {w : World} {b o k : Nat} {xs : List Ev} {x : Ev} (h : Row w (some ⟨b, o, none⟩) (evs xs)) (hk : xs[k]? = some x) : w.frozen? ⟨b, o + k * 5 + 3, none⟩ = false ∧ w.frozen? ⟨b, o + k * 5 + 4, none⟩ = false := by
  have hlt := (List.getElem?_eq_some_iff.1 hk).1
  obtain ⟨b', o', he, hc⟩ := h (by intro e; have := evs_len xs; rw [e] at this; simp at this; omega)
  cases he
  have hg : ∀ j u, x.vs[j]? = some u → j < 5 → w.frozen? ⟨b, o + (k * 5 + j), none⟩ = false := fun j u hj hl => (hc (k * 5 + j) u (by rw [evs, flat_get _ 5 (fun _ => rfl) xs k j x hk hl]; exact hj)).2
  exact ⟨hg 3 _ rfl (by omega), hg 4 _ rfl (by omega)⟩
/-- event k in memory is made whole: what its five cells are, and all that stays -/
theorem whole_step {w : World} {b o k : Nat} {es : List Ev} {x : Ev} (h : Row w (some ⟨b, o, none⟩) (evs (wholeTo es k))) (hx : es[k]? = some x) :
    Row ((w.setCell ⟨b, o + k * 5 + 3, none⟩ (.int .i64 60)).setCell ⟨b, o + k * 5 + 4, none⟩ (.bool false)) (some ⟨b, o, none⟩) (evs (wholeTo es (k + 1))) ∧ Agr (· = b) w ((w.setCell ⟨b, o + k * 5 + 3, none⟩ (.int .i64 60)).setCell ⟨b, o + k * 5 + 4, none⟩ (.bool false)) ∧
    (w.cell? ⟨b, o + k * 5 + 3, none⟩ = some (.int .i64 x.c) ∧ w.frozen? ⟨b, o + k * 5 + 3, none⟩ = false ∧ (w.setCell ⟨b, o + k * 5 + 3, none⟩ (.int .i64 60)).cell? ⟨b, o + k * 5 + 4, none⟩ = some (.bool x.torn) ∧ (w.setCell ⟨b, o + k * 5 + 3, none⟩ (.int .i64 60)).frozen? ⟨b, o + k * 5 + 4, none⟩ = false) := by
  obtain ⟨c0, c1, c2, c3, c4⟩ := h.ev (wholeTo_get hx)
  obtain ⟨f3, f4⟩ := h.evf (wholeTo_get hx)
  have h1 : Wrote w (w.setCell ⟨b, o + k * 5 + 3, none⟩ (.int .i64 60)) b (o + k * 5 + 3) [.int .i64 60] := wrote_one c3 _
  have hW : Wrote w ((w.setCell ⟨b, o + k * 5 + 3, none⟩ (.int .i64 60)).setCell ⟨b, o + k * 5 + 4, none⟩ (.bool false)) b (o + k * 5 + 3) [.int .i64 60, .bool false] := wrote_setRow b [.int .i64 60, .bool false] (o + k * 5 + 3) w (fun j hj => by
    match j, hj with
    | 0, _ => exact ⟨_, c3⟩
    | 1, _ => exact ⟨_, c4⟩)
  refine ⟨h.wholeAt hx (by rw [show o + (k * 5 + 3) = o + k * 5 + 3 by omega]; exact hW), hW.agr, c3, f3, (h1.old_ _ (.inr (by simp))).trans c4, (h1.frozen _).trans f4⟩
/-- a store in a box that may be written -/
structure HeldF (W : World) (bx : Nat) (A D : Option Addr) (c d : Nat) (s : St) : Prop where
  held : Held W bx A D 4 c 6 d s
  f0 : W.frozen? ⟨bx, 0, none⟩ = false
  f1 : W.frozen? ⟨bx, 1, none⟩ = false
theorem HeldF.below {W X : World} {bx c d B : Nat} {A D : Option Addr} {s : St} (h : HeldF W bx A D c d s) (hb : Below B W X) (hB : W.heap.size ≤ B) : HeldF X bx A D c d s :=
  ⟨h.held.below hb hB, (hb.frozen (p := ⟨bx, 0, none⟩) (Nat.lt_of_lt_of_le (lt_of_cell h.held.x0) hB)).trans h.f0, (hb.frozen (p := ⟨bx, 1, none⟩) (Nat.lt_of_lt_of_le (lt_of_cell h.held.x1) hB)).trans h.f1⟩
theorem HeldF.drew {W : World} {bx c d : Nat} {A D : Option Addr} {s : St} (h : HeldF W bx A D c d s) : HeldF W.drew bx A D c d s := ⟨h.held.drew, h.f0, h.f1⟩
theorem HeldF.new {w : World} {t : St} (ht : Okay t) {A D : Option Addr} (c d : Nat) (hF : Fl w A t.flash) (hD : Row w D (ints t.disk)) : HeldF (w.alloc (.cells #[.slice A 4 c, .slice D 6 d] 28)) w.heap.size A D c d t :=
  ⟨Held.ok ht c d hF hD, by simp, by simp⟩
theorem HeldF.put {W : World} {bx c d c' d' lo : Nat} {A D A' D' : Option Addr} {s t : St} (h : HeldF W bx A D c d s) (ht : Okay t) (hF : FlAt W lo A' t.flash) (hlo : bx < lo) (hD : Row W D' (ints t.disk)) (hd : ∀ b, blk D' b → lo ≤ b) :
    HeldF ((W.setCell ⟨bx, 0, none⟩ (.slice A' 4 c')).setCell ⟨bx, 1, none⟩ (.slice D' 6 d')) bx A' D' c' d' t := by
  have hW : Wrote W ((W.setCell ⟨bx, 0, none⟩ (.slice A' 4 c')).setCell ⟨bx, 1, none⟩ (.slice D' 6 d')) bx 0 [.slice A' 4 c', .slice D' 6 d'] := wrote_setRow bx [.slice A' 4 c', .slice D' 6 d'] 0 W (fun j hj => by
    match j, hj with
    | 0, _ => exact ⟨_, h.held.x0⟩
    | 1, _ => exact ⟨_, h.held.x1⟩)
  exact ⟨h.held.put (hF.mono (by omega)) hD (fun b hb => by have := hd b hb; omega) (flashOk_len ht.flash).symm ht.len.symm, (hW.frozen _).trans h.f0, (hW.frozen _).trans h.f1⟩
end Go.Proofs.Ytohkoogmbfaceaa
namespace Go.Proofs.Ytohkoogmbfaceaa
set_option linter.unusedVariables false
set_option linter.unusedSimpArgs false
open Go.RowKit Go.WideShapes Go.ChangeShapes
section
variable {H : Type} {enc : TypeId × Value → H} {P : Program}
/-- an argument reads behind the call as before, if below the heap's old size nothing has turned -/
theorem trod_kept {t : TypeId} (hl : laidOutB P = true) (hr : P.readableRec t = true) (hrow : t < P.types.size) {W W' : World} {v : Value} {d : DataW H} {ps qs : List MemPlace} {sp : Nat → Bool}
    (h : DataW.Trod enc P W 0 (fun _ => true) true t v d ps) (hb : Below W.heap.size W W') (hlt : ∀ x ∈ qs, x.block < W.heap.size) (hsp : ∀ p ∈ qs, sp p.block = true) (hq : ∀ x ∈ ps, x ∈ qs) : DataW.Trod enc P W' 0 sp true t v d ps :=
  WideElems.Trod_stays hl hr hrow h (fun x hx => hb.same (hlt x (hq x hx))) (fun x hx => hsp x (hq x hx))
theorem post_of_below {f : Func} {s : ChangeSpec} {apart fresh handsOn again : Bool} {W W' : World} {args : Array Value} {v : Value} {ds gs : List (DataW H)} {before pa pv : List MemPlace}
    (hW : DataW.Whole enc P f.params.toList s.vars apart W args.toList ds gs before)
    (hres : ∀ (b : Nat) (sp : Nat → Bool) (hd : Bool), DataW.TrodAll enc P W' b sp hd f.resultTypes.toList (v.resultList f.resultTypes.size) (s.fn H (ds ++ gs)).results [])
    (hargs : ∀ sp : Nat → Bool, (∀ p ∈ before, sp p.block = true) → DataW.TrodAll enc P W' 0 sp true f.params.toList args.toList (s.fn H (ds ++ gs)).args pa)
    (hvars : ∀ sp : Nat → Bool, (∀ p ∈ before, sp p.block = true) → DataW.TrodVars enc P W' sp s.vars (s.fn H (ds ++ gs)).vars pv)
    (hps : before = pa ++ pv) (hb : Below W.heap.size W W')
    (hok : ∀ (j : Nat) (t : TypeId) (r : Value), f.resultTypes[j]? = some t → (v.resultList f.resultTypes.size)[j]? = some r → Value.okWide P W' .any 0 t r) :
    s.post enc P f apart fresh handsOn again W args v W' := by
  have hlt : ∀ p ∈ before, p.block < W.heap.size := fun p hp => hW.lt p hp
  have hold : ∀ p ∈ before, (fun b => decide (b < W.heap.size)) p.block = true := fun p hp => by simpa using hlt p hp
  refine ⟨ds, gs, before, [], pa, pv, hW, hres _ _ _, hargs _ hold, hvars _ hold, World.keptBut_mono (fun p hp => ⟨hp, ?_⟩) (hb.frame (· ∈ before)), fun _ => ?_⟩
  · rw [hps, List.mem_append] at hp
    exact Or.inr hp
  · obtain ⟨_, _, _, _, _, hz, hn⟩ := hW
    refine ⟨hok, _, _, ([] ++ pa) ++ pv, ⟨[] ++ pa, pv, trodAll_append (hargs _ (fun _ _ => rfl)) (hres _ _ _), hvars _ (fun _ _ => rfl), rfl, ?_, ?_⟩, ?_⟩
    · intro b off hp
      have hin : MemPlace.cell b off ∈ before := by rw [hps]; simpa using hp
      rw [hb.frozen (hlt _ hin)]
      exact hz b off hin
    · intro ha
      have := hn ha
      rw [hps] at this
      simpa using this
    · intro p hp _
      rw [hps]
      simpa using hp
end
end Go.Proofs.Ytohkoogmbfaceaa
namespace Go.Proofs.Ytohkoogmbfaceaa
set_option linter.unusedVariables false
set_option linter.unusedSimpArgs false
open Go.RowKit Go.ChangeShapes Go.WideShapes Go.Deep
set_option maxRecDepth 100000
section
variable {H : Type} {enc : TypeId × Value → H} {w : World} {base fuel : Nat} {spare : Nat → Bool} {held : Bool}
theorem plain_addr' {w : World} {a : Addr} {u : Value} (h : w.cell? a = some u) : ∃ b o, a = ⟨b, o, none⟩ := by
  obtain ⟨b, o, s⟩ := a
  cases s with
  | none => exact ⟨b, o, rfl⟩
  | some s =>
    have : w.cell? ⟨b, o, some s⟩ = none := by
      unfold World.cell?
      split
      · exact if_pos rfl
      · rfl
    rw [this] at h; cases h
theorem cellsOf_u8 : Try.prog.cellsOf 5 = 1 := by kernel_rfl
theorem bytes_of {cs : List Value} {x : DataW H × List MemPlace} (h : DataW.trod enc Try.prog w base spare held fuel 22 cs = some x) : ∃ A c bs, cs = [.slice A (List.length bs) c] ∧ Code w A bs c := by
  rcases open_ints Try.underlying22 Try.underlying5 cellsOf_u8 h with ⟨rfl, _⟩ | ⟨a, len, cap, zs, rfl, _, hlc, hcm, hzl, _, hcell, hwf⟩
  · exact ⟨none, 0, [], rfl, ⟨Nat.le_refl _, by omega, by simp, fun h => absurd rfl h⟩⟩
  · have hlz : len ≤ zs.length := by rw [hzl]; split <;> omega
    have hz : ∀ i, i < zs.length → zs.getD i 0 ∈ zs := fun i hi => by
      rw [List.getD_eq_getElem?_getD, List.getElem?_eq_getElem hi]
      exact List.getElem_mem hi
    have hr : ∀ n ∈ zs, 0 ≤ n ∧ n < 256 := fun n hn => by
      have := hwf n hn
      have h1 : IntKind.u8.min = 0 := rfl
      have h2 : IntKind.u8.max = 255 := rfl
      change (decide (IntKind.u8.min ≤ n) && decide (n ≤ IntKind.u8.max)) = true at this
      rw [h1, h2] at this
      simp at this
      omega
    refine ⟨some a, cap, (List.range len).map fun i => (zs.getD i 0).toNat, by simp, ⟨by simpa using hlc, by unfold maxLen at hcm; omega, fun b hb => ?_, fun hne => ?_⟩⟩
    · obtain ⟨i, hi, rfl⟩ := List.mem_map.1 hb
      have := hr _ (hz i (by have := List.mem_range.1 hi; omega))
      omega
    · have hn : 0 < len := by
        rcases Nat.eq_zero_or_pos len with h0 | h0
        · rw [h0] at hne; simp [bytes] at hne
        · exact h0
      have h0 := hcell 0 (by omega)
      obtain ⟨b, o, rfl⟩ := plain_addr' (a := a) (by simpa [Addr.add] using h0)
      refine ⟨b, o, rfl, fun j u hj => ?_⟩
      have hjl : j < len := by
        have := (List.getElem?_eq_some_iff.1 hj).1
        simpa [bytes] using this
      have hc := hcell j (by omega)
      rw [addr_add] at hc
      rw [hc]
      have hb := hr _ (hz j (by omega))
      rw [bytes, List.getElem?_map, List.getElem?_map, List.getElem?_range hjl] at hj
      simp only [Option.map_some, Option.some.injEq] at hj
      rw [← hj]
      have : (((zs.getD j 0).toNat : Nat) : Int) = zs.getD j 0 := by omega
      rw [this]
end
end Go.Proofs.Ytohkoogmbfaceaa
