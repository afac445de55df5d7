/- What the laws' walks share: words, plain laws, and the walks of functions, part 6. -/
import Derived.Laws.EntriesVeiled
import Derived.Below
import Derived.ChangeSame
import Derived.WalkKit
import Derived.ProofKit
import Derived.Carry
import Derived.Test.YtohkoogmbfaceaaGreatProg
import Derived.Deep.Slices
import Derived.ChangeArms
import Derived.Test.YtohkoogmbfaceaaGreatY5
open Go.RowKit Go.IntWalk Go.Maps
namespace Go.Proofs.YtohkoogmbfaceaaGreat
set_option linter.unusedVariables false
set_option linter.unusedSimpArgs false
set_option maxHeartbeats 1000000
theorem ok_parts {s : St} (h : storeOk s = true) : s.flash.length = 4 ∧ s.disk.length = 6 ∧ flashOk s.flash = true ∧ (∀ b ∈ s.flash, b.pages.length = 4) ∧ (∀ b ∈ s.flash, most b < 1000000000000) := by
  have k := storeOk_iff.1 h
  exact ⟨flashOk_len k.flash, k.len, k.flash, fun b hb => (bk_parts k.flash hb).1, most_small (flFine_of k.flash)⟩
/-- what the steps are asked of: an ok store -/
def okSteps (s : St) (xs : List Sp) : List Sp := if storeOk s = true then xs else []
def StepsPost (w : World) (xs : List Sp) (e : Ending) (w' : World) : Prop := ∃ v, e = .returned v ∧ OwnS w' w.heap.size v xs ∧ Below w.heap.size w w'
set_option maxRecDepth 20000 in
theorem impl_StepsPut (s : St) (a v : Int) (A D : Option Addr) (n m c d : Nat) (w : World) (hn : n = s.flash.length) (hm : m = s.disk.length) (hF : Fl w A s.flash) (hD : Row w D (ints s.disk)) :
    Calls Tryz.prog 85 #[.agg #[.slice A n c, .slice D m d], .int .i64 a, .int .i64 v] w (StepsPost w (okSteps s (wr s.flash 1 a v))) := by
  have hF0 : Fl (w.alloc (.cells #[.slice A n c, .slice D m d] 27)) A s.flash := hF.alloc _
  have hD0 : Row (w.alloc (.cells #[.slice A n c, .slice D m d] 27)) D (ints s.disk) := hD.alloc _
  have hSO : Hid (Calls Tryz.prog 30 #[.agg #[.slice A n c, .slice D m d]] (w.alloc (.cells #[.slice A n c, .slice D m d] 27)) fun e w' => e = .returned (.bool (storeOk s)) ∧ Below (w.alloc (.cells #[.slice A n c, .slice D m d] 27)).heap.size (w.alloc (.cells #[.slice A n c, .slice D m d] 27)) w') := impl_StoreOk s A D n m c d _ hn hm hF0 hD0
  by_cases hok : storeOk s = true
  · have hfin : Hid (okSteps s (wr s.flash 1 a v) = wr s.flash 1 a v) := by unfold Hid okSteps; rw [if_pos hok]
    obtain ⟨h4, h6, hfl, hp4, hms⟩ := ok_parts hok
    obtain rfl : n = 4 := by omega
    obtain rfl : m = 6 := by omega
    rw [hok] at hSO
    have HFL := Lib.hid hfl
    have H4 := Lib.hid h4
    have H6 := Lib.hid h6
    have HP := Lib.hid hp4
    have HM := Lib.hid hms
    have HOK := Lib.hid (storeOk_iff.1 hok)
    clear hok h4 h6 hfl hp4 hms hm hn
    go_enter Tryz.func85, Tryz.ntmps85
    go_wp2_with fail
    with_reducible refine hSO.out.mono ?_
    rintro e w1 ⟨rfl, hb⟩
    have hB : Below w.heap.size w w1 := ((Below.refl _ _).alloc (Nat.le_refl _) _).trans (hb.mono (by simp))
    have hz : w.heap.size < w1.heap.size := by have := hb.size; simp at this; omega
    obtain ⟨hc, hfz⟩ := bcell hb
    have x0 : w1.cell? ⟨w.heap.size, 0, none⟩ = some (.slice A 4 c) := (hc _ _ (by simp)).trans (by simp)
    have x1 : w1.cell? ⟨w.heap.size, 1, none⟩ = some (.slice D 6 d) := (hc _ _ (by simp)).trans (by simp)
    have hF1 := hF.below hB (Nat.le_refl _)
    have hD1 := hD.below hB (Nat.le_refl _)
    clear hb hc hfz hSO hF0 hD0
    go_wp2_with fail
    refine (impl_stepsWrite s.flash 1 a v A _ c _ H4.out.symm HFL.out hF1).mono ?_
    rintro e w2 ⟨v, rfl, hO, hb2⟩
    go_wp2
    go_ret
    exact ⟨_, rfl, by rw [hfin.out]; exact hO.mono hB.size, hB.trans (hb2.mono hB.size)⟩
  · have hfin : Hid (okSteps s (wr s.flash 1 a v) = []) := by unfold Hid okSteps; rw [if_neg hok]
    rw [show storeOk s = false by simpa using hok] at hSO
    clear hok hn hm
    go_enter Tryz.func85, Tryz.ntmps85
    go_wp2_with fail
    with_reducible refine hSO.out.mono ?_
    rintro e w1 ⟨rfl, hb⟩
    have hB : Below w.heap.size w w1 := ((Below.refl _ _).alloc (Nat.le_refl _) _).trans (hb.mono (by simp))
    have hz : w.heap.size ≤ w1.heap.size := hB.size
    go_wp2
    go_ret
    rw [StepsPost]
    exact ⟨_, rfl, by rw [hfin.out]; exact OwnS.nul _ _, hB⟩
theorem OwnS.shape' {w : World} {base : Nat} {v : Value} {xs : List Sp} (h : OwnS w base v xs) : ∃ A c, v = .slice A xs.length c ∧ xs.length ≤ c ∧ Row w A (sps xs) ∧ ∀ b, blk A b → base ≤ b ∧ b < w.heap.size := h.shape
set_option maxRecDepth 20000 in
theorem impl_StepsFlush (s : St) (a : Int) (A D : Option Addr) (n m c d : Nat) (w : World) (hn : n = s.flash.length) (hm : m = s.disk.length) (hF : Fl w A s.flash) (hD : Row w D (ints s.disk)) :
    Calls Tryz.prog 63 #[.agg #[.slice A n c, .slice D m d], .int .i64 a] w (StepsPost w (okSteps s (flush s a))) := by
  obtain ⟨ib, hib, hbz0, hbz1, hbz2⟩ := info_parts Tryz.info3_step
  have hF0 : Fl (w.alloc (.cells #[.slice A n c, .slice D m d] 27)) A s.flash := hF.alloc _
  have hD0 : Row (w.alloc (.cells #[.slice A n c, .slice D m d] 27)) D (ints s.disk) := hD.alloc _
  have hSO : Hid (Calls Tryz.prog 30 #[.agg #[.slice A n c, .slice D m d]] (w.alloc (.cells #[.slice A n c, .slice D m d] 27)) fun e w' => e = .returned (.bool (storeOk s)) ∧ Below (w.alloc (.cells #[.slice A n c, .slice D m d] 27)).heap.size (w.alloc (.cells #[.slice A n c, .slice D m d] 27)) w') := impl_StoreOk s A D n m c d _ hn hm hF0 hD0
  by_cases hok : storeOk s = true
  · have hfin : Hid (okSteps s (flush s a) = flush s a) := by unfold Hid okSteps; rw [if_pos hok]
    obtain ⟨h4, h6, hfl, hp4, hms⟩ := ok_parts hok
    obtain rfl : n = 4 := by omega
    obtain rfl : m = 6 := by omega
    rw [hok] at hSO
    have HFL := Lib.hid hfl
    have H4 := Lib.hid h4
    have H6 := Lib.hid h6
    have HP := Lib.hid hp4
    have HM := Lib.hid hms
    have HOK := Lib.hid (storeOk_iff.1 hok)
    clear hok h4 h6 hfl hp4 hms hm hn
    go_enter Tryz.func63, Tryz.ntmps63
    go_wp2_with fail
    with_reducible refine hSO.out.mono ?_
    rintro e w1 ⟨rfl, hb⟩
    have hB : Below w.heap.size w w1 := ((Below.refl _ _).alloc (Nat.le_refl _) _).trans (hb.mono (by simp))
    have hz : w.heap.size < w1.heap.size := by have := hb.size; simp at this; omega
    obtain ⟨hc, hfz⟩ := bcell hb
    have x0 : w1.cell? ⟨w.heap.size, 0, none⟩ = some (.slice A 4 c) := (hc _ _ (by simp)).trans (by simp)
    have x1 : w1.cell? ⟨w.heap.size, 1, none⟩ = some (.slice D 6 d) := (hc _ _ (by simp)).trans (by simp)
    have hF1 := hF.below hB (Nat.le_refl _)
    have hD1 := hD.below hB (Nat.le_refl _)
    clear hb hc hfz hSO hF0 hD0
    have hq : Hid (flush s a = if addrB a = false ∨ dirty s.flash a = false then [] else if wr s.flash 2 a (readV s a) = [] then [] else ⟨1, a, readV s a, 0, rc0⟩ :: wr s.flash 2 a (readV s a)) := rfl
    go_wp2_with fail
    refine (impl_FindLast s.flash a A _ c _ H4.out.symm hF1).mono ?_
    rintro e w2 ⟨rfl, hb2⟩
    replace x0 := (hb2.cell (p := ⟨w.heap.size, 0, none⟩) hz).trans x0
    have hB2 := hB.trans (hb2.mono hB.size)
    have hz2 := hb2.size
    clear hb2 hB x1
    by_cases hfd : addrB a = true ∧ 0 < (last s.flash a).seq
    · obtain ⟨ha, hpos⟩ := hfd
      have hfe : findLast s.flash a = (last s.flash a, true) := by unfold findLast; rw [if_pos ⟨ha, HFL.out⟩]; congr 1; simpa using hpos
      have hra : (last s.flash a).addr = a := (last_found (last_pages HFL.out) hpos).2
      have hdy : Hid (dirty s.flash a = decide ((last s.flash a).kind = 1)) := by unfold Hid dirty; rw [show decide (0 < (last s.flash a).seq) = true by simpa using hpos]; rfl
      have hrv : readV s a = (last s.flash a).val := by unfold readV; rw [if_pos hpos]
      rw [hfe]
      rw [hrv] at hq
      have HRA := Lib.hid hra
      have HA := Lib.hid ha
      generalize last s.flash a = r at *
      clear hfe hra hrv hpos ha
      unfold rcA
      dsimp only
      go_wp2_with fail
      refine (impl_isDirty r _).mono ?_
      rintro e w3 ⟨rfl, hb3⟩
      obtain ⟨hc, hfz⟩ := bcell hb3
      have r0 : w3.cell? ⟨w2.heap.size, 0, none⟩ = some (.int .i64 r.kind) := (hc _ _ (by simp)).trans (by simp)
      have r1 : w3.cell? ⟨w2.heap.size, 1, none⟩ = some (.int .i64 r.seq) := (hc _ _ (by simp)).trans (by simp)
      have r2 : w3.cell? ⟨w2.heap.size, 2, none⟩ = some (.int .i64 r.addr) := (hc _ _ (by simp)).trans (by simp)
      have r3 : w3.cell? ⟨w2.heap.size, 3, none⟩ = some (.int .i64 r.val) := (hc _ _ (by simp)).trans (by simp)
      have y0 : w3.cell? ⟨w.heap.size, 0, none⟩ = some (.slice A 4 c) := (hc _ _ (by simp; omega)).trans (cellP x0 _)
      have hB3 : Below w.heap.size w w3 := (hB2.alloc hB2.size _).trans (hb3.mono (by have := hB2.size; simp; omega))
      have hz3 : w2.heap.size + 1 ≤ w3.heap.size := by have := hb3.size; simpa using this
      clear hb3 hc hfz x0 hB2
      by_cases hk : r.kind = 1
      · rw [show decide (r.kind = 1) = true by simpa using hk]
        have hq2 : Hid (flush s a = if wr s.flash 2 a r.val = [] then [] else ⟨1, a, r.val, 0, rc0⟩ :: wr s.flash 2 a r.val) := by
          rw [Hid, hq.out, if_neg (by rw [HA.out, hdy.out]; simp [hk])]
        rw [hk] at r0
        clear hk hq hdy
        go_wp2_with fail
        refine (impl_stepsWrite s.flash 2 a r.val A _ c _ H4.out.symm HFL.out (hF.below hB3 (Nat.le_refl _))).mono ?_
        rintro e w4 ⟨v, rfl, hO, hb4⟩
        replace r0 := (hb4.cell (p := ⟨w2.heap.size, 0, none⟩) (by show w2.heap.size < _; omega)).trans r0
        replace r1 := (hb4.cell (p := ⟨w2.heap.size, 1, none⟩) (by show w2.heap.size < _; omega)).trans r1
        replace r2 := (hb4.cell (p := ⟨w2.heap.size, 2, none⟩) (by show w2.heap.size < _; omega)).trans r2
        replace r3 := (hb4.cell (p := ⟨w2.heap.size, 3, none⟩) (by show w2.heap.size < _; omega)).trans r3
        have hB4 := hB3.trans (hb4.mono hB3.size)
        have hz4 := hb4.size
        have hwl := wr_len H4.out HP.out 2 a r.val
        generalize wr s.flash 2 a r.val = xs at *
        obtain ⟨A2, c2, rfl, hcap, hRow, hblk⟩ := hO.shape'
        clear hb4 hB3 y0
        by_cases hx : xs = []
        · subst hx
          have h4' : Hid (flush s a = []) := by rw [Hid, hq2.out, if_pos rfl]
          go_wp2
          go_ret
          exact ⟨_, rfl, by rw [hfin.out, h4'.out]; exact OwnS.nul _ _, hB4⟩
        · have h4' : Hid (flush s a = [⟨1, a, r.val, 0, rc0⟩] ++ xs) := by rw [Hid, hq2.out, if_neg hx]; rfl
          have hlen : 0 < xs.length := List.length_pos_iff.2 hx
          have hle : ((xs.length : Int) == 0) = false := by rw [beq_eq_false_iff_ne]; omega
          obtain ⟨g2, o2, rfl⟩ := hRow.addr (by intro e; have := sps_len xs; rw [e] at this; simp at this; omega)
          clear hq2
          go_wp2_with fail
          refine (impl_diskStep ⟨1, r.seq, r.addr, r.val⟩ _).mono ?_
          rintro e w5 ⟨rfl, hb5⟩
          dsimp only
          rw [HRA.out]
          have hB5 := hB4.trans (hb5.mono hB4.size)
          have hz5 := hb5.size
          have hRow5 := hRow.below hb5 (Nat.le_refl _)
          have hlit : OwnS (w5.alloc (.cells #[.int .i64 1, .int .i64 a, .int .i64 r.val, .int .i64 0, .int .i64 0, .int .i64 0, .int .i64 0, .int .i64 0] 66)) w.heap.size (.slice (some ⟨w5.heap.size, 0, none⟩) 1 1) [⟨1, a, r.val, 0, rc0⟩] := OwnS.one w5 w.heap.size (by omega) ⟨1, a, r.val, 0, rc0⟩
          clear hRow hb5 hB4
          go_wp2_with (at_builtin; refine wpList_append_lies _ rfl (.tmp 36) (.tmp 37) _ rfl w.heap.size 66 ib _ 8 64 Tryz.underlying51 hib hbz0 hbz1 hbz2 rfl (by omega) (.slice (some ⟨w5.heap.size, 0, none⟩) 1 1) 1 (sps [⟨1, a, r.val, 0, rc0⟩]) rfl hlit ⟨g2, o2, none⟩ xs.length c2 (sps xs) rfl (sps_len xs) ((hRow5.alloc _).news) (sps_one xs) hlen (by unfold maxLen; omega) (by omega) (by simp; omega) (w5.heap.size + 1) (by simp) ?_; intro g3 c3 w6 hown2 hgrow2 hat2 hlt2)
          have hbb : Below w5.heap.size w5 w6 := ((Below.refl _ _).alloc (by omega) _).grown hgrow2 (by simp) (by intro q e; cases e; exact Nat.le_refl _)
          have hOS := OwnS.onto (xs := [⟨1, a, r.val, 0, rc0⟩]) rfl hown2
          go_ret
          exact ⟨_, rfl, by rw [hfin.out, h4'.out]; exact hOS, hB5.trans (hbb.mono (by omega))⟩
      · rw [show decide (r.kind = 1) = false by simpa using hk]
        have hq2 : Hid (flush s a = []) := by rw [Hid, hq.out, if_pos (.inr (by rw [hdy.out]; simpa using hk))]
        go_wp2
        go_ret
        exact ⟨_, rfl, by rw [hfin.out, hq2.out]; exact OwnS.nul _ _, hB3⟩
    · have hq2 : Hid (flush s a = []) := by
        rw [Hid, hq.out, if_pos]
        by_cases ha : addrB a = true
        · right; unfold dirty; rw [show decide (0 < (last s.flash a).seq) = false by simpa using fun h => hfd ⟨ha, h⟩]; rfl
        · left; simpa using ha
      have hfe : (findLast s.flash a).2 = false := by
        unfold findLast
        split
        · rename_i h; simpa using fun q => hfd ⟨h.1, q⟩
        · rfl
      rw [hfe]
      clear hfe hq hfd
      generalize (findLast s.flash a).1 = r at *
      unfold rcA
      go_wp2
      go_ret
      exact ⟨_, rfl, by rw [hfin.out, hq2.out]; exact OwnS.nul _ _, hB2.alloc hB2.size _⟩
  · have hfin : Hid (okSteps s (flush s a) = []) := by unfold Hid okSteps; rw [if_neg hok]
    rw [show storeOk s = false by simpa using hok] at hSO
    clear hok hn hm
    go_enter Tryz.func63, Tryz.ntmps63
    go_wp2_with fail
    with_reducible refine hSO.out.mono ?_
    rintro e w1 ⟨rfl, hb⟩
    have hB : Below w.heap.size w w1 := ((Below.refl _ _).alloc (Nat.le_refl _) _).trans (hb.mono (by simp))
    have hz : w.heap.size ≤ w1.heap.size := hB.size
    go_wp2
    go_ret
    rw [StepsPost]
    exact ⟨_, rfl, by rw [hfin.out]; exact OwnS.nul _ _, hB⟩
end Go.Proofs.YtohkoogmbfaceaaGreat
open Go.RowKit Go.IntWalk Go.Maps
namespace Go.Proofs.YtohkoogmbfaceaaGreat
set_option linter.unusedVariables false
set_option linter.unusedSimpArgs false
set_option maxHeartbeats 1000000
set_option maxRecDepth 20000 in
theorem impl_StepsFill (s : St) (a : Int) (A D : Option Addr) (n m c d : Nat) (w : World) (hn : n = s.flash.length) (hm : m = s.disk.length) (hF : Fl w A s.flash) (hD : Row w D (ints s.disk)) :
    Calls Tryz.prog 86 #[.agg #[.slice A n c, .slice D m d], .int .i64 a] w (StepsPost w (okSteps s (fill s a))) := by
  have hF0 : Fl (w.alloc (.cells #[.slice A n c, .slice D m d] 27)) A s.flash := hF.alloc _
  have hD0 : Row (w.alloc (.cells #[.slice A n c, .slice D m d] 27)) D (ints s.disk) := hD.alloc _
  have hSO : Hid (Calls Tryz.prog 30 #[.agg #[.slice A n c, .slice D m d]] (w.alloc (.cells #[.slice A n c, .slice D m d] 27)) fun e w' => e = .returned (.bool (storeOk s)) ∧ Below (w.alloc (.cells #[.slice A n c, .slice D m d] 27)).heap.size (w.alloc (.cells #[.slice A n c, .slice D m d] 27)) w') := impl_StoreOk s A D n m c d _ hn hm hF0 hD0
  by_cases hok : storeOk s = true
  · have hfin : Hid (okSteps s (fill s a) = fill s a) := by unfold Hid okSteps; rw [if_pos hok]
    obtain ⟨h4, h6, hfl, hp4, hms⟩ := ok_parts hok
    obtain rfl : n = 4 := by omega
    obtain rfl : m = 6 := by omega
    rw [hok] at hSO
    have HFL := Lib.hid hfl
    have H4 := Lib.hid h4
    have H6 := Lib.hid h6
    have HP := Lib.hid hp4
    have HM := Lib.hid hms
    have HOK := Lib.hid (storeOk_iff.1 hok)
    clear hok h4 h6 hfl hp4 hms hm hn
    go_enter Tryz.func86, Tryz.ntmps86
    go_wp2_with fail
    with_reducible refine hSO.out.mono ?_
    rintro e w1 ⟨rfl, hb⟩
    have hB : Below w.heap.size w w1 := ((Below.refl _ _).alloc (Nat.le_refl _) _).trans (hb.mono (by simp))
    have hz : w.heap.size < w1.heap.size := by have := hb.size; simp at this; omega
    obtain ⟨hc, hfz⟩ := bcell hb
    have x0 : w1.cell? ⟨w.heap.size, 0, none⟩ = some (.slice A 4 c) := (hc _ _ (by simp)).trans (by simp)
    have x1 : w1.cell? ⟨w.heap.size, 1, none⟩ = some (.slice D 6 d) := (hc _ _ (by simp)).trans (by simp)
    have hF1 := hF.below hB (Nat.le_refl _)
    have hD1 := hD.below hB (Nat.le_refl _)
    clear hb hc hfz hSO hF0 hD0
    by_cases ha : addrB a = true
    · obtain ⟨ha1, ha2⟩ := addrB_iff.1 ha
      have hAc : ∀ w, Hid (Calls Tryz.prog 87 #[.int .i64 a] w fun e w' => e = .returned (.bool true) ∧ w = w') := fun w => by have := impl_addrOk a w; rw [ha] at this; exact this
      have hq : Hid (fill s a = if addrB a = false ∨ 0 < (last s.flash a).seq then [] else wr s.flash 2 a (s.disk.getD (a - 1).toNat 0)) := rfl
      have hfe : findLast s.flash a = (last s.flash a, decide (0 < (last s.flash a).seq)) := by unfold findLast; rw [if_pos ⟨ha, HFL.out⟩]
      have HFE := Lib.hid hfe
      have HA := Lib.hid ha
      obtain ⟨i, rfl⟩ : ∃ i : Nat, a = i + 1 := ⟨(a - 1).toNat, by omega⟩
      have hi : i < 6 := by omega
      obtain ⟨v, hv⟩ := get_some (l := s.disk) (k := i) (by have := H6.out; omega)
      have hgd : s.disk.getD ((i : Int) + 1 - 1).toNat 0 = v := by rw [show ((i : Int) + 1 - 1).toNat = i by omega, List.getD_eq_getElem?_getD, hv]; rfl
      rw [hgd] at hq
      obtain ⟨db, dO, rfl⟩ := hD1.addr (ints_ne' (by intro e; rw [e] at hv; simp at hv))
      have hi6 : (i : Int) < 6 := by omega
      have HV := Lib.hid hv
      clear hv hgd ha hfe
      go_wp2_with (go_at_call 87; with_reducible refine (hAc _).out.mono ?_; rintro e w2 ⟨rfl, rfl⟩)
      with_reducible refine (impl_FindLast s.flash (i + 1) A _ c _ H4.out.symm hF1).mono ?_
      rintro e w2 ⟨rfl, hb2⟩
      rw [HFE.out]
      replace x0 := (hb2.cell (p := ⟨w.heap.size, 0, none⟩) hz).trans x0
      replace x1 := (hb2.cell (p := ⟨w.heap.size, 1, none⟩) hz).trans x1
      have hB2 := hB.trans (hb2.mono hB.size)
      have hz2 := hb2.size
      obtain ⟨hcv, _⟩ := (hD1.below hb2 (Nat.le_refl _)).int_ HV.out
      have hdb := lt_of_cell hcv
      have hF2 := hF.below hB2 (Nat.le_refl _)
      clear hb2 hB hAc HFE
      generalize last s.flash (i + 1) = x at *
      unfold rcA
      dsimp only
      have hzz : w.heap.size < w2.heap.size := by omega
      by_cases h1 : 0 < x.seq
      · have h3 : Hid (fill s (i + 1) = []) := by rw [Hid, hq.out, if_pos (.inr h1)]
        rw [show decide (0 < x.seq) = true by simpa using h1]
        go_wp2
        go_ret
        exact ⟨_, rfl, by rw [hfin.out, h3.out]; exact OwnS.nul _ _, hB2.alloc hB2.size _⟩
      · have h3 : Hid (fill s (i + 1) = wr s.flash 2 (i + 1) v) := by
          rw [Hid, hq.out, if_neg (by rw [HA.out]; simp; omega)]
        rw [show decide (0 < x.seq) = false by simpa using h1]
        have e1 : IntKind.i64.wrap ((i : Int) + 1 - 1) = i := by rw [show (i : Int) + 1 - 1 = i by omega]; exact IntWalk.i64_in _ (by omega)
        have e2 : IntKind.i64.wrap (i : Int) = i := IntWalk.i64_in _ (by omega)
        have e3 : (i : Int) + 1 - 1 = i := by omega
        have e4 : (0 : Int) ≤ i := by omega
        clear hq h1
        go_wp2
        go_region_with (first | (go_at_call 83; with_reducible refine (impl_stepsWrite s.flash 2 (i + 1) v A _ c _ H4.out.symm HFL.out (Fl.drew' (hF2.alloc _))).mono ?_; rintro e w3 ⟨u, rfl, hO, hb3⟩))
        all_goals
          have hle : w.heap.size ≤ (w2.alloc (.cells #[.int .i64 x.kind, .int .i64 x.seq, .int .i64 x.addr, .int .i64 x.val] 64)).drew.heap.size := by show w.heap.size ≤ (w2.alloc _).heap.size; simp; omega
          have hB3 : Below w.heap.size w w3 := ((hB2.alloc hB2.size _).drew).trans (hb3.mono hle)
          clear hb3
          go_wp2
          go_ret
          exact ⟨_, rfl, by rw [hfin.out, h3.out]; exact hO.mono hle, hB3⟩
    · have ha' : addrB a = false := by simpa using ha
      have hAc : ∀ w, Hid (Calls Tryz.prog 87 #[.int .i64 a] w fun e w' => e = .returned (.bool false) ∧ w = w') := fun w => by have := impl_addrOk a w; rw [ha'] at this; exact this
      have h3 : Hid (fill s a = []) := by unfold Hid fill; rw [if_pos (.inl ha')]
      clear ha ha'
      go_wp2_with (go_at_call 87; with_reducible refine (hAc _).out.mono ?_; rintro e w2 ⟨rfl, rfl⟩)
      go_ret
      exact ⟨_, rfl, by rw [hfin.out, h3.out]; exact OwnS.nul _ _, hB⟩
  · have hfin : Hid (okSteps s (fill s a) = []) := by unfold Hid okSteps; rw [if_neg hok]
    rw [show storeOk s = false by simpa using hok] at hSO
    clear hok hn hm
    go_enter Tryz.func86, Tryz.ntmps86
    go_wp2_with fail
    with_reducible refine hSO.out.mono ?_
    rintro e w1 ⟨rfl, hb⟩
    have hB : Below w.heap.size w w1 := ((Below.refl _ _).alloc (Nat.le_refl _) _).trans (hb.mono (by simp))
    have hz : w.heap.size ≤ w1.heap.size := hB.size
    go_wp2
    go_ret
    rw [StepsPost]
    exact ⟨_, rfl, by rw [hfin.out]; exact OwnS.nul _ _, hB⟩
end Go.Proofs.YtohkoogmbfaceaaGreat
open Go.RowKit Go.IntWalk Go.Maps
namespace Go.Proofs.YtohkoogmbfaceaaGreat
set_option linter.unusedVariables false
set_option linter.unusedSimpArgs false
set_option maxHeartbeats 1000000
set_option maxRecDepth 20000
theorem impl_player_put (s : St) (e : Ev) (A D : Option Addr) (n m c d : Nat) (w : World) (hn : n = s.flash.length) (hm : m = s.disk.length) (hF : Fl w A s.flash) (hD : Row w D (ints s.disk)) :
    Calls Tryz.prog 64 #[.agg #[.slice A n c, .slice D m d], .agg #[.int .i64 e.kind, .int .i64 e.a, .int .i64 e.b, .int .i64 e.c, .bool e.torn]] w (StepsPost w (okSteps s (wr s.flash 1 e.a e.b))) := by
  have hB0 : Below w.heap.size w ((w.alloc (.cells #[.slice A n c, .slice D m d] 105)).alloc (.cells #[.int .i64 e.kind, .int .i64 e.a, .int .i64 e.b, .int .i64 e.c, .bool e.torn] 40)) := by (repeat (first | (with_reducible exact Below.refl _ _) | (with_reducible assumption) | (refine Below.setCell ?_ (by first | omega | exact hB.size | exact hb.size | (have h := hB.size; simp; omega) | (have h := hb.size; simp; omega) | (simp; omega) | simp) _) | (refine Below.alloc ?_ (by first | omega | exact hB.size | exact hb.size | (have h := hB.size; simp; omega) | (have h := hb.size; simp; omega) | (simp; omega) | simp) _) | (refine Below.drew ?_)))
  have HC := Lib.hid (impl_StepsPut s e.a e.b A D n m c d _ hn hm (hF.below hB0 (Nat.le_refl _)) (hD.below hB0 (Nat.le_refl _)))
  clear hn hm
  go_enter Tryz.func64, Tryz.ntmps64
  go_wp2_with fail
  with_reducible refine HC.out.mono ?_
  rintro r w1 ⟨v, rfl, hO, hb⟩
  go_wp2
  go_ret
  exact ⟨_, rfl, hO.mono (by simp; omega), hB0.trans (hb.mono (by simp; omega))⟩
theorem impl_player_flush (s : St) (e : Ev) (A D : Option Addr) (n m c d : Nat) (w : World) (hn : n = s.flash.length) (hm : m = s.disk.length) (hF : Fl w A s.flash) (hD : Row w D (ints s.disk)) :
    Calls Tryz.prog 65 #[.agg #[.slice A n c, .slice D m d], .agg #[.int .i64 e.kind, .int .i64 e.a, .int .i64 e.b, .int .i64 e.c, .bool e.torn]] w (StepsPost w (okSteps s (flush s e.a))) := by
  have hB0 : Below w.heap.size w ((w.alloc (.cells #[.slice A n c, .slice D m d] 105)).alloc (.cells #[.int .i64 e.kind, .int .i64 e.a, .int .i64 e.b, .int .i64 e.c, .bool e.torn] 40)) := by (repeat (first | (with_reducible exact Below.refl _ _) | (with_reducible assumption) | (refine Below.setCell ?_ (by first | omega | exact hB.size | exact hb.size | (have h := hB.size; simp; omega) | (have h := hb.size; simp; omega) | (simp; omega) | simp) _) | (refine Below.alloc ?_ (by first | omega | exact hB.size | exact hb.size | (have h := hB.size; simp; omega) | (have h := hb.size; simp; omega) | (simp; omega) | simp) _) | (refine Below.drew ?_)))
  have HC := Lib.hid (impl_StepsFlush s e.a A D n m c d _ hn hm (hF.below hB0 (Nat.le_refl _)) (hD.below hB0 (Nat.le_refl _)))
  clear hn hm
  go_enter Tryz.func65, Tryz.ntmps65
  go_wp2_with fail
  with_reducible refine HC.out.mono ?_
  rintro r w1 ⟨v, rfl, hO, hb⟩
  go_wp2
  go_ret
  exact ⟨_, rfl, hO.mono (by simp; omega), hB0.trans (hb.mono (by simp; omega))⟩
theorem impl_player_fill (s : St) (e : Ev) (A D : Option Addr) (n m c d : Nat) (w : World) (hn : n = s.flash.length) (hm : m = s.disk.length) (hF : Fl w A s.flash) (hD : Row w D (ints s.disk)) :
    Calls Tryz.prog 66 #[.agg #[.slice A n c, .slice D m d], .agg #[.int .i64 e.kind, .int .i64 e.a, .int .i64 e.b, .int .i64 e.c, .bool e.torn]] w (StepsPost w (okSteps s (fill s e.a))) := by
  have hB0 : Below w.heap.size w ((w.alloc (.cells #[.slice A n c, .slice D m d] 105)).alloc (.cells #[.int .i64 e.kind, .int .i64 e.a, .int .i64 e.b, .int .i64 e.c, .bool e.torn] 40)) := by (repeat (first | (with_reducible exact Below.refl _ _) | (with_reducible assumption) | (refine Below.setCell ?_ (by first | omega | exact hB.size | exact hb.size | (have h := hB.size; simp; omega) | (have h := hb.size; simp; omega) | (simp; omega) | simp) _) | (refine Below.alloc ?_ (by first | omega | exact hB.size | exact hb.size | (have h := hB.size; simp; omega) | (have h := hb.size; simp; omega) | (simp; omega) | simp) _) | (refine Below.drew ?_)))
  have HC := Lib.hid (impl_StepsFill s e.a A D n m c d _ hn hm (hF.below hB0 (Nat.le_refl _)) (hD.below hB0 (Nat.le_refl _)))
  clear hn hm
  go_enter Tryz.func66, Tryz.ntmps66
  go_wp2_with fail
  with_reducible refine HC.out.mono ?_
  rintro r w1 ⟨v, rfl, hO, hb⟩
  go_wp2
  go_ret
  exact ⟨_, rfl, hO.mono (by simp; omega), hB0.trans (hb.mono (by simp; omega))⟩
theorem impl_PlaySteps (s : St) (e : Ev) (A D : Option Addr) (n m c d : Nat) (w : World) (hn : n = s.flash.length) (hm : m = s.disk.length) (hF : Fl w A s.flash) (hD : Row w D (ints s.disk)) :
    Calls Tryz.prog 46 #[.agg #[.slice A n c, .slice D m d], .agg #[.int .i64 e.kind, .int .i64 e.a, .int .i64 e.b, .int .i64 e.c, .bool e.torn]] w (StepsPost w (okSteps s (stepsOf s e))) := by
  have hmf : ∀ (fn : Fn) (first cap : Array Value) (w : World), (Instr.makeFunc fn first cap).run Tryz.prog w = .ok (.func fn first cap) w := fun _ _ _ _ => rfl
  have hB0 : Below w.heap.size w ((((w.alloc (.cells #[.slice A n c, .slice D m d] 27)).alloc (.cells #[.int .i64 e.kind, .int .i64 e.a, .int .i64 e.b, .int .i64 e.c, .bool e.torn] 40)).alloc (.cells #[.slice A n c, .slice D m d] 105)).alloc (.cells #[.nilFunc, .func (.func 64) #[.agg #[.slice A n c, .slice D m d]] #[], .func (.func 65) #[.agg #[.slice A n c, .slice D m d]] #[], .func (.func 66) #[.agg #[.slice A n c, .slice D m d]] #[]] 107)) := by (repeat (first | (with_reducible exact Below.refl _ _) | (with_reducible assumption) | (refine Below.setCell ?_ (by first | omega | exact hB.size | exact hb.size | (have h := hB.size; simp; omega) | (have h := hb.size; simp; omega) | (simp; omega) | simp) _) | (refine Below.alloc ?_ (by first | omega | exact hB.size | exact hb.size | (have h := hB.size; simp; omega) | (have h := hb.size; simp; omega) | (simp; omega) | simp) _) | (refine Below.drew ?_)))
  have hF0 : Fl ((((w.alloc (.cells #[.slice A n c, .slice D m d] 27)).alloc (.cells #[.int .i64 e.kind, .int .i64 e.a, .int .i64 e.b, .int .i64 e.c, .bool e.torn] 40)).alloc (.cells #[.slice A n c, .slice D m d] 105)).alloc (.cells #[.nilFunc, .func (.func 64) #[.agg #[.slice A n c, .slice D m d]] #[], .func (.func 65) #[.agg #[.slice A n c, .slice D m d]] #[], .func (.func 66) #[.agg #[.slice A n c, .slice D m d]] #[]] 107)).drew A s.flash := (hF.below hB0 (Nat.le_refl _)).drew'
  have hD0 : Row ((((w.alloc (.cells #[.slice A n c, .slice D m d] 27)).alloc (.cells #[.int .i64 e.kind, .int .i64 e.a, .int .i64 e.b, .int .i64 e.c, .bool e.torn] 40)).alloc (.cells #[.slice A n c, .slice D m d] 105)).alloc (.cells #[.nilFunc, .func (.func 64) #[.agg #[.slice A n c, .slice D m d]] #[], .func (.func 65) #[.agg #[.slice A n c, .slice D m d]] #[], .func (.func 66) #[.agg #[.slice A n c, .slice D m d]] #[]] 107)).drew D (ints s.disk) := (hD.below hB0 (Nat.le_refl _)).drew
  have H1 := Lib.hid (impl_player_put s e A D n m c d _ hn hm hF0 hD0)
  have H2 := Lib.hid (impl_player_flush s e A D n m c d _ hn hm hF0 hD0)
  have H3 := Lib.hid (impl_player_fill s e A D n m c d _ hn hm hF0 hD0)
  clear hn hm hF0 hD0 hF hD
  obtain ⟨k, a, b, ec, t⟩ := e
  dsimp only at *
  by_cases h1 : k = 1
  · subst h1
    have hq : Hid (stepsOf s ⟨1, a, b, ec, t⟩ = wr s.flash 1 a b) := rfl
    go_enter Tryz.func46, Tryz.ntmps46
    go_wp2
    go_region_with (first | (go_at_call 64; (with_reducible refine H1.out.mono ?_); rintro r w1 ⟨v, rfl, hO, hb⟩))
    all_goals
      go_wp2
      go_ret
      exact ⟨_, rfl, by rw [hq.out]; exact hO.mono hB0.size, hB0.drew.trans (hb.mono hB0.size)⟩
  by_cases h2 : k = 2
  · subst h2
    have hq : Hid (stepsOf s ⟨2, a, b, ec, t⟩ = flush s a) := rfl
    go_enter Tryz.func46, Tryz.ntmps46
    go_wp2
    go_region_with (first | (go_at_call 65; (with_reducible refine H2.out.mono ?_); rintro r w1 ⟨v, rfl, hO, hb⟩))
    all_goals
      go_wp2
      go_ret
      exact ⟨_, rfl, by rw [hq.out]; exact hO.mono hB0.size, hB0.drew.trans (hb.mono hB0.size)⟩
  by_cases h3 : k = 3
  · subst h3
    have hq : Hid (stepsOf s ⟨3, a, b, ec, t⟩ = fill s a) := rfl
    go_enter Tryz.func46, Tryz.ntmps46
    go_wp2
    go_region_with (first | (go_at_call 66; (with_reducible refine H3.out.mono ?_); rintro r w1 ⟨v, rfl, hO, hb⟩))
    all_goals
      go_wp2
      go_ret
      exact ⟨_, rfl, by rw [hq.out]; exact hO.mono hB0.size, hB0.drew.trans (hb.mono hB0.size)⟩
  have hq : Hid (okSteps s (stepsOf s ⟨k, a, b, ec, t⟩) = []) := by
    unfold Hid stepsOf okSteps
    dsimp only
    rw [if_neg h1, if_neg h2, if_neg h3]
    split <;> rfl
  have hk : k < 1 ∨ 3 < k := by omega
  rcases hk with hk | hk
  · go_enter Tryz.func46, Tryz.ntmps46
    go_wp2
    go_ret
    exact ⟨_, rfl, by rw [hq.out]; exact OwnS.nul _ _, hB0⟩
  · have hk2 : ¬ k < 1 := by omega
    go_enter Tryz.func46, Tryz.ntmps46
    go_wp2
    go_ret
    exact ⟨_, rfl, by rw [hq.out]; exact OwnS.nul _ _, hB0⟩
end Go.Proofs.YtohkoogmbfaceaaGreat
open Go.RowKit Go.IntWalk Go.Maps
namespace Go.Proofs.YtohkoogmbfaceaaGreat
set_option linter.unusedVariables false
set_option linter.unusedSimpArgs false
set_option maxHeartbeats 2000000
set_option maxRecDepth 20000
/-- a store in a box -/
def BoxSt (w : World) (lo ob : Nat) (t : St) : Prop :=
  ∃ A c D d hs, w.cell? ⟨ob, 0, none⟩ = some (.slice A 4 c) ∧ w.cell? ⟨ob, 1, none⟩ = some (.slice D 6 d) ∧ w.frozen? ⟨ob, 0, none⟩ = false ∧ w.frozen? ⟨ob, 1, none⟩ = false ∧ (∃ h, Apt lo h A hs ∧ h ≤ w.heap.size) ∧ Bks w A t.flash hs ∧ (∀ b, fblk A hs b → lo ≤ b ∧ b ≠ ob) ∧ Row w D (ints t.disk) ∧ ∀ b, blk D b → lo ≤ b ∧ b ≠ ob ∧ ¬ fblk A hs b
theorem BoxSt.below {w w' : World} {lo ob B : Nat} {t : St} (h : BoxSt w lo ob t) (hb : Below B w w') (hB : w.heap.size ≤ B) : BoxSt w' lo ob t := by
  obtain ⟨A, c, D, d, hs, o0, o1, f0, f1, ⟨hi, ha, hle⟩, hBk, h1, hD, h2⟩ := h
  have hob := lt_of_cell o0
  exact ⟨A, c, D, d, hs, (hb.cell (p := ⟨ob, 0, none⟩) (by show ob < B; omega)).trans o0, (hb.cell (p := ⟨ob, 1, none⟩) (by show ob < B; omega)).trans o1, (hb.frozen (p := ⟨ob, 0, none⟩) (by show ob < B; omega)).trans f0, (hb.frozen (p := ⟨ob, 1, none⟩) (by show ob < B; omega)).trans f1, ⟨hi, ha, Nat.le_trans hle hb.size⟩, hBk.below hb hB, h1, hD.below hb hB, h2⟩
theorem BoxSt.alloc {w : World} {lo ob : Nat} {t : St} (h : BoxSt w lo ob t) (o : Obj) : BoxSt (w.alloc o) lo ob t := h.below (B := w.heap.size) ((Below.refl _ _).alloc (Nat.le_refl _) _) (Nat.le_refl _)
theorem OSt.flAt0 {w : World} {lo hi : Nat} {A D : Option Addr} {f : List Bk} {xs : List Int} (h : OSt w lo hi A f D xs) : FlAt w lo A f := by obtain ⟨hs, h1, h2, _⟩ := h; exact ⟨hs, h1, fun b hb => (h2.fblk hb).1⟩
theorem OSt.dlo {w : World} {lo hi : Nat} {A D : Option Addr} {f : List Bk} {xs : List Int} (h : OSt w lo hi A f D xs) : ∀ b, blk D b → lo ≤ b := by obtain ⟨hs, _, _, _, h4⟩ := h; exact fun b hb => (h4 b hb).1
theorem BoxSt.put {w w' : World} {lo ob : Nat} {t t' : St} {A D : Option Addr} {c d : Nat} (h : BoxSt w lo ob t) (hO : OSt w (ob + 1) w.heap.size A t'.flash D t'.disk) (hl : lo ≤ ob) (hw : w' = (w.setCell ⟨ob, 0, none⟩ (.slice A 4 c)).setCell ⟨ob, 1, none⟩ (.slice D 6 d)) : BoxSt w' lo ob t' := by
  obtain ⟨_, _, _, _, _, o0, o1, f0, f1, _⟩ := h
  obtain ⟨hs, hBk, hApt, hD, hdb⟩ := hO
  have hlo : ∀ b, fblk A hs b → ob + 1 ≤ b := fun b hb => (hApt.fblk hb).1
  have hd : ∀ b, blk D b → ob + 1 ≤ b := fun b hb => (hdb b hb).1
  have hW : Wrote w w' ob 0 [.slice A 4 c, .slice D 6 d] := by
    rw [hw]
    exact wrote_setRow ob [.slice A 4 c, .slice D 6 d] 0 w (fun j hj => by
      match j, hj with
      | 0, _ => exact ⟨_, o0⟩
      | 1, _ => exact ⟨_, o1⟩)
  refine ⟨A, c, D, d, hs, hW.new_ 0 _ rfl, hW.new_ 1 _ rfl, (hW.frozen _).trans f0, (hW.frozen _).trans f1, ⟨_, hApt.mono (by omega) (Nat.le_refl _), by rw [hW.size]; exact Nat.le_refl _⟩, hBk.keep fun b hb hl => hW.block b ?_, fun b hb => (by have := hlo b hb; exact ⟨by omega, by omega⟩), hD.keep fun b hb hl => hW.block b (by have := hd b hb; omega), fun b hb => (by have := hd b hb; exact ⟨by omega, by omega, fun hf => hf.elim (fun e => (hdb b hb).2.2.1 e) (fun ⟨i, x, hx, e⟩ => (hdb b hb).2.2.2 i x hx e)⟩)⟩
  have hf : fblk A hs b := by
    rcases hb with hy | ⟨z, hz, hy⟩
    · exact .inl hy
    · obtain ⟨j, hj⟩ := List.getElem?_of_mem hz
      exact .inr ⟨j, z, hj, hy⟩
  have := hlo b hf
  omega
theorem box_cells {w : World} {lo ob : Nat} {t : St} {A D : Option Addr} {c d : Nat} (h : BoxSt w lo ob t) : ((w.setCell ⟨ob, 0, none⟩ (.slice A 4 c)).setCell ⟨ob, 1, none⟩ (.slice D 6 d)).cell? ⟨ob, 0, none⟩ = some (.slice A 4 c) ∧ ((w.setCell ⟨ob, 0, none⟩ (.slice A 4 c)).setCell ⟨ob, 1, none⟩ (.slice D 6 d)).cell? ⟨ob, 1, none⟩ = some (.slice D 6 d) ∧
    ((w.setCell ⟨ob, 0, none⟩ (.slice A 4 c)).setCell ⟨ob, 1, none⟩ (.slice D 6 d)).frozen? ⟨ob, 0, none⟩ = false ∧ ((w.setCell ⟨ob, 0, none⟩ (.slice A 4 c)).setCell ⟨ob, 1, none⟩ (.slice D 6 d)).frozen? ⟨ob, 1, none⟩ = false := by
  obtain ⟨_, _, _, _, _, o0, o1, f0, f1, _⟩ := h
  have hW : Wrote w ((w.setCell ⟨ob, 0, none⟩ (.slice A 4 c)).setCell ⟨ob, 1, none⟩ (.slice D 6 d)) ob 0 [.slice A 4 c, .slice D 6 d] :=
    wrote_setRow ob [.slice A 4 c, .slice D 6 d] 0 w (fun j hj => by
      match j, hj with
      | 0, _ => exact ⟨_, o0⟩
      | 1, _ => exact ⟨_, o1⟩)
  exact ⟨hW.new_ 0 _ rfl, hW.new_ 1 _ rfl, (hW.frozen _).trans f0, (hW.frozen _).trans f1⟩
theorem BoxSt.of {w : World} {lo ob : Nat} {t : St} {A D : Option Addr} {c d : Nat} (o0 : w.cell? ⟨ob, 0, none⟩ = some (.slice A 4 c)) (o1 : w.cell? ⟨ob, 1, none⟩ = some (.slice D 6 d)) (f0 : w.frozen? ⟨ob, 0, none⟩ = false) (f1 : w.frozen? ⟨ob, 1, none⟩ = false) (hO : OSt w (ob + 1) w.heap.size A t.flash D t.disk) (hl : lo ≤ ob) : BoxSt w lo ob t := by
  obtain ⟨hs, hBk, hApt, hD, hdb⟩ := hO
  exact ⟨A, c, D, d, hs, o0, o1, f0, f1, ⟨_, hApt.mono (by omega) (Nat.le_refl _), Nat.le_refl _⟩, hBk, fun b hb => (by have := (hApt.fblk hb).1; exact ⟨by omega, by omega⟩), hD, fun b hb => (by have := (hdb b hb).1; exact ⟨by omega, by omega, fun hf => hf.elim (fun e => (hdb b hb).2.2.1 e) (fun ⟨i, x, hx, e⟩ => (hdb b hb).2.2.2 i x hx e)⟩)⟩
theorem FlAt.keep {w w' : World} {lo : Nat} {A : Option Addr} {f : List Bk} (h : FlAt w lo A f) (hk : ∀ b, lo ≤ b → b < w.heap.size → w'.heap[b]? = w.heap[b]?) : FlAt w' lo A f := by
  obtain ⟨hs, hBk, hlo⟩ := h
  refine ⟨hs, hBk.keep fun b hb hl => hk b (hlo b ?_) hl, hlo⟩
  rcases hb with hy | ⟨z, hz, hy⟩
  · exact .inl hy
  · obtain ⟨j, hj⟩ := List.getElem?_of_mem hz
    exact .inr ⟨j, z, hj, hy⟩
theorem BoxSt.new {w : World} {lo c d : Nat} {A D : Option Addr} {t : St} (hO : OSt w lo w.heap.size A t.flash D t.disk) : BoxSt (w.alloc (.cells #[.slice A 4 c, .slice D 6 d] 27)) lo w.heap.size t := by
  obtain ⟨hs, hBk, hApt, hD, hdb⟩ := hO
  exact ⟨A, c, D, d, hs, by simp, by simp, by simp, by simp, ⟨_, hApt, by simp⟩, hBk.alloc _, fun b hb => (by have := hApt.fblk hb; exact ⟨by omega, by omega⟩), hD.alloc _, fun b hb => (by have := hdb b hb; exact ⟨this.1, by omega, fun hf => hf.elim (fun e => (hdb b hb).2.2.1 e) (fun ⟨i, x, hx, e⟩ => (hdb b hb).2.2.2 i x hx e)⟩)⟩
theorem upto_okay {s : St} (h : Okay s) : ∀ k, k ≤ 6 → Okay (upto s k)
  | 0, _ => h
  | k + 1, hk => (doFlush_flu (upto_okay h k (by omega)) (a := (k : Int) + 1) (by omega)).ok
theorem run_append_zero {P : Program} (t ty elem : TypeId) (i : TypeInfo) (A B : Option Addr) (n c cb : Nat) (hu : P.underlying t = some (.slice elem)) (hi : P.info? elem = some i) (hc : n ≤ c) (w : World) :
    (Builtin.append_ #[t, t] ty #[.slice A n c, .slice B 0 cb]).run P w = .ok (.slice A n c) w := by
  have hf : (Builtin.firstCells i.size 0 (.slice B 0 cb)).run P w = .ok #[] w := by
    cases B with
    | none => simp [Builtin.firstCells]
    | some b => simp [Builtin.firstCells, loadCells, loadCellsFrom]
  cases A with
  | none => simp [Builtin.append_, run_underlying hu, sizeOf, typeInfo, hi, Builtin.lenOf, hc, hf]
  | some a => simp [Builtin.append_, run_underlying hu, sizeOf, typeInfo, hi, Builtin.lenOf, hc, hf, storeCells]
theorem wpList_append_zero {P : Program} {w : World} {ops : Array Oper} {rest : List Oper} {o : Oper} {a : Act} {Q : Exit → Act → World → Prop} (hgd : o.guard = none) (s x : Operand) (t elem : TypeId) (ho : o.op = .call { callee := .builtin .append, args := #[s, x], argTypes := #[t, t] })
    (i : TypeInfo) (A B : Option Addr) (n c cb : Nat) (hu : P.underlying t = some (.slice elem)) (hi : P.info? elem = some i) (hs : a.eval s = .slice A n c) (hx : a.eval x = .slice B 0 cb) (hc : n ≤ c) (h : wpList P ops Q rest (a.put o.dst (.slice A n c)) w) : wpList P ops Q (o :: rest) a w := by
  refine wpList_plain hgd fun K hK => ?_
  have hrun := run_append_zero (P := P) t o.type elem i A B n c cb hu hi hc w
  unfold Oper.wp execOp
  simp only [ho, resolve, invoke, builtin, Sem.run_bind, Sem.run_pure, Result.andThen_ok, List.map_toArray, List.map_cons, List.map_nil, hs, hx, hrun]
  exact hK _ _ h
/-- a store, and steps: what the play's inner functions answer -/
def PlaysPost (t : St) (w : World) (e : Ending) (w' : World) : Prop :=
  ∃ A c D d v, e = .returned (.tuple #[.agg #[.slice A 4 c, .slice D 6 d], v]) ∧ FlAt w' w.heap.size A t.flash ∧ Row w' D (ints t.disk) ∧ (∀ b, blk D b → w.heap.size ≤ b) ∧ Below w.heap.size w w'
/-- the same, and the store owns its memory -/
def PlaysOwn (t : St) (w : World) (e : Ending) (w' : World) : Prop :=
  ∃ A c D d v, e = .returned (.tuple #[.agg #[.slice A 4 c, .slice D 6 d], v]) ∧ OSt w' w.heap.size w'.heap.size A t.flash D t.disk ∧ Below w.heap.size w w'
theorem PlaysOwn.post {t : St} {w w' : World} {e : Ending} (h : PlaysOwn t w e w') : PlaysPost t w e w' := by
  obtain ⟨A, c, D, d, v, rfl, hO, hb⟩ := h
  exact ⟨A, c, D, d, v, rfl, hO.flAt0, hO.disk, hO.dlo, hb⟩
theorem flush_whole {t : St} (h : Okay t) (a : Int) : toR t (flush t a) (flush t a).length false = (doFlush t a, true) := by
  have hb : allB (flush t a) = true := steps_allB h ⟨2, a, 0, 0, false⟩
  unfold toR
  rw [if_neg (by rintro (e | e | e); omega; rw [storeOk_iff.2 h] at e; cases e; rw [hb] at e; cases e)]
  rfl
theorem okSteps_ok {t : St} (h : Okay t) (xs : List Sp) : okSteps t xs = xs := by unfold okSteps; rw [if_pos (storeOk_iff.2 h)]
theorem FlAt.below {w w' : World} {lo lo' B : Nat} {A : Option Addr} {f : List Bk} (h : FlAt w lo A f) (hb : Below B w w') (hB : w.heap.size ≤ B) (hl : lo' ≤ lo) : FlAt w' lo' A f := by
  obtain ⟨hs, h1, h2⟩ := h
  exact ⟨hs, h1.below hb hB, fun b hb => Nat.le_trans hl (h2 b hb)⟩
theorem Row.lo {w : World} {A : Option Addr} {vs : List Value} (h : Row w A vs) (hn : vs ≠ []) : ∀ b, blk A b → b < w.heap.size := fun b hb => h.lt hn hb
theorem impl_playAll_own (s : St) (A D : Option Addr) (c d : Nat) (w : World) (hs : Okay s) (hF : Fl w A s.flash) (hD : Row w D (ints s.disk)) :
    Calls Tryz.prog 45 #[.agg #[.slice A 4 c, .slice D 6 d]] w (PlaysOwn (doEvery s) w) := by
  obtain ⟨ib, hib, hbz0, hbz1, hbz2⟩ := info_parts Tryz.info3_step
  have hB0 : Below w.heap.size w ((w.alloc (.cells #[.slice A 4 c, .slice D 6 d] 27)).alloc (.cells #[.slice none 0 0, .slice none 0 0] 27)) := by (repeat (first | (with_reducible exact Below.refl _ _) | (with_reducible assumption) | (refine Below.setCell ?_ (by first | omega | exact hB.size | exact hb.size | (have h := hB.size; simp; omega) | (have h := hb.size; simp; omega) | (simp; omega) | simp) _) | (refine Below.alloc ?_ (by first | omega | exact hB.size | exact hb.size | (have h := hB.size; simp; omega) | (have h := hb.size; simp; omega) | (simp; omega) | simp) _) | (refine Below.drew ?_)))
  have HSC := Lib.hid (impl_storeCopy s A D c d _ hs.fine (hF.below hB0 (Nat.le_refl _)) (hD.below hB0 (Nat.le_refl _)))
  have HS := Lib.hid hs
  clear hs hF hD
  go_enter Tryz.func45, Tryz.ntmps45
  go_wp2_with fail
  with_reducible refine HSC.out.mono ?_
  rintro e w1 ⟨g0, d0, rfl, hO, hb1⟩
  have hs1 : w.heap.size + 2 ≤ w1.heap.size := by have := hb1.size; simpa using this
  have hB1 : Below w.heap.size w w1 := hB0.trans (hb1.mono (by simp; omega))
  obtain ⟨hc1, hf1⟩ := bcell hb1
  have r0 : w1.cell? ⟨w.heap.size + 1, 0, none⟩ = some (.slice none 0 0) := (hc1 _ _ (by simp)).trans (by simp)
  have r1 : w1.cell? ⟨w.heap.size + 1, 1, none⟩ = some (.slice none 0 0) := (hc1 _ _ (by simp)).trans (by simp)
  have q0 : w1.frozen? ⟨w.heap.size + 1, 0, none⟩ = false := (hf1 _ _ (by simp)).trans (by simp)
  have q1 : w1.frozen? ⟨w.heap.size + 1, 1, none⟩ = false := (hf1 _ _ (by simp)).trans (by simp)
  have hbx := BoxSt.new (c := 4) (d := 6) (t := s) (lo := w.heap.size + 2) (hO.mono (by simp) (Nat.le_refl _))
  clear HSC hO hb1 hc1 hf1 hB0
  go_wp2
  go_loopw [5, 6] (fun u q wr => ∃ (k : Nat) (ys : List Sp) (v : Value), k ≤ 6 ∧ q = .int .i64 (k + 1) ∧ v = u ∧ ys.length ≤ 7 * k ∧ OwnS wr (w1.heap.size + 1) v ys ∧ BoxSt wr (w.heap.size + 2) w1.heap.size (upto s k) ∧ Below w1.heap.size w1 wr ∧ w1.heap.size < wr.heap.size) (fun _ q _ => 7 - (intOf q).toNat)
  case atStart => exact ⟨0, [], _, by omega, rfl, rfl, by simp, OwnS.nul _ _, hbx, by (repeat (first | (with_reducible exact Below.refl _ _) | (with_reducible assumption) | (refine Below.setCell ?_ (by first | omega | exact hB.size | exact hb.size | (have h := hB.size; simp; omega) | (have h := hb.size; simp; omega) | (simp; omega) | simp) _) | (refine Below.alloc ?_ (by first | omega | exact hB.size | exact hb.size | (have h := hB.size; simp; omega) | (have h := hb.size; simp; omega) | (simp; omega) | simp) _) | (refine Below.drew ?_))), by simp⟩
  case round =>
    obtain ⟨k, ys, v, hk, rfl, rfl, hyl, hO, hX, hB, hz⟩ := hrel
    clear hbx
    have hBW := hB1.trans (hB.mono hB1.size)
    have rr0 := (hB.cell (p := ⟨w.heap.size + 1, 0, none⟩) (by show w.heap.size + 1 < _; omega)).trans r0
    have rr1 := (hB.cell (p := ⟨w.heap.size + 1, 1, none⟩) (by show w.heap.size + 1 < _; omega)).trans r1
    have qq0 := (hB.frozen (p := ⟨w.heap.size + 1, 0, none⟩) (by show w.heap.size + 1 < _; omega)).trans q0
    have qq1 := (hB.frozen (p := ⟨w.heap.size + 1, 1, none⟩) (by show w.heap.size + 1 < _; omega)).trans q1
    have hbs := hB.size
    have hOk := upto_okay HS.out k hk
    have HX := Lib.hid hX
    obtain ⟨Ao, co, Do, dd, hso, o0, o1, f0, f1, _, hBk, _, hDo, _⟩ := hX
    by_cases hlt : k < 6
    · have hk1 : (k : Int) + 1 ≤ 6 := by omega
      have hn4 : 4 = (upto s k).flash.length := (flashOk_len hOk.flash).symm
      have hm6 : 6 = (upto s k).disk.length := hOk.len.symm
      have HFLU := Lib.hid (impl_StepsFlush (upto s k) (k + 1) Ao Do 4 6 co dd wr hn4 hm6 ⟨hso, hBk⟩ hDo)
      rw [okSteps_ok hOk] at HFLU
      have hfl := flush_len hOk.fine (k + 1)
      have hwh := Lib.hid (flush_whole hOk (k + 1))
      have hup : Hid (doFlush (upto s k) (k + 1) = upto s (k + 1)) := rfl
      have HOK := Lib.hid hOk
      have HN4 := Lib.hid hn4
      have HM6 := Lib.hid hm6
      have HBK := Lib.hid hBk
      have HDO := Lib.hid hDo
      have e1 : IntKind.i64.wrap ((k : Int) + 1 + 1) = (k : Int) + 1 + 1 := IntWalk.i64_in _ (by omega)
      clear hn4 hm6 hOk hBk hDo
      go_wp2_with fail
      with_reducible refine HFLU.out.mono ?_
      rintro e w2 ⟨v2, rfl, hO2, hb2⟩
      generalize flush (upto s k) (k + 1) = xs at *
      obtain ⟨V, cs, rfl, hcs, hRow, hblk⟩ := hO2.shape
      have hs2 := hb2.size
      have hX2 := HX.out.below hb2 (Nat.le_refl _)
      have hOv := hO.below hb2 (Nat.le_refl _)
      have hB2 := hB.trans (hb2.mono hbs)
      replace o0 := (hb2.cell (p := ⟨w1.heap.size, 0, none⟩) hz).trans o0
      replace o1 := (hb2.cell (p := ⟨w1.heap.size, 1, none⟩) hz).trans o1
      have HTO := Lib.hid (impl_StepsTo_own (upto s k) xs xs.length false Ao Do V 4 6 co dd cs w2 HN4.out HM6.out (by omega) (Fl.below ⟨hso, HBK.out⟩ hb2 (Nat.le_refl _)) (HDO.out.below hb2 (Nat.le_refl _)) hRow)
      rw [hwh.out, hup.out] at HTO
      clear HFLU hwh hb2 hO HX
      go_wp2_with fail
      with_reducible refine HTO.out.mono ?_
      rintro e w3 ⟨A3, c3, D3, d3, rfl, hOO, hb3⟩
      have hF3 := hOO.flAt0
      have hD3 := hOO.disk
      have hl3 := hOO.dlo
      have hOk3 := upto_okay HS.out (k + 1) (by omega)
      dsimp only at hF3 hD3 hOO
      rw [show ((upto s (k + 1), true) : St × Bool).1.flash.length = 4 from flashOk_len hOk3.flash, show ((upto s (k + 1), true) : St × Bool).1.disk.length = 6 from hOk3.len]
      have hs3 := hb3.size
      have hX3 := hX2.below hb3 (Nat.le_refl _)
      have hO3 := hOv.below hb3 (Nat.le_refl _)
      have hRow3 := hRow.below hb3 (Nat.le_refl _)
      have hB3 := hB2.trans (hb3.mono (by omega))
      have hF4 : FlAt w3 (w1.heap.size + 1) A3 (upto s (k + 1)).flash := hF3.below (Below.refl w3.heap.size _) (Nat.le_refl _) (by omega)
      have hX5 := Lib.hid ((hX3.put (c := c3) (d := d3) (hOO.mono (by omega) (Nat.le_refl _)) (by omega) rfl).alloc (.cells #[.slice A3 4 c3, .slice D3 6 d3] 27))
      have hX3' := hX3
      obtain ⟨_, _, _, _, _, p0, p1, p2, p3, _⟩ := hX3'
      have hO4 : OwnS (((w3.setCell ⟨w1.heap.size, 0, none⟩ (.slice A3 4 c3)).setCell ⟨w1.heap.size, 1, none⟩ (.slice D3 6 d3)).alloc (.cells #[.slice A3 4 c3, .slice D3 6 d3] 27)) (w1.heap.size + 1) v ys := World.ownsRow.alloc (ownsRow_setCell_other (a := ⟨w1.heap.size, 1, none⟩) (ownsRow_setCell_other (a := ⟨w1.heap.size, 0, none⟩) hO3 (fun e => by have := (World.ownsRow.lt hO3 _ e).1; dsimp only at this; omega) (.slice A3 4 c3)) (fun e => by have := (World.ownsRow.lt hO3 _ e).1; dsimp only at this; omega) (.slice D3 6 d3)) _
      have hB5 : Below w1.heap.size w1 (((w3.setCell ⟨w1.heap.size, 0, none⟩ (.slice A3 4 c3)).setCell ⟨w1.heap.size, 1, none⟩ (.slice D3 6 d3)).alloc (.cells #[.slice A3 4 c3, .slice D3 6 d3] 27)) := ((hB3.setCell (p := ⟨w1.heap.size, 0, none⟩) (Nat.le_refl _) _).setCell (p := ⟨w1.heap.size, 1, none⟩) (Nat.le_refl _) _).alloc (by simp; omega) _
      have hz3 : w1.heap.size < w3.heap.size := by omega
      have hobv : ∀ q, v.ownBlock = some q → q < w2.heap.size := fun q e => (World.ownsRow.lt hOv q e).2
      have hbc := Lib.hid (box_cells (A := A3) (D := D3) (c := c3) (d := d3) hX3)
      have hF5 : FlAt (((w3.setCell ⟨w1.heap.size, 0, none⟩ (.slice A3 4 c3)).setCell ⟨w1.heap.size, 1, none⟩ (.slice D3 6 d3)).alloc (.cells #[.slice A3 4 c3, .slice D3 6 d3] 27)) w2.heap.size A3 (upto s (k + 1)).flash := hF3.keep fun b hb hl => by
        rw [Below.heap_alloc _ _ _ (by simpa using hl), Below.heap_setCell _ _ _ _ (show b ≠ w1.heap.size by omega), Below.heap_setCell _ _ _ _ (show b ≠ w1.heap.size by omega)]
      have hD5 : Row (((w3.setCell ⟨w1.heap.size, 0, none⟩ (.slice A3 4 c3)).setCell ⟨w1.heap.size, 1, none⟩ (.slice D3 6 d3)).alloc (.cells #[.slice A3 4 c3, .slice D3 6 d3] 27)) D3 (ints (upto s (k + 1)).disk) := hD3.keep fun b hb hl => by
        have := hl3 b hb
        rw [Below.heap_alloc _ _ _ (by simpa using hl), Below.heap_setCell _ _ _ _ (show b ≠ w1.heap.size by omega), Below.heap_setCell _ _ _ _ (show b ≠ w1.heap.size by omega)]
      have HOO5 : Hid (OSt (((w3.setCell ⟨w1.heap.size, 0, none⟩ (.slice A3 4 c3)).setCell ⟨w1.heap.size, 1, none⟩ (.slice D3 6 d3)).alloc (.cells #[.slice A3 4 c3, .slice D3 6 d3] 27)) w2.heap.size w3.heap.size A3 (upto s (k + 1)).flash D3 (upto s (k + 1)).disk) := hOO.keep fun b hb _ hl => by
        rw [Below.heap_alloc _ _ _ (by simpa using hl), Below.heap_setCell _ _ _ _ (show b ≠ w1.heap.size by omega), Below.heap_setCell _ _ _ _ (show b ≠ w1.heap.size by omega)]
      have HL3 := Lib.hid hl3
      have HF5 := Lib.hid hF5
      have HD5 := Lib.hid hD5
      clear hF5 hD5
      have hnb : ∀ q, v.ownBlock = some q → w1.heap.size + 1 ≤ q := fun q e => (World.ownsRow.lt hO3 q e).1
      by_cases hx : xs = []
      · subst hx
        obtain ⟨Av, cv, hv, hcv, _⟩ := OwnS.shape hO3
        subst hv
        clear hF3 hF4 hD3 hl3 hX3 hRow3 hO3 hblk hnb hOO
        dsimp only
        have HCV := Lib.hid hcv
        go_wp2_with (at_builtin; refine wpList_append_zero rfl (.tmp 29) (.tmp 30) 51 66 rfl ib Av V ys.length cv cs Tryz.underlying51 hib rfl rfl HCV.out ?_)
        go_roundw
        case rel => exact ⟨k + 1, ys, _, by omega, by go_num, rfl, by omega, hO4, hX5.out, hB5, by simp; omega⟩
        case measure => simp [intOf]; omega
      · have hlen : 0 < xs.length := List.length_pos_iff.2 hx
        obtain ⟨vb, vo, rfl⟩ := hRow3.addr (by intro e; have := sps_len xs; rw [e] at this; simp at this; omega)
        have hvb := hblk vb (blk_some.2 rfl)
        have hRow5 : Row (((w3.setCell ⟨w1.heap.size, 0, none⟩ (.slice A3 4 c3)).setCell ⟨w1.heap.size, 1, none⟩ (.slice D3 6 d3)).alloc (.cells #[.slice A3 4 c3, .slice D3 6 d3] 27)) (some ⟨vb, vo, none⟩) (sps xs) := Row.alloc (hRow3.keep fun b hb _ => by
          rw [blk_some] at hb
          subst hb
          rw [Below.heap_setCell _ _ _ _ (show vb ≠ w1.heap.size by omega), Below.heap_setCell _ _ _ _ (show vb ≠ w1.heap.size by omega)]) _
        clear hF3 hF4 hD3 hl3 hX3 hRow3 hO3 hblk hOO
        have hA2 : ys.length + xs.length ≤ maxLen := by unfold maxLen; omega
        have hA3 : (ys.length + xs.length) * 64 ≤ 140737488355328 := by omega
        have hA4 : w1.heap.size + 1 ≤ (((w3.setCell ⟨w1.heap.size, 0, none⟩ (.slice A3 4 c3)).setCell ⟨w1.heap.size, 1, none⟩ (.slice D3 6 d3)).alloc (.cells #[.slice A3 4 c3, .slice D3 6 d3] 27)).heap.size := by simp; omega
        have hA5 : (((w3.setCell ⟨w1.heap.size, 0, none⟩ (.slice A3 4 c3)).setCell ⟨w1.heap.size, 1, none⟩ (.slice D3 6 d3)).alloc (.cells #[.slice A3 4 c3, .slice D3 6 d3] 27)).heap.size = w3.heap.size + 1 := by simp
        have HA2 := Lib.hid hA2
        have HA3 := Lib.hid hA3
        have HA4 := Lib.hid hA4
        have HA5 := Lib.hid hA5
        have HLN := Lib.hid hlen
        clear hA2 hA3 hA4 hA5
        dsimp only
        go_wp2_with (at_builtin; refine wpList_append_lies _ rfl (.tmp 29) (.tmp 30) _ rfl (w1.heap.size + 1) 66 ib _ 8 64 Tryz.underlying51 hib hbz0 hbz1 hbz2 rfl (by decide) v ys.length (sps ys) rfl hO4 ⟨vb, vo, none⟩ xs.length cs (sps xs) rfl (sps_len xs) hRow5.news (sps_one xs) HLN.out HA2.out HA3.out HA4.out (w3.heap.size + 1) HA5.out ?_; intro g2 c2 w6 hown2 hgrow2 hat2 hlt2)
        have hbb : Below (w1.heap.size + 1) (((w3.setCell ⟨w1.heap.size, 0, none⟩ (.slice A3 4 c3)).setCell ⟨w1.heap.size, 1, none⟩ (.slice D3 6 d3)).alloc (.cells #[.slice A3 4 c3, .slice D3 6 d3] 27)) w6 := (Below.refl _ _).grown hgrow2 (by simp; omega) hnb
        have hOS := OwnS.onto (xs := ys) rfl hown2
        have hB6 := hB5.trans (hbb.mono (by omega))
        have hs6 := hbb.size
        have hz6 : w1.heap.size < w6.heap.size := by simp at hs6; omega
        obtain ⟨_, _, _, _, hg5⟩ := hgrow2
        have hk6 : ∀ b, w2.heap.size ≤ b → b < (((w3.setCell ⟨w1.heap.size, 0, none⟩ (.slice A3 4 c3)).setCell ⟨w1.heap.size, 1, none⟩ (.slice D3 6 d3)).alloc (.cells #[.slice A3 4 c3, .slice D3 6 d3] 27)).heap.size → w6.heap[b]? = (((w3.setCell ⟨w1.heap.size, 0, none⟩ (.slice A3 4 c3)).setCell ⟨w1.heap.size, 1, none⟩ (.slice D3 6 d3)).alloc (.cells #[.slice A3 4 c3, .slice D3 6 d3] 27)).heap[b]? := fun b hb hl => hg5 b hl (fun e => by have := hobv b e.symm; omega)
        obtain ⟨z0, z1, z2, z3⟩ := hbc.out
        have hzz : w1.heap.size < ((w3.setCell ⟨w1.heap.size, 0, none⟩ (.slice A3 4 c3)).setCell ⟨w1.heap.size, 1, none⟩ (.slice D3 6 d3)).heap.size := by simp; omega
        have hX6 : BoxSt w6 (w.heap.size + 2) w1.heap.size (upto s (k + 1)) := BoxSt.of ((hbb.cell (p := ⟨w1.heap.size, 0, none⟩) (by show w1.heap.size < _; omega)).trans (cellP z0 _)) ((hbb.cell (p := ⟨w1.heap.size, 1, none⟩) (by show w1.heap.size < _; omega)).trans (cellP z1 _))
          ((hbb.frozen (p := ⟨w1.heap.size, 0, none⟩) (by show w1.heap.size < _; omega)).trans (fzP hzz z2 _)) ((hbb.frozen (p := ⟨w1.heap.size, 1, none⟩) (by show w1.heap.size < _; omega)).trans (fzP hzz z3 _))
          ((HOO5.out.keep fun b h1 _ hl => hk6 b h1 hl).mono (by omega) (by have h := hs6; rw [HA5.out] at h; omega)) (by omega)
        go_roundw
        case rel => exact ⟨k + 1, ys ++ xs, _, by omega, by go_num, rfl, by simp; omega, hOS, hX6, hB6, hz6⟩
        case measure => simp [intOf]; omega
    · have hk6 : k = 6 := by omega
      have hki : (6 : Int) ≤ k := by omega
      have h6 : upto s k = doEvery s := by rw [hk6, upto_six]
      have hkk : ¬ ((k : Int) + 1 ≤ 6) := by omega
      have hz7 : w.heap.size + 1 < wr.heap.size := by omega
      have hXo := HX.out
      obtain ⟨A', c', D', d', hs', p0, p1, _, _, ⟨hi', hApt', hle'⟩, hBk', hne, hD', hned⟩ := hXo
      have hd6 : (upto s k).disk.length = 6 := hOk.len
      clear HX hk6 hk hlt hki
      go_wp2
      have e0 := p0; have e1 := p1
      rw [o0] at e0; rw [o1] at e1
      cases e0; cases e1
      have hk2 : ∀ b, w.heap.size + 2 ≤ b → ((wr.setCell ⟨w.heap.size + 1, 0, none⟩ (.slice Ao 4 co)).setCell ⟨w.heap.size + 1, 1, none⟩ (.slice Do 6 dd)).heap[b]? = wr.heap[b]? := fun b hb => by
        rw [Below.heap_setCell _ _ _ _ (show b ≠ w.heap.size + 1 by omega), Below.heap_setCell _ _ _ _ (show b ≠ w.heap.size + 1 by omega)]
      refine bodyPost_ret (v := .tuple #[.agg #[.slice Ao 4 co, .slice Do 6 dd], v]) (by simp [results, Tryz.results45, go_sem, hz7, rr0, rr1]) rfl ⟨Ao, co, Do, dd, v, rfl, ?_, ?_⟩
      · rw [← h6]
        have hO9 : OSt wr (w.heap.size + 2) wr.heap.size Ao (upto s k).flash Do (upto s k).disk := ⟨hs', hBk', hApt'.mono (Nat.le_refl _) hle', hD', fun b hb => ⟨(hned b hb).1, hD'.lt (ints_ne' (by intro e; rw [e] at hd6; simp at hd6)) hb, fun e => (hned b hb).2.2 (.inl e), fun i x hx e => (hned b hb).2.2 (.inr ⟨i, x, hx, e⟩)⟩⟩
        exact (hO9.keep fun b hb _ _ => hk2 b hb).mono (by omega) (by simp)
      · refine Below.setCell (Below.setCell hBW ?_ _) ?_ _ <;> (show w.heap.size ≤ w.heap.size + 1; omega)
end Go.Proofs.YtohkoogmbfaceaaGreat
open Go.RowKit Go.IntWalk Go.Maps
namespace Go.Proofs.YtohkoogmbfaceaaGreat
set_option linter.unusedVariables false
set_option linter.unusedSimpArgs false
set_option maxHeartbeats 2000000
set_option maxRecDepth 20000
theorem toR_event {s : St} (h : Okay s) (e : Ev) : toR s (stepsOf s e) e.c e.torn = if e.c < 0 then (st0, false) else (doTo s (stepsOf s e) e.c e.torn, true) := by
  have hb := steps_allB h e
  have hs := storeOk_iff.2 h
  unfold toR
  by_cases hc : e.c < 0
  · rw [if_pos (.inl hc), if_pos hc]
  · rw [if_neg (by rintro (q | q | q); exact hc q; rw [hs] at q; cases q; rw [hb] at q; cases q), if_neg hc]
theorem PlaysOwn.more {t : St} {w w' w'' : World} {e : Ending} (h : PlaysOwn t w e w') (hb : Below w'.heap.size w' w'') : PlaysOwn t w e w'' := by
  obtain ⟨A, c, D, d, v, he, h1, h4⟩ := h
  exact ⟨A, c, D, d, v, he, (h1.below hb (Nat.le_refl _)).mono (Nat.le_refl _) hb.size, h4.trans (hb.mono h4.size)⟩
theorem impl_playBegun_own (s : St) (e : Ev) (A D : Option Addr) (c d : Nat) (w : World) (hs : Okay s) (hF : Fl w A s.flash) (hD : Row w D (ints s.disk)) :
    Calls Tryz.prog 31 #[.agg #[.slice A 4 c, .slice D 6 d], .agg #[.int .i64 e.kind, .int .i64 e.a, .int .i64 e.b, .int .i64 e.c, .bool e.torn]] w (PlaysOwn (doEv s e) w) := by
  have hB0 : Below w.heap.size w (((w.alloc (.cells #[.slice A 4 c, .slice D 6 d] 27)).alloc (.cells #[.int .i64 e.kind, .int .i64 e.a, .int .i64 e.b, .int .i64 e.c, .bool e.torn] 40)).alloc (.cells #[.slice none 0 0, .slice none 0 0] 27)) := by (repeat (first | (with_reducible exact Below.refl _ _) | (with_reducible assumption) | (refine Below.setCell ?_ (by first | omega | exact hB.size | exact hb.size | (have h := hB.size; simp; omega) | (have h := hb.size; simp; omega) | (simp; omega) | simp) _) | (refine Below.alloc ?_ (by first | omega | exact hB.size | exact hb.size | (have h := hB.size; simp; omega) | (have h := hb.size; simp; omega) | (simp; omega) | simp) _) | (refine Below.drew ?_)))
  have hF0 := hF.below hB0 (Nat.le_refl _)
  have hD0 := hD.below hB0 (Nat.le_refl _)
  have hn4 : 4 = s.flash.length := (flashOk_len hs.flash).symm
  have hm6 : 6 = s.disk.length := hs.len.symm
  have HPA := Lib.hid (impl_playAll_own s A D c d _ hs hF0 hD0)
  have HPS := Lib.hid (impl_PlaySteps s e A D 4 6 c d _ hn4 hm6 hF0 hD0)
  rw [okSteps_ok hs] at HPS
  have HN4 := Lib.hid hn4
  have HM6 := Lib.hid hm6
  have HS := Lib.hid hs
  have HF := Lib.hid hF
  have HD := Lib.hid hD
  have htr := Lib.hid (toR_event hs e)
  have hev : Hid (doEv s e = if e.kind = 4 then doEvery s else if e.c < 0 then s else doTo s (stepsOf s e) e.c e.torn) := rfl
  have hok := doEv_evt hs e
  have HL4 := Lib.hid (flashOk_len hok.ok.flash)
  have HL6 := Lib.hid hok.ok.len
  have hsl : Hid ((stepsOf s e).length ≤ 8) := stepsOf_len hs.fine e
  clear hs hF hD hF0 hD0 hn4 hm6 hok
  obtain ⟨k, ea, eb, ec, t⟩ := e
  dsimp only at *
  by_cases h4 : k = 4
  · subst h4
    rw [if_pos rfl] at hev
    go_enter Tryz.func31, Tryz.ntmps31
    go_wp2_with fail
    with_reducible refine HPA.out.mono ?_
    rintro r w1 ⟨A1, c1, D1, d1, v, rfl, hO1, hb⟩
    have hs1 : w.heap.size + 3 ≤ w1.heap.size := by have := hb.size; simpa using this
    obtain ⟨hcc, hff⟩ := bcell hb
    have r0 : w1.cell? ⟨w.heap.size + 1 + 1, 0, none⟩ = some (.slice none 0 0) := (hcc _ _ (by simp)).trans ((top3 w _ _ #[.slice none 0 0, .slice none 0 0] 27).at0 (j := 0) rfl).1
    have r1 : w1.cell? ⟨w.heap.size + 1 + 1, 1, none⟩ = some (.slice none 0 0) := (hcc _ _ (by simp)).trans ((top3 w _ _ #[.slice none 0 0, .slice none 0 0] 27).at0 (j := 1) rfl).1
    have q0 : w1.frozen? ⟨w.heap.size + 1 + 1, 0, none⟩ = false := (hff _ _ (by simp)).trans ((top3 w _ _ #[.slice none 0 0, .slice none 0 0] 27).at0 (j := 0) rfl).2
    have q1 : w1.frozen? ⟨w.heap.size + 1 + 1, 1, none⟩ = false := (hff _ _ (by simp)).trans ((top3 w _ _ #[.slice none 0 0, .slice none 0 0] 27).at0 (j := 1) rfl).2
    have hB1 : Below w.heap.size w w1 := hB0.trans (hb.mono (by simp; omega))
    have hsz : (((w.alloc (.cells #[.slice A 4 c, .slice D 6 d] 27)).alloc (.cells #[.int .i64 4, .int .i64 ea, .int .i64 eb, .int .i64 ec, .bool t] 40)).alloc (.cells #[.slice none 0 0, .slice none 0 0] 27)).heap.size = w.heap.size + 3 := by simp
    rw [hsz] at hO1
    have hz : w.heap.size + 1 + 1 < w1.heap.size := by omega
    have hk2 : ∀ b, w.heap.size + 3 ≤ b → ((w1.setCell ⟨w.heap.size + 1 + 1, 0, none⟩ (.slice A1 4 c1)).setCell ⟨w.heap.size + 1 + 1, 1, none⟩ (.slice D1 6 d1)).heap[b]? = w1.heap[b]? := fun b hb => by
      rw [Below.heap_setCell _ _ _ _ (show b ≠ w.heap.size + 1 + 1 by omega), Below.heap_setCell _ _ _ _ (show b ≠ w.heap.size + 1 + 1 by omega)]
    clear hcc hff hb hsz
    go_wp2
    refine bodyPost_ret (v := .tuple #[.agg #[.slice A1 4 c1, .slice D1 6 d1], v]) (by simp [results, Tryz.results31, go_sem, hz, r0, r1]) rfl ⟨A1, c1, D1, d1, v, rfl, ?_, ?_⟩
    · rw [hev.out]
      exact (hO1.keep fun b hb _ _ => hk2 b hb).mono (by omega) (by simp)
    · refine Below.setCell (Below.setCell hB1 ?_ _) ?_ _ <;> (show w.heap.size ≤ w.heap.size + 1 + 1; omega)
  · rw [if_neg h4] at hev
    have h4' : (k == 4) = false := by simpa using h4
    go_enter Tryz.func31, Tryz.ntmps31
    go_wp2_with fail
    with_reducible refine HPS.out.mono ?_
    rintro r w1 ⟨v1, rfl, hO, hb⟩
    have hs1 : w.heap.size + 3 ≤ w1.heap.size := by have := hb.size; simpa using this
    obtain ⟨hcc, hff⟩ := bcell hb
    have x0 : w1.cell? ⟨w.heap.size, 0, none⟩ = some (.slice A 4 c) := (hcc _ _ (by simp; omega)).trans (cellP (cellP (by simp) _) _)
    have x1 : w1.cell? ⟨w.heap.size, 1, none⟩ = some (.slice D 6 d) := (hcc _ _ (by simp; omega)).trans (cellP (cellP (by simp) _) _)
    have y3 : w1.cell? ⟨w.heap.size + 1, 3, none⟩ = some (.int .i64 ec) := (hcc _ _ (by simp)).trans (cellP (by simp) _)
    have y4 : w1.cell? ⟨w.heap.size + 1, 4, none⟩ = some (.bool t) := (hcc _ _ (by simp)).trans (cellP (by simp) _)
    have r0 : w1.cell? ⟨w.heap.size + 1 + 1, 0, none⟩ = some (.slice none 0 0) := (hcc _ _ (by simp)).trans ((top3 w _ _ #[.slice none 0 0, .slice none 0 0] 27).at0 (j := 0) rfl).1
    have r1 : w1.cell? ⟨w.heap.size + 1 + 1, 1, none⟩ = some (.slice none 0 0) := (hcc _ _ (by simp)).trans ((top3 w _ _ #[.slice none 0 0, .slice none 0 0] 27).at0 (j := 1) rfl).1
    have q0 : w1.frozen? ⟨w.heap.size + 1 + 1, 0, none⟩ = false := (hff _ _ (by simp)).trans ((top3 w _ _ #[.slice none 0 0, .slice none 0 0] 27).at0 (j := 0) rfl).2
    have q1 : w1.frozen? ⟨w.heap.size + 1 + 1, 1, none⟩ = false := (hff _ _ (by simp)).trans ((top3 w _ _ #[.slice none 0 0, .slice none 0 0] 27).at0 (j := 1) rfl).2
    have hB1 : Below w.heap.size w w1 := hB0.trans (hb.mono (by simp; omega))
    generalize stepsOf s ⟨k, ea, eb, ec, t⟩ = xs at *
    obtain ⟨V, cs, rfl, hcs, hRow, hblk⟩ := hO.shape
    have HTO := Lib.hid (impl_StepsTo_own s xs ec t A D V 4 6 c d cs w1 HN4.out HM6.out (by have := hsl.out; omega) (HF.out.below hB1 (Nat.le_refl _)) (HD.out.below hB1 (Nat.le_refl _)) hRow)
    rw [htr.out] at HTO
    have HCS := Lib.hid hcs
    clear hcc hff hb hO hRow hblk htr HPA HPS hB0
    go_wp2_with fail
    with_reducible refine HTO.out.mono ?_
    rintro r w2 ⟨A2, c2, D2, d2, rfl, hO2, hb2⟩
    have hs2 := hb2.size
    replace x0 := (hb2.cell (p := ⟨w.heap.size, 0, none⟩) (by show w.heap.size < _; omega)).trans x0
    replace x1 := (hb2.cell (p := ⟨w.heap.size, 1, none⟩) (by show w.heap.size < _; omega)).trans x1
    replace y3 := (hb2.cell (p := ⟨w.heap.size + 1, 3, none⟩) (by show w.heap.size + 1 < _; omega)).trans y3
    replace y4 := (hb2.cell (p := ⟨w.heap.size + 1, 4, none⟩) (by show w.heap.size + 1 < _; omega)).trans y4
    replace r0 := (hb2.cell (p := ⟨w.heap.size + 1 + 1, 0, none⟩) (by show w.heap.size + 1 + 1 < _; omega)).trans r0
    replace r1 := (hb2.cell (p := ⟨w.heap.size + 1 + 1, 1, none⟩) (by show w.heap.size + 1 + 1 < _; omega)).trans r1
    replace q0 := (hb2.frozen (p := ⟨w.heap.size + 1 + 1, 0, none⟩) (by show w.heap.size + 1 + 1 < _; omega)).trans q0
    replace q1 := (hb2.frozen (p := ⟨w.heap.size + 1 + 1, 1, none⟩) (by show w.heap.size + 1 + 1 < _; omega)).trans q1
    have hB2 := hB1.trans (hb2.mono hB1.size)
    have z0 : w.heap.size < w2.heap.size := by omega
    have z1 : w.heap.size + 1 < w2.heap.size := by omega
    have z2 : w.heap.size + 1 + 1 < w2.heap.size := by omega
    clear HTO hb2 h4
    have hend : ∀ (w3 : World) (A3 D3 : Option Addr) (c3 d3 lo : Nat) (v : Value) (t' : St), w.heap.size + 3 ≤ lo → Below w.heap.size w w3 → OSt w3 lo w3.heap.size A3 t'.flash D3 t'.disk → t' = doEv s ⟨k, ea, eb, ec, t⟩ →
        PlaysOwn (doEv s ⟨k, ea, eb, ec, t⟩) w (.returned (.tuple #[.agg #[.slice A3 4 c3, .slice D3 6 d3], v])) ((w3.setCell ⟨w.heap.size + 1 + 1, 0, none⟩ (.slice A3 4 c3)).setCell ⟨w.heap.size + 1 + 1, 1, none⟩ (.slice D3 6 d3)) := fun w3 A3 D3 c3 d3 lo v t' h1 h2 h3 h6 => by
      have hk2 : ∀ b, lo ≤ b → ((w3.setCell ⟨w.heap.size + 1 + 1, 0, none⟩ (.slice A3 4 c3)).setCell ⟨w.heap.size + 1 + 1, 1, none⟩ (.slice D3 6 d3)).heap[b]? = w3.heap[b]? := fun b hb => by
        rw [Below.heap_setCell _ _ _ _ (show b ≠ w.heap.size + 1 + 1 by omega), Below.heap_setCell _ _ _ _ (show b ≠ w.heap.size + 1 + 1 by omega)]
      rw [← h6]
      refine ⟨A3, c3, D3, d3, v, rfl, (h3.keep fun b hb _ _ => hk2 b hb).mono (by omega) (by simp), ?_⟩
      · refine Below.setCell (Below.setCell h2 ?_ _) ?_ _ <;> (show w.heap.size ≤ w.heap.size + 1 + 1; omega)
    have HEND := Lib.hid hend
    clear hend
    by_cases hc : ec < 0
    · rw [if_pos hc] at hev
      rw [if_pos hc]
      rw [show ((st0, false) : St × Bool).1.flash.length = 0 from rfl, show ((st0, false) : St × Bool).1.disk.length = 0 from rfl]
      dsimp only
      have HSC := Lib.hid (impl_storeCopy s A D c d _ HS.out.fine ((HF.out.below hB2 (Nat.le_refl _)).alloc (.cells #[.slice A2 0 c2, .slice D2 0 d2] 27)) ((HD.out.below hB2 (Nat.le_refl _)).alloc (.cells #[.slice A2 0 c2, .slice D2 0 d2] 27)))
      clear hO2 hc
      go_wp2_with fail
      with_reducible refine HSC.out.mono ?_
      rintro r w3 ⟨g3, d3, rfl, hO3, hb3⟩
      have hs3 : w2.heap.size + 1 ≤ w3.heap.size := by have := hb3.size; simpa using this
      obtain ⟨hcc, hff⟩ := bcell hb3
      replace r0 := (hcc (w.heap.size + 1 + 1) 0 (by simp; omega)).trans (cellP r0 _)
      replace r1 := (hcc (w.heap.size + 1 + 1) 1 (by simp; omega)).trans (cellP r1 _)
      replace q0 := (hff (w.heap.size + 1 + 1) 0 (by simp; omega)).trans (fzP z2 q0 _)
      replace q1 := (hff (w.heap.size + 1 + 1) 1 (by simp; omega)).trans (fzP z2 q1 _)
      have hB3 : Below w.heap.size w w3 := (hB2.alloc hB2.size _).trans (hb3.mono (by simp; omega))
      have hz3 : w.heap.size + 1 + 1 < w3.heap.size := by omega
      obtain ⟨hs5, hBk5, hApt5, hD5, hdb5⟩ := hO3
      have hsz : (w2.alloc (.cells #[.slice A2 0 c2, .slice D2 0 d2] 27)).heap.size = w2.heap.size + 1 := by simp
      rw [hsz] at hApt5 hdb5
      clear hb3 hcc hff HSC
      go_wp2
      refine bodyPost_ret (v := .tuple #[.agg #[.slice (some ⟨g3, 0, none⟩) 4 4, .slice (some ⟨d3, 0, none⟩) 6 6], .slice none 0 0]) (by simp [results, Tryz.results31, go_sem, hz3, r0, r1]) rfl ?_
      exact HEND.out w3 _ _ 4 6 (w2.heap.size + 1) _ s (by omega) hB3 ⟨hs5, hBk5, hApt5, hD5, hdb5⟩ hev.out.symm
    · rw [if_neg hc] at hev hO2
      rw [if_neg hc]
      have h4f : (doTo s xs ec t).flash.length = 4 := by rw [← hev.out]; exact HL4.out
      have h6f : (doTo s xs ec t).disk.length = 6 := by rw [← hev.out]; exact HL6.out
      rw [show ((doTo s xs ec t, true) : St × Bool).1.flash.length = 4 from h4f, show ((doTo s xs ec t, true) : St × Bool).1.disk.length = 6 from h6f]
      dsimp only at hO2 ⊢
      obtain ⟨cn, rfl⟩ := Int.eq_ofNat_of_zero_le (show (0 : Int) ≤ ec by omega)
      have hcsl := HCS.out
      have hxl := hsl.out
      have HO2 := Lib.hid hO2
      clear hO2 h4f h6f hc
      rcases Nat.lt_trichotomy xs.length cn with hl | hl | hl
      · have hl' : (xs.length : Int) < cn := by omega
        cases t
        · skip
          go_wp2
          go_region
          go_wp2
          refine bodyPost_ret (v := .tuple #[.agg #[.slice A2 4 c2, .slice D2 6 d2], .slice V (xs.length) cs]) (by simp [results, Tryz.results31, go_sem, z2, r0, r1]) rfl ?_
          exact (HEND.out w2 A2 D2 c2 d2 w1.heap.size _ _ (by omega) hB2 HO2.out hev.out.symm).more (((Below.refl _ _).alloc (Nat.le_refl _) _).drew)
        · skip
          go_wp2
          go_region
          go_wp2
          refine bodyPost_ret (v := .tuple #[.agg #[.slice A2 4 c2, .slice D2 6 d2], .slice V (xs.length) cs]) (by simp [results, Tryz.results31, go_sem, z2, r0, r1]) rfl ?_
          exact (HEND.out w2 A2 D2 c2 d2 w1.heap.size _ _ (by omega) hB2 HO2.out hev.out.symm).more (((Below.refl _ _).alloc (Nat.le_refl _) _).drew)
      · subst hl
        cases t
        · skip
          go_wp2
          go_region
          go_wp2
          refine bodyPost_ret (v := .tuple #[.agg #[.slice A2 4 c2, .slice D2 6 d2], .slice V (xs.length) cs]) (by simp [results, Tryz.results31, go_sem, z2, r0, r1]) rfl ?_
          exact (HEND.out w2 A2 D2 c2 d2 w1.heap.size _ _ (by omega) hB2 HO2.out hev.out.symm).more (((Below.refl _ _).alloc (Nat.le_refl _) _).drew)
        · skip
          go_wp2
          go_region
          go_wp2
          refine bodyPost_ret (v := .tuple #[.agg #[.slice A2 4 c2, .slice D2 6 d2], .slice V (xs.length) cs]) (by simp [results, Tryz.results31, go_sem, z2, r0, r1]) rfl ?_
          exact (HEND.out w2 A2 D2 c2 d2 w1.heap.size _ _ (by omega) hB2 HO2.out hev.out.symm).more (((Below.refl _ _).alloc (Nat.le_refl _) _).drew)
      · have hl' : (cn : Int) < xs.length := by omega
        have hl2 : ¬ (xs.length : Int) < cn := by omega
        have hl3 : ¬ xs.length < cn := by omega
        have hcn : cn ≤ cs := by omega
        have hcn1 : cn + 1 ≤ cs := by omega
        have e1 : IntKind.i64.wrap ((cn : Int) + 1) = (cn : Int) + 1 := IntWalk.i64_in _ (by omega)
        have e2 : ((cn : Int) + 1).toNat = cn + 1 := by omega
        have e3 : (0 : Int) ≤ (cn : Int) + 1 := by omega
        cases t
        · skip
          go_wp2
          go_region
          go_wp2
          refine bodyPost_ret (v := .tuple #[.agg #[.slice A2 4 c2, .slice D2 6 d2], .slice V (cn) cs]) (by simp [results, Tryz.results31, go_sem, z2, r0, r1]) rfl ?_
          exact (HEND.out w2 A2 D2 c2 d2 w1.heap.size _ _ (by omega) hB2 HO2.out hev.out.symm).more (((Below.refl _ _).alloc (Nat.le_refl _) _).drew)
        · skip
          go_wp2
          go_region
          go_wp2
          refine bodyPost_ret (v := .tuple #[.agg #[.slice A2 4 c2, .slice D2 6 d2], .slice V (cn + 1) cs]) (by simp [results, Tryz.results31, go_sem, z2, r0, r1]) rfl ?_
          exact (HEND.out w2 A2 D2 c2 d2 w1.heap.size _ _ (by omega) hB2 HO2.out hev.out.symm).more (((Below.refl _ _).alloc (Nat.le_refl _) _).drew)
end Go.Proofs.YtohkoogmbfaceaaGreat
open Go.RowKit Go.IntWalk Go.Maps
namespace Go.Proofs.YtohkoogmbfaceaaGreat
set_option linter.unusedVariables false
set_option linter.unusedSimpArgs false
set_option maxHeartbeats 2000000
set_option maxRecDepth 20000
def plDo (s : St) (e : Ev) : St := if storeOk s = true then doEv s e else st0
def DoPost (t : St) (w : World) (e : Ending) (w' : World) : Prop :=
  ∃ A c D d, e = .returned (.agg #[.slice A t.flash.length c, .slice D t.disk.length d]) ∧ FlAt w' w.heap.size A t.flash ∧ Row w' D (ints t.disk) ∧ (∀ b, blk D b → w.heap.size ≤ b) ∧ Below w.heap.size w w'
/-- the same, and the store owns its memory -/
def DoOwn (t : St) (w : World) (e : Ending) (w' : World) : Prop :=
  ∃ A c D d, e = .returned (.agg #[.slice A t.flash.length c, .slice D t.disk.length d]) ∧ OSt w' w.heap.size w'.heap.size A t.flash D t.disk ∧ Below w.heap.size w w'
theorem DoOwn.post {t : St} {w w' : World} {e : Ending} (h : DoOwn t w e w') : DoPost t w e w' := by
  obtain ⟨A, c, D, d, rfl, hO, hb⟩ := h
  exact ⟨A, c, D, d, rfl, hO.flAt0, hO.disk, hO.dlo, hb⟩
theorem OSt.nil (w : World) (lo hi : Nat) : OSt w lo hi none st0.flash none st0.disk :=
  ⟨[], ⟨rfl, Row.nil _ _, fun i b x h => absurd h (by simp [st0])⟩, ⟨fun b hb => (by cases hb), fun i x b h => by simp at h, fun i j x y b h => by simp at h⟩, Row.nil _ _, fun b hb => (by cases hb)⟩
theorem impl_PlayDo_own (s : St) (e : Ev) (A D : Option Addr) (n m c d : Nat) (w : World) (hn : n = s.flash.length) (hm : m = s.disk.length) (hF : Fl w A s.flash) (hD : Row w D (ints s.disk)) :
    Calls Tryz.prog 17 #[.agg #[.slice A n c, .slice D m d], .agg #[.int .i64 e.kind, .int .i64 e.a, .int .i64 e.b, .int .i64 e.c, .bool e.torn]] w (DoOwn (plDo s e) w) := by
  have hB0 : Below w.heap.size w (((w.alloc (.cells #[.slice A n c, .slice D m d] 27)).alloc (.cells #[.int .i64 e.kind, .int .i64 e.a, .int .i64 e.b, .int .i64 e.c, .bool e.torn] 40)).alloc (.cells #[.slice none 0 0, .slice none 0 0] 27)) := by (repeat (first | (with_reducible exact Below.refl _ _) | (with_reducible assumption) | (refine Below.setCell ?_ (by first | omega | exact hB.size | exact hb.size | (have h := hB.size; simp; omega) | (have h := hb.size; simp; omega) | (simp; omega) | simp) _) | (refine Below.alloc ?_ (by first | omega | exact hB.size | exact hb.size | (have h := hB.size; simp; omega) | (have h := hb.size; simp; omega) | (simp; omega) | simp) _) | (refine Below.drew ?_)))
  have HSO := Lib.hid (impl_StoreOk s A D n m c d _ hn hm (hF.below hB0 (Nat.le_refl _)) (hD.below hB0 (Nat.le_refl _)))
  have HF := Lib.hid hF
  have HD := Lib.hid hD
  have hfacts : ∀ w1, Below (((w.alloc (.cells #[.slice A n c, .slice D m d] 27)).alloc (.cells #[.int .i64 e.kind, .int .i64 e.a, .int .i64 e.b, .int .i64 e.c, .bool e.torn] 40)).alloc (.cells #[.slice none 0 0, .slice none 0 0] 27)).heap.size (((w.alloc (.cells #[.slice A n c, .slice D m d] 27)).alloc (.cells #[.int .i64 e.kind, .int .i64 e.a, .int .i64 e.b, .int .i64 e.c, .bool e.torn] 40)).alloc (.cells #[.slice none 0 0, .slice none 0 0] 27)) w1 →
      w.heap.size + 3 ≤ w1.heap.size ∧ w1.cell? ⟨w.heap.size, 0, none⟩ = some (.slice A n c) ∧ w1.cell? ⟨w.heap.size, 1, none⟩ = some (.slice D m d) ∧ w1.cell? ⟨w.heap.size + 1, 0, none⟩ = some (.int .i64 e.kind) ∧ w1.cell? ⟨w.heap.size + 1, 1, none⟩ = some (.int .i64 e.a) ∧ w1.cell? ⟨w.heap.size + 1, 2, none⟩ = some (.int .i64 e.b) ∧ w1.cell? ⟨w.heap.size + 1, 3, none⟩ = some (.int .i64 e.c) ∧ w1.cell? ⟨w.heap.size + 1, 4, none⟩ = some (.bool e.torn) ∧
      w1.cell? ⟨w.heap.size + 1 + 1, 0, none⟩ = some (.slice none 0 0) ∧ w1.cell? ⟨w.heap.size + 1 + 1, 1, none⟩ = some (.slice none 0 0) ∧ w1.frozen? ⟨w.heap.size + 1 + 1, 0, none⟩ = false ∧ w1.frozen? ⟨w.heap.size + 1 + 1, 1, none⟩ = false := fun w1 hb => by
    have hs1 : w.heap.size + 3 ≤ w1.heap.size := by have := hb.size; simpa using this
    obtain ⟨hcc, hff⟩ := bcell hb
    exact ⟨hs1, (hcc _ _ (by simp; omega)).trans (cellP (cellP (by simp) _) _), (hcc _ _ (by simp; omega)).trans (cellP (cellP (by simp) _) _), (hcc _ _ (by simp)).trans (cellP (by simp) _), (hcc _ _ (by simp)).trans (cellP (by simp) _), (hcc _ _ (by simp)).trans (cellP (by simp) _), (hcc _ _ (by simp)).trans (cellP (by simp) _), (hcc _ _ (by simp)).trans (cellP (by simp) _),
      (hcc _ _ (by simp)).trans ((top3 w _ _ #[.slice none 0 0, .slice none 0 0] 27).at0 (j := 0) rfl).1, (hcc _ _ (by simp)).trans ((top3 w _ _ #[.slice none 0 0, .slice none 0 0] 27).at0 (j := 1) rfl).1, (hff _ _ (by simp)).trans ((top3 w _ _ #[.slice none 0 0, .slice none 0 0] 27).at0 (j := 0) rfl).2, (hff _ _ (by simp)).trans ((top3 w _ _ #[.slice none 0 0, .slice none 0 0] 27).at0 (j := 1) rfl).2⟩
  have HFA := Lib.hid hfacts
  clear hfacts
  by_cases hok : storeOk s = true
  · have hs := storeOk_iff.1 hok
    have hfin : Hid (plDo s e = doEv s e) := by unfold Hid plDo; rw [if_pos hok]
    obtain rfl : n = 4 := by have := flashOk_len hs.flash; omega
    obtain rfl : m = 6 := by have := hs.len; omega
    have hev := (doEv_evt hs e).ok
    have HL4 := Lib.hid (flashOk_len hev.flash)
    have HL6 := Lib.hid hev.len
    have HS := Lib.hid hs
    rw [hok] at HSO
    clear hok hn hm hF hD hs hev
    go_enter Tryz.func17, Tryz.ntmps17
    go_wp2_with fail
    with_reducible refine HSO.out.mono ?_
    rintro r w1 ⟨rfl, hb⟩
    obtain ⟨hs1, x0, x1, y0, y1, y2, y3, y4, r0, r1, q0, q1⟩ := HFA.out w1 hb
    have hB1 : Below w.heap.size w w1 := hB0.trans (hb.mono (by simp; omega))
    have HPB := Lib.hid (impl_playBegun_own s e A D c d w1 HS.out (HF.out.below hB1 (Nat.le_refl _)) (HD.out.below hB1 (Nat.le_refl _)))
    clear hb HSO HFA hB0
    go_wp2_with fail
    with_reducible refine HPB.out.mono ?_
    rintro r w2 ⟨A2, c2, D2, d2, v, rfl, hO2, hb2⟩
    have hs2 := hb2.size
    replace r0 := (hb2.cell (p := ⟨w.heap.size + 1 + 1, 0, none⟩) (by show w.heap.size + 1 + 1 < _; omega)).trans r0
    replace r1 := (hb2.cell (p := ⟨w.heap.size + 1 + 1, 1, none⟩) (by show w.heap.size + 1 + 1 < _; omega)).trans r1
    replace q0 := (hb2.frozen (p := ⟨w.heap.size + 1 + 1, 0, none⟩) (by show w.heap.size + 1 + 1 < _; omega)).trans q0
    replace q1 := (hb2.frozen (p := ⟨w.heap.size + 1 + 1, 1, none⟩) (by show w.heap.size + 1 + 1 < _; omega)).trans q1
    have hB2 := hB1.trans (hb2.mono hB1.size)
    have z2 : w.heap.size + 1 + 1 < w2.heap.size := by omega
    have HO2 := Lib.hid hO2
    clear hO2 hb2 HPB x0 x1 y0 y1 y2 y3 y4
    go_wp2
    have hk2 : ∀ b, w1.heap.size ≤ b → b < w2.heap.size → (((w2.setCell ⟨w.heap.size + 1 + 1, 0, none⟩ (.slice A2 4 c2)).setCell ⟨w.heap.size + 1 + 1, 1, none⟩ (.slice D2 6 d2)).alloc (.cells #[.slice A2 4 c2, .slice D2 6 d2] 27)).heap[b]? = w2.heap[b]? := fun b hb hl => by
      rw [Below.heap_alloc _ _ _ (by simpa using hl), Below.heap_setCell _ _ _ _ (show b ≠ w.heap.size + 1 + 1 by omega), Below.heap_setCell _ _ _ _ (show b ≠ w.heap.size + 1 + 1 by omega)]
    refine bodyPost_ret (v := .agg #[.slice A2 4 c2, .slice D2 6 d2]) (by simp [results, Tryz.results17, go_sem, z2, r0, r1]) rfl ?_
    rw [hfin.out]
    refine ⟨A2, c2, D2, d2, by rw [HL4.out, HL6.out], (HO2.out.keep fun b h1 _ hl => hk2 b h1 hl).mono (by omega) (by simp), ?_⟩
    · exact ((hB2.setCell (p := ⟨w.heap.size + 1 + 1, 0, none⟩) (by show w.heap.size ≤ w.heap.size + 1 + 1; omega) _).setCell (p := ⟨w.heap.size + 1 + 1, 1, none⟩) (by show w.heap.size ≤ w.heap.size + 1 + 1; omega) _).alloc (by simp; omega) _
  · have hok' : storeOk s = false := by simpa using hok
    have hfin : Hid (plDo s e = st0) := by unfold Hid plDo; rw [if_neg hok]
    rw [hok'] at HSO
    clear hok hok' hn hm hF hD
    go_enter Tryz.func17, Tryz.ntmps17
    go_wp2_with (go_at_call 30; (with_reducible refine HSO.out.mono ?_); rintro r w1 ⟨rfl, hb⟩; obtain ⟨hs1, x0, x1, y0, y1, y2, y3, y4, r0, r1, q0, q1⟩ := HFA.out w1 hb)
    have hB1 : Below w.heap.size w w1 := hB0.trans (hb.mono (by simp; omega))
    have z2 : w.heap.size + 1 + 1 < w1.heap.size := by omega
    refine bodyPost_ret (v := .agg #[.slice none 0 0, .slice none 0 0]) (by simp [results, Tryz.results17, go_sem, z2, r0, r1]) rfl ?_
    rw [hfin.out]
    refine ⟨none, 0, none, 0, rfl, OSt.nil _ _ _, ?_⟩
    refine Below.setCell (Below.setCell hB1 ?_ _) ?_ _ <;> (show w.heap.size ≤ w.heap.size + 1 + 1; omega)
end Go.Proofs.YtohkoogmbfaceaaGreat
open Go.RowKit Go.IntWalk Go.Maps
namespace Go.Proofs.YtohkoogmbfaceaaGreat
set_option linter.unusedVariables false
set_option linter.unusedSimpArgs false
set_option maxHeartbeats 2000000
set_option maxRecDepth 20000
def runR (es : List Ev) : St × Bool := if 60 < es.length then (st0, false) else (doRun es, true)
theorem Row.ev {w : World} {b o k : Nat} {xs : List Ev} {x : Ev} (h : Row w (some ⟨b, o, none⟩) (evs xs)) (hk : xs[k]? = some x) :
    w.cell? ⟨b, o + k * 5, none⟩ = some (.int .i64 x.kind) ∧ w.cell? ⟨b, o + k * 5 + 1, none⟩ = some (.int .i64 x.a) ∧ w.cell? ⟨b, o + k * 5 + 2, none⟩ = some (.int .i64 x.b) ∧ w.cell? ⟨b, o + k * 5 + 3, none⟩ = some (.int .i64 x.c) ∧ w.cell? ⟨b, o + k * 5 + 4, none⟩ = some (.bool x.torn) := by
  have hlt := (List.getElem?_eq_some_iff.1 hk).1
  obtain ⟨b', o', he, hc⟩ := h (by intro e; have := evs_len xs; rw [e] at this; simp at this; omega)
  cases he
  have hg : ∀ j u, x.vs[j]? = some u → j < 5 → w.cell? ⟨b, o + (k * 5 + j), none⟩ = some u := fun j u hj hl => (hc (k * 5 + j) u (by rw [evs, flat_get _ 5 (fun _ => rfl) xs k j x hk hl]; exact hj)).1
  exact ⟨hg 0 _ rfl (by omega), hg 1 _ rfl (by omega), hg 2 _ rfl (by omega), hg 3 _ rfl (by omega), hg 4 _ rfl (by omega)⟩
theorem impl_PlayRun_own (es : List Ev) (V : Option Addr) (cs : Nat) (w : World) (hl : es.length < 1000000000000) (hX : Row w V (evs es)) :
    Calls Tryz.prog 7 #[.slice V es.length cs] w (ToOwn (runR es) w) := by
  by_cases h60 : 60 < es.length
  · have hfin : Hid (runR es = (st0, false)) := by unfold Hid runR; rw [if_pos h60]
    have h60' : (60 : Int) < es.length := by omega
    go_enter Tryz.func7, Tryz.ntmps7
    go_wp2
    refine bodyPost_ret (v := .tuple #[.agg #[.slice none 0 0, .slice none 0 0], .bool false]) (by simp [results, Tryz.results7, go_sem]) rfl ?_
    rw [hfin.out]
    exact ToOwn.fail (by (repeat (first | (with_reducible exact Below.refl _ _) | (with_reducible assumption) | (refine Below.setCell ?_ (by first | omega | exact hB.size | exact hb.size | (have h := hB.size; simp; omega) | (have h := hb.size; simp; omega) | (simp; omega) | simp) _) | (refine Below.alloc ?_ (by first | omega | exact hB.size | exact hb.size | (have h := hB.size; simp; omega) | (have h := hb.size; simp; omega) | (simp; omega) | simp) _) | (refine Below.drew ?_))))
  · have hfin : Hid (runR es = (doRun es, true)) := by unfold Hid runR; rw [if_neg h60]
    have h60' : ¬ (60 : Int) < es.length := by omega
    go_enter Tryz.func7, Tryz.ntmps7
    go_wp2_with fail
    with_reducible refine (impl_StoreNew _).mono ?_
    rintro e w1 ⟨A0, c0, D0, rfl, hc0, hO, hb1⟩
    have hs1 : w.heap.size + 1 ≤ w1.heap.size := by have := hb1.size; simpa using this
    have hB1 : Below w.heap.size w w1 := ((Below.refl _ _).alloc (Nat.le_refl _) _).trans (hb1.mono (by simp))
    obtain ⟨hcc, hff⟩ := bcell hb1
    have r0 : w1.cell? ⟨w.heap.size, 0, none⟩ = some (.slice none 0 0) := (hcc _ _ (by simp)).trans (by simp)
    have r1 : w1.cell? ⟨w.heap.size, 1, none⟩ = some (.slice none 0 0) := (hcc _ _ (by simp)).trans (by simp)
    have q0 : w1.frozen? ⟨w.heap.size, 0, none⟩ = false := (hff _ _ (by simp)).trans (by simp)
    have q1 : w1.frozen? ⟨w.heap.size, 1, none⟩ = false := (hff _ _ (by simp)).trans (by simp)
    have hbx := BoxSt.new (c := c0) (d := 6) (t := new0) (lo := w.heap.size + 1) (hO.mono (by simp) (Nat.le_refl _))
    have hX1 := hX.below hB1 (Nat.le_refl _)
    clear hO hb1 hcc hff
    go_wp2
    go_loopw [14] (fun i wr => ∃ k : Nat, k ≤ es.length ∧ i = .int .i64 k ∧ BoxSt wr (w.heap.size + 1) w1.heap.size (doRun (es.take k)) ∧ Below w1.heap.size w1 wr ∧ w1.heap.size < wr.heap.size) (fun i _ => es.length - (intOf i).toNat)
    case atStart => exact ⟨0, by omega, rfl, hbx, by (repeat (first | (with_reducible exact Below.refl _ _) | (with_reducible assumption) | (refine Below.setCell ?_ (by first | omega | exact hB.size | exact hb.size | (have h := hB.size; simp; omega) | (have h := hb.size; simp; omega) | (simp; omega) | simp) _) | (refine Below.alloc ?_ (by first | omega | exact hB.size | exact hb.size | (have h := hB.size; simp; omega) | (have h := hb.size; simp; omega) | (simp; omega) | simp) _) | (refine Below.drew ?_))), by simp⟩
    case round =>
      obtain ⟨k, hk, rfl, hBx, hB, hz⟩ := hrel
      clear hbx
      have hbs := hB.size
      have rr0 := (hB.cell (p := ⟨w.heap.size, 0, none⟩) (by show w.heap.size < _; omega)).trans r0
      have rr1 := (hB.cell (p := ⟨w.heap.size, 1, none⟩) (by show w.heap.size < _; omega)).trans r1
      have qq0 := (hB.frozen (p := ⟨w.heap.size, 0, none⟩) (by show w.heap.size < _; omega)).trans q0
      have qq1 := (hB.frozen (p := ⟨w.heap.size, 1, none⟩) (by show w.heap.size < _; omega)).trans q1
      have hBW := hB1.trans (hB.mono hB1.size)
      have HBX := Lib.hid hBx
      obtain ⟨Ao, co, Do, dd, hso, o0, o1, f0, f1, ⟨hiA, hApA, hleA⟩, hBk, hne, hDo, hned⟩ := hBx
      by_cases hlt : k < es.length
      · obtain ⟨x, hx⟩ := get_some hlt
        have hXr := hX1.below hB (Nat.le_refl _)
        obtain ⟨vb, vo, rfl⟩ := hXr.addr (by intro e; have := evs_len es; rw [e] at this; simp at this; omega)
        obtain ⟨c0', c1', c2', c3', c4'⟩ := hXr.ev hx
        have hk1 : (k : Int) < es.length := by omega
        have e1 : IntKind.i64.wrap ((k : Int) + 1) = (k : Int) + 1 := IntWalk.i64_in _ (by omega)
        have hsn : Hid (doRun (es.take (k + 1)) = doEv (doRun (es.take k)) x) := by rw [Hid, List.take_add_one, hx]; exact run_snoc _ _
        have hokr := (run_run (es.take k)).ok
        have hev := (doEv_evt hokr x).ok
        have hpl : plDo (doRun (es.take k)) x = doEv (doRun (es.take k)) x := by unfold plDo; rw [if_pos (storeOk_iff.2 hokr)]
        have HPD := Lib.hid (impl_PlayDo_own (doRun (es.take k)) x Ao Do 4 6 co dd (wr.alloc (.cells #[.int .i64 x.kind, .int .i64 x.a, .int .i64 x.b, .int .i64 x.c, .bool x.torn] 40)) (flashOk_len hokr.flash).symm hokr.len.symm (Fl.alloc ⟨hso, hBk⟩ _) (hDo.alloc _))
        rw [hpl] at HPD
        have HL4 := Lib.hid (flashOk_len hev.flash)
        have HL6 := Lib.hid hev.len
        clear hx hXr hpl hokr hev hBk hDo hne hned
        go_wp2_with fail
        with_reducible refine HPD.out.mono ?_
        rintro e w2 ⟨A2, c2, D2, d2, rfl, hO2, hb2⟩
        rw [HL4.out, HL6.out]
        have hB2 : Below wr.heap.size wr w2 := ((Below.refl _ _).alloc (Nat.le_refl _) _).trans (hb2.mono (by simp))
        have hsz : (wr.alloc (.cells #[.int .i64 x.kind, .int .i64 x.a, .int .i64 x.b, .int .i64 x.c, .bool x.torn] 40)).heap.size = wr.heap.size + 1 := by simp
        rw [hsz] at hO2
        have hX2 := HBX.out.below hB2 (Nat.le_refl _)
        have hs2 := hB2.size
        have hX3 := Lib.hid (hX2.put (c := c2) (d := d2) (hO2.mono (by omega) (Nat.le_refl _)) (by omega) rfl)
        have hB3 : Below w1.heap.size w1 ((w2.setCell ⟨w1.heap.size, 0, none⟩ (.slice A2 4 c2)).setCell ⟨w1.heap.size, 1, none⟩ (.slice D2 6 d2)) := ((hB.trans (hB2.mono hbs)).setCell (p := ⟨w1.heap.size, 0, none⟩) (Nat.le_refl _) _).setCell (p := ⟨w1.heap.size, 1, none⟩) (Nat.le_refl _) _
        obtain ⟨_, _, _, _, _, p0, p1, p2, p3, _⟩ := hX2
        clear HPD hO2 hb2 HBX
        go_wp2
        go_roundw
        case rel => exact ⟨k + 1, by omega, by go_num, by rw [hsn.out]; exact hX3.out, hB3, by simp; omega⟩
        case measure => simp [intOf]; omega
      · have hki : (es.length : Int) ≤ k := by omega
        have htk : es.take k = es := List.take_of_length_le (by omega)
        have hz7 : w.heap.size < wr.heap.size := by omega
        rw [htk] at hBk hDo
        have hok := (run_run es).ok
        have HB := Lib.hid hBk
        have hzo : w.heap.size + 1 ≤ wr.heap.size := by omega
        clear HBX htk
        go_wp2
        have hk2 : ∀ b, w.heap.size + 1 ≤ b → ((wr.setCell ⟨w.heap.size, 0, none⟩ (.slice Ao 4 co)).setCell ⟨w.heap.size, 1, none⟩ (.slice Do 6 dd)).heap[b]? = wr.heap[b]? := fun b hb => by
          rw [Below.heap_setCell _ _ _ _ (show b ≠ w.heap.size by omega), Below.heap_setCell _ _ _ _ (show b ≠ w.heap.size by omega)]
        refine bodyPost_ret (v := .tuple #[.agg #[.slice Ao 4 co, .slice Do 6 dd], .bool true]) (by simp [results, Tryz.results7, go_sem, hz7, rr0, rr1]) rfl ?_
        rw [hfin.out]
        have hd6 := hok.len
        have hO9 : OSt wr (w.heap.size + 1) wr.heap.size Ao (doRun es).flash Do (doRun es).disk := ⟨hso, hBk, hApA.mono (Nat.le_refl _) hleA, hDo, fun b hb => ⟨(hned b hb).1, hDo.lt (ints_ne' (by intro e; rw [e] at hd6; simp at hd6)) hb, fun e => (hned b hb).2.2 (.inl e), fun i x hx e => (hned b hb).2.2 (.inr ⟨i, x, hx, e⟩)⟩⟩
        refine ⟨Ao, co, Do, dd, by dsimp only; rw [flashOk_len hok.flash, hok.len], (hO9.keep fun b hb _ _ => hk2 b hb).mono (by omega) (by simp), ?_⟩
        · exact (hBW.setCell (p := ⟨w.heap.size, 0, none⟩) (Nat.le_refl _) _).setCell (p := ⟨w.heap.size, 1, none⟩) (Nat.le_refl _) _
end Go.Proofs.YtohkoogmbfaceaaGreat
open Go.RowKit Go.IntWalk Go.Maps
namespace Go.Proofs.YtohkoogmbfaceaaGreat
set_option linter.unusedVariables false
set_option linter.unusedSimpArgs false
set_option maxHeartbeats 2000000
set_option maxRecDepth 20000
theorem OSt.flAt {w : World} {lo hi : Nat} {A D : Option Addr} {f : List Bk} {xs : List Int} (h : OSt w lo hi A f D xs) : FlAt w lo A f := by
  obtain ⟨hs, hBk, hApt, _, _⟩ := h
  exact ⟨hs, hBk, fun b hb => (hApt.fblk hb).1⟩
theorem spec_PlayRun (es : List Ev) (V : Option Addr) (cs : Nat) (w : World) (hl : es.length < 1000000000000) (hX : Row w V (evs es)) :
    Calls Tryz.prog 5 #[.slice V es.length cs] w (ToPost (runR es) w) := by
  by_cases h60 : 60 < es.length
  · have hfin : Hid (runR es = (st0, false)) := by unfold Hid runR; rw [if_pos h60]
    have h60' : (60 : Int) < es.length := by omega
    go_enter Tryz.func5, Tryz.ntmps5
    go_wp2
    refine bodyPost_ret (v := .tuple #[.agg #[.slice none 0 0, .slice none 0 0], .bool false]) (by simp [results, Tryz.results5, go_sem]) rfl ?_
    rw [hfin.out]
    exact ToPost.fail (by (repeat (first | (with_reducible exact Below.refl _ _) | (with_reducible assumption) | (refine Below.setCell ?_ (by first | omega | exact hB.size | exact hb.size | (have h := hB.size; simp; omega) | (have h := hb.size; simp; omega) | (simp; omega) | simp) _) | (refine Below.alloc ?_ (by first | omega | exact hB.size | exact hb.size | (have h := hB.size; simp; omega) | (have h := hb.size; simp; omega) | (simp; omega) | simp) _) | (refine Below.drew ?_))))
  · have hfin : Hid (runR es = (doRun es, true)) := by unfold Hid runR; rw [if_neg h60]
    have h60' : ¬ (60 : Int) < es.length := by omega
    go_enter Tryz.func5, Tryz.ntmps5
    go_wp2_with fail
    with_reducible refine (spec_StoreNew _).mono ?_
    rintro e w1 ⟨A0, c0, D0, rfl, hc0, hO, hb1⟩
    have hs1 : w.heap.size + 1 ≤ w1.heap.size := by have := hb1.size; simpa using this
    have hB1 : Below w.heap.size w w1 := ((Below.refl _ _).alloc (Nat.le_refl _) _).trans (hb1.mono (by simp))
    obtain ⟨hcc, hff⟩ := bcell hb1
    have r0 : w1.cell? ⟨w.heap.size, 0, none⟩ = some (.slice none 0 0) := (hcc _ _ (by simp)).trans (by simp)
    have r1 : w1.cell? ⟨w.heap.size, 1, none⟩ = some (.slice none 0 0) := (hcc _ _ (by simp)).trans (by simp)
    have q0 : w1.frozen? ⟨w.heap.size, 0, none⟩ = false := (hff _ _ (by simp)).trans (by simp)
    have q1 : w1.frozen? ⟨w.heap.size, 1, none⟩ = false := (hff _ _ (by simp)).trans (by simp)
    replace hO : OSt w1 (w.heap.size + 1) w1.heap.size A0 new0.flash D0 new0.disk := hO.mono (by simp) (Nat.le_refl _)
    have hO1 := hO.below (B := w1.heap.size) ((Below.refl _ _).alloc (Nat.le_refl _) (.cells #[.slice A0 4 c0, .slice D0 6 6] 27)) (Nat.le_refl _)
    have hX1 := hX.below hB1 (Nat.le_refl _)
    clear hO hb1 hcc hff
    go_wp2
    go_loopw [5] (fun i wr => ∃ k : Nat, k ≤ es.length ∧ i = .int .i64 k ∧ OSt wr (w.heap.size + 1) w1.heap.size A0 (doRun (es.take k)).flash D0 (doRun (es.take k)).disk ∧ Below w.heap.size w wr ∧ w1.heap.size < wr.heap.size ∧
      (wr.cell? ⟨w.heap.size, 0, none⟩ = some (.slice none 0 0) ∧ wr.cell? ⟨w.heap.size, 1, none⟩ = some (.slice none 0 0) ∧ wr.frozen? ⟨w.heap.size, 0, none⟩ = false ∧ wr.frozen? ⟨w.heap.size, 1, none⟩ = false) ∧
      (wr.cell? ⟨w1.heap.size, 0, none⟩ = some (.slice A0 4 c0) ∧ wr.cell? ⟨w1.heap.size, 1, none⟩ = some (.slice D0 6 6) ∧ wr.frozen? ⟨w1.heap.size, 0, none⟩ = false ∧ wr.frozen? ⟨w1.heap.size, 1, none⟩ = false)) (fun i _ => es.length - (intOf i).toNat)
    case atStart => exact ⟨0, by omega, rfl, hO1, by (repeat (first | (with_reducible exact Below.refl _ _) | (with_reducible assumption) | (refine Below.setCell ?_ (by first | omega | exact hB.size | exact hb.size | (have h := hB.size; simp; omega) | (have h := hb.size; simp; omega) | (simp; omega) | simp) _) | (refine Below.alloc ?_ (by first | omega | exact hB.size | exact hb.size | (have h := hB.size; simp; omega) | (have h := hb.size; simp; omega) | (simp; omega) | simp) _) | (refine Below.drew ?_))), by simp, ⟨cellP r0 _, cellP r1 _, fzP (by omega) q0 _, fzP (by omega) q1 _⟩, by simp⟩
    case round =>
      obtain ⟨k, hk, rfl, hOk, hB, hz, ⟨rr0, rr1, qq0, qq1⟩, ⟨o0, o1, f0, f1⟩⟩ := hrel
      clear hO1 r0 r1 q0 q1
      have hbs := hB.size
      by_cases hlt : k < es.length
      · obtain ⟨x, hx⟩ := get_some hlt
        have hXr := hX.below hB (Nat.le_refl _)
        obtain ⟨vb, vo, rfl⟩ := hXr.addr (by intro e; have := evs_len es; rw [e] at this; simp at this; omega)
        obtain ⟨c0', c1', c2', c3', c4'⟩ := hXr.ev hx
        have hk1 : (k : Int) < es.length := by omega
        have e1 : IntKind.i64.wrap ((k : Int) + 1) = (k : Int) + 1 := IntWalk.i64_in _ (by omega)
        have hsn : Hid (doRun (es.take (k + 1)) = doEv (doRun (es.take k)) x) := by rw [Hid, List.take_add_one, hx]; exact run_snoc _ _
        have hst := (run_run (es.take k)).ok.fine
        clear hx hXr
        go_wp2
        have hle : w1.heap.size ≤ wr.drew.heap.size := by show w1.heap.size ≤ wr.heap.size; omega
        have hn0 : ¬ (w.heap.size + 1 ≤ w1.heap.size ∧ w1.heap.size < w1.heap.size) := by omega
        have hl0 : w1.heap.size < wr.drew.heap.size := by show w1.heap.size < wr.heap.size; omega
        have hOd := hOk.drew
        have g0 : wr.drew.cell? ⟨w1.heap.size, 0, none⟩ = some (.slice A0 4 c0) := o0
        have g1 : wr.drew.cell? ⟨w1.heap.size, 1, none⟩ = some (.slice D0 6 6) := o1
        have g2 : wr.drew.frozen? ⟨w1.heap.size, 0, none⟩ = false := f0
        have g3 : wr.drew.frozen? ⟨w1.heap.size, 1, none⟩ = false := f1
        go_region_with (first | (go_at_call 14; refine (spec_l21Do (doRun (es.take k)) x A0 D0 c0 6 (w.heap.size + 1) w1.heap.size _ hst hle hOd).mono ?_; rintro e w2 ⟨rfl, hO2, hA2⟩; have d0 := (hA2.cell hl0 hn0 0).trans g0; have d1 := (hA2.cell hl0 hn0 1).trans g1; have d2 := (hA2.fz hl0 hn0 0).trans g2; have d3 := (hA2.fz hl0 hn0 1).trans g3))
        all_goals
          have hn1 : ¬ (w.heap.size + 1 ≤ w.heap.size ∧ w.heap.size < w1.heap.size) := by omega
          have hl1 : w.heap.size < wr.drew.heap.size := by show w.heap.size < wr.heap.size; omega
          have p0 := (hA2.cell hl1 hn1 0).trans (show wr.drew.cell? ⟨w.heap.size, 0, none⟩ = some (.slice none 0 0) from rr0)
          have p1 := (hA2.cell hl1 hn1 1).trans (show wr.drew.cell? ⟨w.heap.size, 1, none⟩ = some (.slice none 0 0) from rr1)
          have p2 := (hA2.fz hl1 hn1 0).trans (show wr.drew.frozen? ⟨w.heap.size, 0, none⟩ = false from qq0)
          have p3 := (hA2.fz hl1 hn1 1).trans (show wr.drew.frozen? ⟨w.heap.size, 1, none⟩ = false from qq1)
          have hs2 : wr.heap.size ≤ w2.heap.size := hA2.size
          have hB2 : Below w.heap.size w w2 := hB.drew.trans (hA2.below (B := w.heap.size) (by show w.heap.size ≤ wr.heap.size; omega) (fun i hi => by omega))
          rw [← hsn.out] at hO2
          have hW : Wrote w2 ((w2.setCell ⟨w1.heap.size, 0, none⟩ (.slice A0 4 c0)).setCell ⟨w1.heap.size, 1, none⟩ (.slice D0 6 6)) w1.heap.size 0 [.slice A0 4 c0, .slice D0 6 6] := wrote_setRow w1.heap.size [.slice A0 4 c0, .slice D0 6 6] 0 w2 (fun j hj => by
            match j, hj with
            | 0, _ => exact ⟨_, d0⟩
            | 1, _ => exact ⟨_, d1⟩)
          have hO3 : OSt _ (w.heap.size + 1) w1.heap.size A0 (doRun (es.take (k + 1))).flash D0 (doRun (es.take (k + 1))).disk := hO2.keep fun b h1 h2 _ => hW.block b (by omega)
          have hB3 := hB2.trans (hW.agr.below (B := w.heap.size) (by omega) (fun i hi => by omega))
          have t0 := hW.new_ 0 _ rfl
          have t1 := hW.new_ 1 _ rfl
          have t2 := (hW.frozen ⟨w1.heap.size, 0, none⟩).trans d2
          have t3 := (hW.frozen ⟨w1.heap.size, 1, none⟩).trans d3
          have s0 := (hW.agr.cell (b := w.heap.size) (by omega) (by omega) 0).trans p0
          have s1 := (hW.agr.cell (b := w.heap.size) (by omega) (by omega) 1).trans p1
          have s2 := (hW.frozen ⟨w.heap.size, 0, none⟩).trans p2
          have s3 := (hW.frozen ⟨w.heap.size, 1, none⟩).trans p3
          have hss := hW.size
          clear hW
          go_wp2
          go_roundw
          (case rel => exact ⟨k + 1, by omega, by go_num, hO3, hB3, by omega, ⟨s0, s1, s2, s3⟩, ⟨t0, t1, t2, t3⟩⟩)
          (case measure => simp [intOf]; omega)
      · have hki : (es.length : Int) ≤ k := by omega
        have htk : es.take k = es := List.take_of_length_le (by omega)
        rw [htk] at hOk
        have hok := (run_run es).ok
        have HO := Lib.hid hOk
        clear hOk htk
        go_wp2
        refine bodyPost_ret (v := .tuple #[.agg #[.slice A0 4 c0, .slice D0 6 6], .bool true]) (by simp [results, Tryz.results5, go_sem, rr0, rr1]) rfl ?_
        rw [hfin.out]
        have hF : Agr (· = w.heap.size) wr ((wr.setCell ⟨w.heap.size, 0, none⟩ (.slice A0 4 c0)).setCell ⟨w.heap.size, 1, none⟩ (.slice D0 6 6)) := Agr.setCell (S := fun b => b = w.heap.size) (Agr.setCell (S := fun b => b = w.heap.size) (Agr.refl _ _) (p := ⟨w.heap.size, 0, none⟩) (.inr rfl) _) (p := ⟨w.heap.size, 1, none⟩) (.inr rfl) _
        have hOf := HO.out.keep (w' := (wr.setCell ⟨w.heap.size, 0, none⟩ (.slice A0 4 c0)).setCell ⟨w.heap.size, 1, none⟩ (.slice D0 6 6)) fun b h1 h2 hl => hF.block b hl (by omega)
        refine ⟨A0, c0, D0, 6, by dsimp only; rw [flashOk_len hok.flash, hok.len], ?_, hOf.disk, fun b hb => by have := hOf.dlo b hb; omega, hB.trans (hF.below (B := w.heap.size) (by omega) (fun i hi => by omega))⟩
        obtain ⟨hs, h1, h2⟩ := hOf.flAt
        exact ⟨hs, h1, fun b hb => by have := h2 b hb; omega⟩
end Go.Proofs.YtohkoogmbfaceaaGreat
namespace Go.Proofs.YtohkoogmbfaceaaGreat
set_option linter.unusedVariables false
set_option linter.unusedSimpArgs false
open Go.RowKit Go.Maps
set_option maxHeartbeats 400000
theorem ints_ne {xs : List Int} (h : xs ≠ []) : ints xs ≠ [] := by
  cases xs with
  | nil => exact absurd rfl h
  | cons p ps => simp [ints]
theorem laws_eqIntS (A A' : Option Addr) (c c' : Nat) (xs ys : List Int) (w : World) (hl : xs.length < 1000000000000) (hl' : ys.length < 1000000000000) (hR : Row w A (ints xs)) (hR' : Row w A' (ints ys)) :
    Calls Tryz.prog 19 #[.slice A xs.length c, .slice A' ys.length c'] w fun e w' => e = .returned (.bool (decide (xs = ys))) ∧ Below w.heap.size w w' := by
  by_cases hn : xs.length = ys.length
  · have HN := Lib.hid hn
    rw [← hn]
    clear hn hl'
    go_enter Tryz.func19, Tryz.ntmps19
    go_wp2
    go_loopw [5] (fun i wr => ∃ (k : Nat), k ≤ xs.length ∧ i = .int .i64 k ∧ Below w.heap.size w wr ∧ Hid (decide (xs = ys) = decide (xs.drop k = ys.drop k))) (fun i _ => xs.length - (intOf i).toNat)
    case atStart => exact ⟨0, by omega, rfl, Below.refl _ _, by simp [Hid]⟩
    case round =>
      obtain ⟨k, hk, rfl, hb, hg⟩ := hrel
      by_cases hlt : k < xs.length
      · obtain ⟨p, hp⟩ := get_some hlt
        obtain ⟨q, hq⟩ := get_some (l := ys) (k := k) (by have := HN.out; omega)
        have hd := Lib.hid (eq_drop hp hq)
        obtain ⟨b, o, rfl⟩ := hR.addr (ints_ne (by rintro rfl; simp at hlt))
        obtain ⟨b', o', rfl⟩ := hR'.addr (ints_ne (by rintro rfl; simp at hq))
        have hRk := hR.below hb (Nat.le_refl _)
        have hRk' := hR'.below hb (Nat.le_refl _)
        obtain ⟨c0, c1⟩ := hRk.int_ hp
        obtain ⟨d0, d1⟩ := hRk'.int_ hq
        have hk1 : (k : Int) < xs.length := by omega
        clear hp hq
        go_wp2
        go_region
        go_wp2
        · have hne : (!decide (p = q)) = true := by assumption
          have hne' : decide (p = q) = false := by simpa using hne
          go_ret
          exact ⟨ret_bool (by rw [hg.out, hd.out, hne']; rfl), hb.drew⟩
        · have heq : (!decide (p = q)) = false := by assumption
          have heq' : decide (p = q) = true := by simpa using heq
          go_roundw
          case rel => exact ⟨k + 1, by omega, by go_num, hb.drew, by rw [Hid, hg.out, hd.out, heq', Bool.true_and]⟩
          case measure => simp [intOf]; omega
      · obtain rfl : k = xs.length := by omega
        go_wp2
        go_ret
        exact ⟨ret_bool (by rw [hg.out, List.drop_of_length_le (Nat.le_refl _), List.drop_of_length_le (by have := HN.out; omega)]; rfl), hb⟩
  · have hne : ¬ xs = ys := fun e => hn (by rw [e])
    have hi : ¬ (xs.length : Int) = ys.length := by omega
    go_enter Tryz.func19, Tryz.ntmps19
    go_wp2
    all_goals go_ret
    all_goals exact ⟨ret_bool (by simp [hne]), Below.refl _ _⟩
def markIs : Int → List Int → List Int
  | _, [] => []
  | k, _ :: xs => k :: markIs (k + 1) xs
theorem markIs_len : ∀ (xs : List Int) (k : Int), (markIs k xs).length = xs.length
  | [], _ => rfl
  | _ :: xs, k => by simp [markIs, markIs_len xs]
theorem markIs_at : ∀ (xs : List Int) (k : Int) (j : Nat) , j < xs.length → (markIs k xs)[j]? = some (k + j)
  | [], _, _, h => by simp at h
  | q :: xs, k, 0, h => by simp [markIs]
  | q :: xs, k, j + 1, h => by
    rw [markIs, List.getElem?_cons_succ, markIs_at xs _ j (by simpa using h), show k + 1 + (j : Int) = k + ((j + 1 : Nat) : Int) by omega]
theorem markIs_step (xs : List Int) (k : Int) (j : Nat) (h : j < xs.length) : ((markIs k xs).take j ++ xs.drop j).set j (k + j) = (markIs k xs).take (j + 1) ++ xs.drop (j + 1) := by
  have hl := markIs_len xs k
  rw [List.set_append_right _ _ (by simp; omega), show j - ((markIs k xs).take j).length = 0 by simp; omega, List.drop_eq_getElem_cons h, List.set_cons_zero, List.take_add_one, markIs_at xs k j h]
  simp
theorem Row.setInt {w w' : World} {b o k : Nat} {xs : List Int} {x : Int} (h : Row w (some ⟨b, o, none⟩) (ints xs)) (hk : k < xs.length) (hw : Wrote w w' b (o + k) [.int .i64 x]) : Row w' (some ⟨b, o, none⟩) (ints (xs.set k x)) := by
  rw [ints_set]
  exact hw.row h (by rw [ints_len]; simp; omega)
theorem laws_markIntS (A : Option Addr) (n c : Nat) (xs : List Int) (k : Int) (w : World) (hn : n = xs.length) (hl : n < 1000000000000) (h0 : 0 ≤ k) (h1 : k < 1000000000000000) (hR : Row w A (ints xs)) :
    Calls Tryz.prog 22 #[.slice A n c, .int .i64 k] w fun e w' => e = .returned (.int .i64 (k + n)) ∧ Row w' A (ints (markIs k xs)) ∧ Agr (blk A) w w' := by
  have HN := Lib.hid hn
  clear hn
  go_enter Tryz.func22, Tryz.ntmps22
  go_wp2
  go_loopw [1, 5] (fun q i wr => ∃ (j : Nat), j ≤ n ∧ i = .int .i64 j ∧ q = .int .i64 (k + j) ∧ Row wr A (ints ((markIs k xs).take j ++ xs.drop j)) ∧ Agr (blk A) w wr) (fun _ i _ => n - (intOf i).toNat)
  case atStart => exact ⟨0, by omega, rfl, by simp, by simpa using hR, Agr.refl _ _⟩
  case round =>
    obtain ⟨j, hj, rfl, rfl, hr, hA⟩ := hrel
    have hml := Lib.hid (markIs_len xs k)
    by_cases hlt : j < n
    · have hlx := Lib.hid (show j < xs.length by have := HN.out; omega)
      obtain ⟨b, o, rfl⟩ := hR.addr (ints_ne (by rintro rfl; have := hlx.out; simp at this))
      obtain ⟨q, hq⟩ := get_some (l := (markIs k xs).take j ++ xs.drop j) (k := j) (by have := hml.out; have := hlx.out; simp; omega)
      obtain ⟨c0, f0⟩ := hr.int_ hq
      have hW := wrote_one c0 (.int .i64 (k + j))
      have hr2 := hr.setInt (k := j) (x := k + j) (by have := hml.out; have := hlx.out; simp; omega) hW
      rw [markIs_step xs k j hlx.out] at hr2
      have hA2 := hA.trans hW.agr (fun _ _ e => by rw [e]; exact blk_some.2 rfl)
      have hj1 : (j : Int) < n := by omega
      clear hW hq
      go_wp2
      go_roundw
      case rel => exact ⟨j + 1, by omega, by go_num, by congr 1; omega, hr2, hA2⟩
      case measure => simp [intOf]; omega
    · obtain rfl : j = n := by omega
      go_wp2
      go_ret
      rw [List.take_of_length_le (by rw [hml.out, HN.out]; exact Nat.le_refl _), List.drop_of_length_le (by rw [HN.out]; exact Nat.le_refl _), List.append_nil] at hr
      exact ⟨rfl, hr, hA⟩
theorem laws_heldIntS (A : Option Addr) (n c : Nat) (xs : List Int) (k : Int) (w : World) (hn : n = xs.length) (hl : n < 1000000000000) (h0 : 0 ≤ k) (h1 : k < 1000000000000000) (hR : Row w A (ints (markIs k xs))) :
    Calls Tryz.prog 24 #[.slice A n c, .int .i64 k] w fun e w' => e = .returned (.int .i64 (k + n)) ∧ w = w' := by
  have HN := Lib.hid hn
  clear hn
  go_enter Tryz.func24, Tryz.ntmps24
  go_wp2
  go_loop [1, 5] (fun q i => ∃ (j : Nat), j ≤ n ∧ i = .int .i64 j ∧ q = .int .i64 (k + j)) (fun _ i => n - (intOf i).toNat)
  case atStart => exact ⟨0, by omega, rfl, by simp⟩
  case round =>
    obtain ⟨j, hj, rfl, rfl⟩ := hrel
    by_cases hlt : j < n
    · have hq := markIs_at xs k j (by have := HN.out; omega)
      obtain ⟨b, o, rfl⟩ := hR.addr (ints_ne (by intro e; rw [e] at hq; simp at hq))
      obtain ⟨c0, f0⟩ := hR.int_ hq
      have hj1 : (j : Int) < n := by omega
      clear hq
      go_wp2
      go_round
      case rel => exact ⟨j + 1, by omega, by go_num, by congr 1; omega⟩
      case measure => simp [intOf]; omega
    · obtain rfl : j = n := by omega
      go_wp2
      go_ret
      exact ⟨rfl, rfl⟩
theorem Fl.drew {w : World} {A : Option Addr} {f : List Bk} (h : Fl w A f) : Fl w.drew A f := by obtain ⟨hs, h⟩ := h; exact ⟨hs, h.drew⟩
theorem laws_eqStore (A A' D D' : Option Addr) (n n' m m' c c' d d' : Nat) (f g : List Bk) (xs ys : List Int) (w : World) (hn : n = f.length) (hn' : n' = g.length) (hm : m = xs.length) (hm' : m' = ys.length) (hl : f.length < 1000000000000) (hl' : g.length < 1000000000000) (hp : ∀ b ∈ f, b.pages.length < 1000000000000) (hp' : ∀ b ∈ g, b.pages.length < 1000000000000)
    (hx : xs.length < 1000000000000) (hy : ys.length < 1000000000000) (hF : Fl w A f) (hF' : Fl w A' g) (hR : Row w D (ints xs)) (hR' : Row w D' (ints ys)) :
    Calls Tryz.prog 8 #[.agg #[.slice A n c, .slice D m d], .agg #[.slice A' n' c', .slice D' m' d']] w fun e w' => e = .returned (.bool (decide (f = g) && decide (xs = ys))) ∧ Below w.heap.size w w' := by
  subst hn; subst hn'; subst hm; subst hm'
  have HP := Lib.hid hp
  have HP' := Lib.hid hp'
  clear hp hp'
  go_enter Tryz.func8, Tryz.ntmps8
  go_wp2_with fail
  refine (laws_eqBlockS A A' c c' f g _ hl hl' HP.out HP'.out ((hF.alloc _).alloc _) ((hF'.alloc _).alloc _)).mono ?_
  rintro e w1 ⟨rfl, hb⟩
  obtain ⟨hc, hf⟩ := bcell hb
  have hz : w.heap.size + 1 + 1 ≤ w1.heap.size := by have := hb.size; simpa using this
  have hB : Below w.heap.size w w1 := Below.trans (by (repeat (first | (with_reducible exact Below.refl _ _) | (with_reducible assumption) | (refine Below.setCell ?_ (by first | omega | exact hB.size | exact hb.size | (have h := hB.size; simp; omega) | (have h := hb.size; simp; omega) | (simp; omega) | simp) _) | (refine Below.alloc ?_ (by first | omega | exact hB.size | exact hb.size | (have h := hB.size; simp; omega) | (have h := hb.size; simp; omega) | (simp; omega) | simp) _) | (refine Below.drew ?_)))) (hb.mono (by simp; omega))
  clear hb
  by_cases h1 : f = g
  · rw [show decide (f = g) = true from by simp [h1]]
    go_wp2_with fail
    refine (laws_eqIntS D D' d d' xs ys _ hx hy (hR.below hB (Nat.le_refl _)) (hR'.below hB (Nat.le_refl _))).mono ?_
    rintro e w2 ⟨rfl, hb2⟩
    by_cases h2 : xs = ys
    · rw [show decide (xs = ys) = true from by simp [h2]]
      go_wp2
      go_ret
      exact ⟨ret_bool (by simp [h1, h2]), hB.trans (hb2.mono (by omega))⟩
    · rw [show decide (xs = ys) = false from by simp [h2]]
      go_wp2
      go_ret
      exact ⟨ret_bool (by simp [h2]), hB.trans (hb2.mono (by omega))⟩
  · rw [show decide (f = g) = false from by simp [h1]]
    go_wp2
    go_ret
    exact ⟨ret_bool (by simp [h1]), hB⟩
theorem laws_markStore (A D : Option Addr) (n m c d : Nat) (f : List Bk) (xs : List Int) (k : Int) (lo hi : Nat) (w : World) (hn : n = f.length) (hm : m = xs.length) (hl : f.length < 1000000000000) (hp : ∀ b ∈ f, b.pages.length < 1000000000000) (hx : xs.length < 1000000000000) (h0 : 0 ≤ k) (h1 : endFl k f + m < 1000000000000000) (hlh : hi ≤ w.heap.size) (hO : OSt w lo hi A f D xs) :
    Calls Tryz.prog 11 #[.agg #[.slice A n c, .slice D m d], .int .i64 k] w fun e w' => e = .returned (.int .i64 (endFl k f + m)) ∧ OSt w' lo hi A (markFl k f) D (markIs (endFl k f) xs) ∧ Agr (fun b => lo ≤ b ∧ b < hi) w w' := by
  subst hn; subst hm
  have HP := Lib.hid hp
  have hO1 := hO.below (B := w.heap.size) ((Below.refl _ _).alloc (Nat.le_refl _) (.cells #[.slice A f.length c, .slice D xs.length d] 27)) (Nat.le_refl _)
  obtain ⟨hs, hBk, hApt, hR, hd⟩ := hO1
  have HD := Lib.hid hd
  have hge := endFl_ge f k
  clear hp hO hd
  go_enter Tryz.func11, Tryz.ntmps11
  go_wp2_with fail
  refine (laws_markBlockS' A _ c f hs k lo hi _ rfl hl HP.out h0 (by omega) hBk hApt).mono ?_
  rintro e w1 ⟨rfl, hBk1, hA1⟩
  have hAA : Agr (fun b => lo ≤ b ∧ b < hi) w w1 := ((Agr.refl _ w).alloc _).trans hA1 (fun b hl hS => by
    rcases hS with h | ⟨i, x, hx, h⟩
    · exact hApt.top b h
    · have := hApt.in_ i x b hx h; exact ⟨this.1, this.2.1⟩)
  have hcc : ∀ i, w1.cell? ⟨w.heap.size, i, none⟩ = (w.alloc (.cells #[.slice A f.length c, .slice D xs.length d] 27)).cell? ⟨w.heap.size, i, none⟩ := fun i => hA1.cell (by simp) (fun hS => by
    rcases hS with h | ⟨i, x, hx, h⟩
    · have := hApt.top _ h; omega
    · have := hApt.in_ i x _ hx h; omega) i
  have hc1 : w1.cell? ⟨w.heap.size, 1, none⟩ = some (.slice D xs.length d) := (hcc 1).trans (by simp)
  have hR1 := hR.agr hA1 (fun b hb hS => by
    rcases hS with h | ⟨i, x, hx, h⟩
    · exact (HD.out b hb).2.2.1 h
    · exact (HD.out b hb).2.2.2 i x hx h)
  have hg0 : 0 ≤ endFl k f := by omega
  clear hA1 hcc
  go_wp2_with fail
  refine (laws_markIntS D _ d xs _ _ rfl (by omega) (by omega) (by omega) hR1).mono ?_
  rintro e w2 ⟨rfl, hR2, hA2⟩
  go_wp2
  go_ret
  refine ⟨rfl, ⟨hs, hBk1.keep fun b hb hl => hA2.block b hl fun hd => ?_, hApt, hR2, HD.out⟩, hAA.trans hA2 fun b hl hd => ⟨(HD.out b hd).1, (HD.out b hd).2.1⟩⟩
  rcases hb with hb | ⟨x, hx, hb⟩
  · exact (HD.out b hd).2.2.1 hb
  · obtain ⟨i, hi'⟩ := List.getElem?_of_mem hx
    exact (HD.out b hd).2.2.2 i x hi' hb
theorem laws_heldStore (A D : Option Addr) (n m c d : Nat) (f : List Bk) (xs : List Int) (k : Int) (lo hi : Nat) (w : World) (hn : n = f.length) (hm : m = xs.length) (hl : f.length < 1000000000000) (hp : ∀ b ∈ f, b.pages.length < 1000000000000) (hx : xs.length < 1000000000000) (h0 : 0 ≤ k) (h1 : endFl k f + m < 1000000000000000) (hO : OSt w lo hi A (markFl k f) D (markIs (endFl k f) xs)) :
    Calls Tryz.prog 12 #[.agg #[.slice A n c, .slice D m d], .int .i64 k] w fun e w' => e = .returned (.int .i64 (endFl k f + m)) ∧ Below w.heap.size w w' := by
  subst hn; subst hm
  have HP := Lib.hid hp
  have hO1 := hO.below (B := w.heap.size) ((Below.refl _ _).alloc (Nat.le_refl _) (.cells #[.slice A f.length c, .slice D xs.length d] 27)) (Nat.le_refl _)
  have hge := endFl_ge f k
  clear hp hO
  go_enter Tryz.func12, Tryz.ntmps12
  go_wp2_with fail
  refine (laws_heldBlockS A _ c f k _ rfl (by omega) HP.out h0 (by omega) hO1.ofl.fl).mono ?_
  rintro e w1 ⟨rfl, rfl⟩
  have hg0 : 0 ≤ endFl k f := by omega
  go_wp2_with fail
  refine (laws_heldIntS D _ d xs _ _ rfl (by omega) (by omega) (by omega) hO1.disk).mono ?_
  rintro e w2 ⟨rfl, rfl⟩
  have hg1 : 0 ≤ endFl k f + xs.length := by omega
  go_wp2
  go_ret
  exact ⟨rfl, by (repeat (first | (with_reducible exact Below.refl _ _) | (with_reducible assumption) | (refine Below.setCell ?_ (by first | omega | exact hB.size | exact hb.size | (have h := hB.size; simp; omega) | (have h := hb.size; simp; omega) | (simp; omega) | simp) _) | (refine Below.alloc ?_ (by first | omega | exact hB.size | exact hb.size | (have h := hB.size; simp; omega) | (have h := hb.size; simp; omega) | (simp; omega) | simp) _) | (refine Below.drew ?_)))⟩
end Go.Proofs.YtohkoogmbfaceaaGreat
namespace Go.Proofs.YtohkoogmbfaceaaGreat
set_option linter.unusedVariables false
set_option linter.unusedSimpArgs false
open Go.RowKit Go.Maps
set_option maxHeartbeats 400000
end Go.Proofs.YtohkoogmbfaceaaGreat
namespace Go.Proofs.YtohkoogmbfaceaaGreat
set_option linter.unusedVariables false
set_option linter.unusedSimpArgs false
open Go.RowKit Go.Maps
set_option maxHeartbeats 400000
/-- a count goes down, -1 if below nought -/
def down (left : Int) (n : Nat) : Int := if left - n < 0 then -1 else left - n
end Go.Proofs.YtohkoogmbfaceaaGreat
namespace Go.Proofs.YtohkoogmbfaceaaGreat
set_option linter.unusedVariables false
set_option linter.unusedSimpArgs false
open Go.RowKit Go.Maps
set_option maxHeartbeats 400000
/-- no more blocks than may be, and no more pages in one -/
def Small (f : List Bk) : Prop := f.length ≤ 1048576 ∧ ∀ b ∈ f, b.pages.length ≤ 1048576
theorem Small.len {f : List Bk} (h : Small f) : f.length < 1000000000000 := by have := h.1; omega
theorem Small.pages {f : List Bk} (h : Small f) : ∀ b ∈ f, b.pages.length < 1000000000000 := fun b hb => by have := h.2 b hb; omega
theorem Small.end {f : List Bk} (h : Small f) : endFl 1 f < 1000000000000000 := by
  have h1 := endFl_le 1048576 f 1 (fun b hb => by have := h.2 b hb; omega)
  have h2 := h.1
  omega
end Go.Proofs.YtohkoogmbfaceaaGreat
namespace Go.Proofs.YtohkoogmbfaceaaGreat
set_option linter.unusedVariables false
set_option linter.unusedSimpArgs false
open Go.RowKit Go.Maps
set_option maxHeartbeats 4000000
set_option maxRecDepth 20000
end Go.Proofs.YtohkoogmbfaceaaGreat
namespace Go.Proofs.YtohkoogmbfaceaaGreat
set_option linter.unusedVariables false
set_option linter.unusedSimpArgs false
open Go.RowKit Go.Maps
set_option maxHeartbeats 4000000
set_option maxRecDepth 20000
theorem laws_toEvent (k a v c : Int) (t : Bool) (w : World) : Calls Tryz.prog 15 #[.agg #[.int .i64 k, .int .i64 a, .int .i64 v, .int .i64 c, .bool t]] w fun e w' => e = .returned (.agg #[.int .i64 k, .int .i64 a, .int .i64 v, .int .i64 c, .bool t]) ∧ Below w.heap.size w w' := by
  go_enter Tryz.func15, Tryz.ntmps15
  go_wp2
  refine bodyPost_ret (v := .agg #[.int .i64 k, .int .i64 a, .int .i64 v, .int .i64 c, .bool t]) (by simp [results, Tryz.results15, go_sem]) rfl ⟨rfl, ?_⟩
  (repeat (first | (with_reducible exact Below.refl _ _) | (with_reducible assumption) | (refine Below.setCell ?_ (by first | omega | exact hB.size | exact hb.size | (have h := hB.size; simp; omega) | (have h := hb.size; simp; omega) | (simp; omega) | simp) _) | (refine Below.alloc ?_ (by first | omega | exact hB.size | exact hb.size | (have h := hB.size; simp; omega) | (have h := hb.size; simp; omega) | (simp; omega) | simp) _) | (refine Below.drew ?_)))
end Go.Proofs.YtohkoogmbfaceaaGreat
namespace Go.Proofs.YtohkoogmbfaceaaGreat
set_option linter.unusedVariables false
set_option linter.unusedSimpArgs false
open Go.RowKit Go.Maps
set_option maxHeartbeats 4000000
set_option maxRecDepth 20000
theorem evs_set' : ∀ (ps : List Ev) (k : Nat) (p : Ev), k < ps.length → evs (ps.set k p) = setL (evs ps) (k * 5) p.vs
  | [], _, _, h => by simp at h
  | q :: ps, 0, p, _ => by simp [evs, Ev.vs, setL]
  | q :: ps, k + 1, p, h => by
    have := evs_set' ps k p (by simpa using h)
    simp only [List.set_cons_succ]
    show q.vs ++ evs (ps.set k p) = setL (q.vs ++ evs ps) ((k + 1) * 5) p.vs
    rw [this, show (k + 1) * 5 = q.vs.length + k * 5 by simp [Ev.vs]; omega, setL_right]
theorem evs_ne' {ps : List Ev} (h : ps ≠ []) : evs ps ≠ [] := by
  intro e
  have := evs_len ps
  rw [e] at this
  cases ps with
  | nil => exact h rfl
  | cons p ps => simp at this
theorem Row.evfz {w : World} {b o k : Nat} {ps : List Ev} {p : Ev} (h : Row w (some ⟨b, o, none⟩) (evs ps)) (hk : ps[k]? = some p) :
    w.frozen? ⟨b, o + k * 5, none⟩ = false ∧ w.frozen? ⟨b, o + k * 5 + 1, none⟩ = false ∧ w.frozen? ⟨b, o + k * 5 + 2, none⟩ = false ∧ w.frozen? ⟨b, o + k * 5 + 3, none⟩ = false ∧ w.frozen? ⟨b, o + k * 5 + 4, none⟩ = false := by
  have hlt := (List.getElem?_eq_some_iff.1 hk).1
  obtain ⟨b', o', he, hc⟩ := h (by intro e; have := evs_len ps; rw [e] at this; simp at this; omega)
  cases he
  have hg : ∀ j u, p.vs[j]? = some u → j < 5 → w.frozen? ⟨b, o + (k * 5 + j), none⟩ = false := fun j u hj hl => (hc (k * 5 + j) u (by rw [evs, flat_get _ 5 (fun _ => rfl) ps k j p hk hl]; exact hj)).2
  exact ⟨hg 0 _ rfl (by omega), hg 1 _ rfl (by omega), hg 2 _ rfl (by omega), hg 3 _ rfl (by omega), hg 4 _ rfl (by omega)⟩
theorem RRow.ev {w : World} {b o k : Nat} {ps : List Ev} {p : Ev} (h : RRow w (some ⟨b, o, none⟩) (evs ps)) (hk : ps[k]? = some p) :
    w.cell? ⟨b, o + k * 5, none⟩ = some (.int .i64 p.kind) ∧ w.cell? ⟨b, o + k * 5 + 1, none⟩ = some (.int .i64 p.a) ∧ w.cell? ⟨b, o + k * 5 + 2, none⟩ = some (.int .i64 p.b) ∧ w.cell? ⟨b, o + k * 5 + 3, none⟩ = some (.int .i64 p.c) ∧ w.cell? ⟨b, o + k * 5 + 4, none⟩ = some (.bool p.torn) := by
  have hlt := (List.getElem?_eq_some_iff.1 hk).1
  obtain ⟨b', o', he, hc⟩ := h (by intro e; have := evs_len ps; rw [e] at this; simp at this; omega)
  cases he
  have hg : ∀ j u, p.vs[j]? = some u → j < 5 → w.cell? ⟨b, o + (k * 5 + j), none⟩ = some u := fun j u hj hl => hc (k * 5 + j) u (by rw [evs, flat_get _ 5 (fun _ => rfl) ps k j p hk hl]; exact hj)
  exact ⟨hg 0 _ rfl (by omega), hg 1 _ rfl (by omega), hg 2 _ rfl (by omega), hg 3 _ rfl (by omega), hg 4 _ rfl (by omega)⟩
theorem wrote_ev {w : World} {b o k : Nat} {ps : List Ev} {q : Ev} (h : Row w (some ⟨b, o, none⟩) (evs ps)) (hk : ps[k]? = some q) (p : Ev) :
    Wrote w (((((w.setCell ⟨b, o + k * 5, none⟩ (.int .i64 p.kind)).setCell ⟨b, o + k * 5 + 1, none⟩ (.int .i64 p.a)).setCell ⟨b, o + k * 5 + 2, none⟩ (.int .i64 p.b)).setCell ⟨b, o + k * 5 + 3, none⟩ (.int .i64 p.c)).setCell ⟨b, o + k * 5 + 4, none⟩ (.bool p.torn)) b (o + k * 5) p.vs := by
  refine wrote_setRow b p.vs (o + k * 5) w fun j hj => ?_
  obtain ⟨c0, c1, c2, c3, c4⟩ := h.ev hk
  match j, hj with
  | 0, _ => exact ⟨_, c0⟩
  | 1, _ => exact ⟨_, c1⟩
  | 2, _ => exact ⟨_, c2⟩
  | 3, _ => exact ⟨_, c3⟩
  | 4, _ => exact ⟨_, c4⟩
theorem Row.setEv {w w' : World} {b o k : Nat} {ps : List Ev} {p : Ev} (h : Row w (some ⟨b, o, none⟩) (evs ps)) (hk : k < ps.length) (hw : Wrote w w' b (o + k * 5) p.vs) : Row w' (some ⟨b, o, none⟩) (evs (ps.set k p)) := by
  rw [evs_set' ps k p hk]
  exact hw.row h (by rw [evs_len]; simp [Ev.vs]; omega)
def ev0 : Ev := ⟨0, 0, 0, 0, false⟩
theorem laws_szEventS (A : Option Addr) (n c : Nat) (left : Int) (w : World) (h1 : -1 ≤ left) (h2 : left ≤ 1048576) (hn : n ≤ 9223372036854775807) :
    Calls Tryz.prog 4 #[.slice A n c, .int .i64 left] w fun e w' => e = .returned (.int .i64 (down left n)) ∧ w = w' := by
  go_enter Tryz.func4, Tryz.ntmps4
  go_wp2
  all_goals (go_ret; exact ⟨ret_int (by unfold down; first | rw [if_pos (by omega)] | rw [if_neg (by omega)]), rfl⟩)
/-- behind its walk only this is asked: where it wrote -/
theorem laws_markEventS (A : Option Addr) (n c : Nat) (ss : List Ev) (k : Int) (w : World) (hn : n = ss.length) (hl : n < 1000000000000) (h0 : 0 ≤ k) (h1 : k < 1000000000000000) (hR : Row w A (evs ss)) :
    Calls Tryz.prog 10 #[.slice A n c, .int .i64 k] w fun e w' => e = .returned (.int .i64 (k + 5 * n)) ∧ Agr (blk A) w w' := by
  have HN := Lib.hid hn
  clear hn
  go_enter Tryz.func10, Tryz.ntmps10
  go_wp2
  go_loopw [1, 5] (fun q i wr => ∃ (j : Nat) (zs : List Ev), j ≤ n ∧ i = .int .i64 j ∧ q = .int .i64 (k + 5 * j) ∧ Row wr A (evs zs) ∧ Hid (zs.length = n) ∧ Agr (blk A) w wr) (fun _ i _ => n - (intOf i).toNat)
  case atStart => exact ⟨0, ss, by omega, rfl, by simp, hR, HN.out.symm, Agr.refl _ _⟩
  case round =>
    obtain ⟨j, zs, hj, rfl, rfl, hr, HZ, hA⟩ := hrel
    by_cases hlt : j < n
    · obtain ⟨b, o, rfl⟩ := hr.addr (evs_ne' (by rintro rfl; have := HZ.out; simp at this; omega))
      obtain ⟨q, hq⟩ := get_some (l := zs) (k := j) (by rw [HZ.out]; exact hlt)
      obtain ⟨c0, c1, c2, c3, c4⟩ := hr.ev hq
      obtain ⟨f0, f1, f2, f3, f4⟩ := hr.evfz hq
      have hm : Int.tmod (k + 5 * (j : Int) + 1 + 1 + 1 + 1) 3 = (k + 5 * (j : Int) + 1 + 1 + 1 + 1) % 3 := Int.tmod_eq_emod_of_nonneg (by omega)
      have hW := wrote_ev hr hq ⟨k + 5 * j, k + 5 * j + 1, k + 5 * j + 1 + 1, k + 5 * j + 1 + 1 + 1, (k + 5 * (j : Int) + 1 + 1 + 1 + 1) % 3 == 0⟩
      have hr2 := hr.setEv (k := j) (by rw [HZ.out]; exact hlt) hW
      have hA2 := hA.trans hW.agr (fun _ _ e => by rw [e]; exact blk_some.2 rfl)
      have hj1 : (j : Int) < n := by omega
      dsimp only at hr2 hA2
      clear hW hq
      go_wp2
      go_roundw
      case rel => exact ⟨j + 1, _, by omega, by go_num, by congr 1; omega, hr2, by rw [Hid, List.length_set]; exact HZ.out, hA2⟩
      case measure => simp [intOf]; omega
    · obtain rfl : j = n := by omega
      go_wp2
      go_ret
      exact ⟨rfl, hA⟩
theorem laws_eqEvent (p q : Ev) (w : World) : Calls Tryz.prog 20 #[.agg #[.int .i64 p.kind, .int .i64 p.a, .int .i64 p.b, .int .i64 p.c, .bool p.torn], .agg #[.int .i64 q.kind, .int .i64 q.a, .int .i64 q.b, .int .i64 q.c, .bool q.torn]] w
    fun e w' => e = .returned (.bool (decide (p = q))) ∧ Below w.heap.size w w' := by
  obtain ⟨k, a, v, b, t⟩ := p
  obtain ⟨k', a', v', b', t'⟩ := q
  dsimp only
  by_cases hk : k = k' ∧ a = a' ∧ v = v' ∧ b = b'
  · obtain ⟨rfl, rfl, rfl, rfl⟩ := hk
    by_cases ht : t = t'
    · subst ht
      have hn : (t != t) = false := by simp
      go_enter Tryz.func20, Tryz.ntmps20
      go_wp2
      go_ret
      exact ⟨ret_bool (by simp), ((Below.refl _ _).alloc (Nat.le_refl _) _).alloc (by simp) _⟩
    · rcases t with _ | _ <;> rcases t' with _ | _
      · exact absurd rfl ht
      · clear ht
        go_enter Tryz.func20, Tryz.ntmps20
        go_wp2
        go_ret
        exact ⟨ret_bool (by simp), ((Below.refl _ _).alloc (Nat.le_refl _) _).alloc (by simp) _⟩
      · clear ht
        go_enter Tryz.func20, Tryz.ntmps20
        go_wp2
        go_ret
        exact ⟨ret_bool (by simp), ((Below.refl _ _).alloc (Nat.le_refl _) _).alloc (by simp) _⟩
      · exact absurd rfl ht
  · have hq : Hid (decide ((⟨k, a, v, b, t⟩ : Ev) = ⟨k', a', v', b', t'⟩) = false) := by unfold Hid; simp; intro h1 h2 h3 h4; exact absurd ⟨h1, h2, h3, h4⟩ hk
    by_cases h1 : k = k'
    · by_cases h2 : a = a'
      · by_cases h3 : v = v'
        · have h4 : ¬ b = b' := fun h => hk ⟨h1, h2, h3, h⟩
          clear hk
          go_enter Tryz.func20, Tryz.ntmps20
          go_wp2
          go_ret
          exact ⟨ret_bool hq.out.symm, ((Below.refl _ _).alloc (Nat.le_refl _) _).alloc (by simp) _⟩
        · clear hk
          go_enter Tryz.func20, Tryz.ntmps20
          go_wp2
          go_ret
          exact ⟨ret_bool hq.out.symm, ((Below.refl _ _).alloc (Nat.le_refl _) _).alloc (by simp) _⟩
      · clear hk
        go_enter Tryz.func20, Tryz.ntmps20
        go_wp2
        go_ret
        exact ⟨ret_bool hq.out.symm, ((Below.refl _ _).alloc (Nat.le_refl _) _).alloc (by simp) _⟩
    · clear hk
      go_enter Tryz.func20, Tryz.ntmps20
      go_wp2
      go_ret
      exact ⟨ret_bool hq.out.symm, ((Below.refl _ _).alloc (Nat.le_refl _) _).alloc (by simp) _⟩
theorem laws_eqEventS (A A' : Option Addr) (n n' c c' : Nat) (ps qs : List Ev) (w : World) (hn0 : n = ps.length) (hn1 : n' = qs.length) (hl : ps.length < 1000000000000) (hl' : qs.length < 1000000000000) (hR : Row w A (evs ps)) (hR' : Row w A' (evs qs)) :
    Calls Tryz.prog 9 #[.slice A n c, .slice A' n' c'] w fun e w' => e = .returned (.bool (decide (ps = qs))) ∧ Below w.heap.size w w' := by
  subst hn0; subst hn1
  by_cases hn : ps.length = qs.length
  · have HN := Lib.hid hn
    rw [← hn]
    clear hn hl'
    go_enter Tryz.func9, Tryz.ntmps9
    go_wp2
    go_loopw [5] (fun i wr => ∃ (k : Nat), k ≤ ps.length ∧ i = .int .i64 k ∧ Below w.heap.size w wr ∧ Hid (decide (ps = qs) = decide (ps.drop k = qs.drop k))) (fun i _ => ps.length - (intOf i).toNat)
    case atStart => exact ⟨0, by omega, rfl, Below.refl _ _, by simp [Hid]⟩
    case round =>
      obtain ⟨k, hk, rfl, hb, hg⟩ := hrel
      by_cases hlt : k < ps.length
      · obtain ⟨p, hp⟩ := get_some hlt
        obtain ⟨q, hq⟩ := get_some (l := qs) (k := k) (by have := HN.out; omega)
        have hd := Lib.hid (eq_drop hp hq)
        obtain ⟨b, o, rfl⟩ := hR.addr (evs_ne' (by rintro rfl; simp at hlt))
        obtain ⟨b', o', rfl⟩ := hR'.addr (evs_ne' (by rintro rfl; simp at hq))
        have hRk := hR.below hb (Nat.le_refl _)
        have hRk' := hR'.below hb (Nat.le_refl _)
        obtain ⟨c0, c1, c2, c3, c4⟩ := hRk.ev hp
        obtain ⟨d0, d1, d2, d3, d4⟩ := hRk'.ev hq
        have hk1 : (k : Int) < ps.length := by omega
        have HP := Lib.hid hp
        have HQ := Lib.hid hq
        clear hp hq
        go_wp2
        go_region_held3 (fun w' => w'.cell? ⟨b, o + k * 5, none⟩ = some (.int .i64 p.kind) ∧ w'.cell? ⟨b, o + k * 5 + 1, none⟩ = some (.int .i64 p.a) ∧ w'.cell? ⟨b, o + k * 5 + 2, none⟩ = some (.int .i64 p.b) ∧ w'.cell? ⟨b, o + k * 5 + 3, none⟩ = some (.int .i64 p.c) ∧ w'.cell? ⟨b, o + k * 5 + 4, none⟩ = some (.bool p.torn) ∧
            w'.cell? ⟨b', o' + k * 5, none⟩ = some (.int .i64 q.kind) ∧ w'.cell? ⟨b', o' + k * 5 + 1, none⟩ = some (.int .i64 q.a) ∧ w'.cell? ⟨b', o' + k * 5 + 2, none⟩ = some (.int .i64 q.b) ∧ w'.cell? ⟨b', o' + k * 5 + 3, none⟩ = some (.int .i64 q.c) ∧ w'.cell? ⟨b', o' + k * 5 + 4, none⟩ = some (.bool q.torn))
          (first | go_keep | trivial)
          (first | (go_at_call 20; refine (laws_eqEvent p q _).mono ?_; rintro e w1 ⟨rfl, hb1⟩; replace hb1 := undrew hb1; obtain ⟨e0, e1, e2, e3, e4⟩ := (hRk.below hb1 (Nat.le_refl _)).ev HP.out; obtain ⟨g0, g1, g2, g3, g4⟩ := (hRk'.below hb1 (Nat.le_refl _)).ev HQ.out))
        have hB1 := hb.trans (hb1.mono hb.size)
        go_wp2
        · have hne : (!decide (p = q)) = true := by assumption
          have hne' : decide (p = q) = false := by simpa using hne
          go_ret
          exact ⟨ret_bool (by rw [hg.out, hd.out, hne']; rfl), hB1⟩
        · have heq : (!decide (p = q)) = false := by assumption
          have heq' : decide (p = q) = true := by simpa using heq
          go_roundw
          case rel => exact ⟨k + 1, by omega, by go_num, hB1, by rw [Hid, hg.out, hd.out, heq', Bool.true_and]⟩
          case measure => simp [intOf]; omega
      · obtain rfl : k = ps.length := by omega
        go_wp2
        go_ret
        exact ⟨ret_bool (by rw [hg.out, List.drop_of_length_le (Nat.le_refl _), List.drop_of_length_le (by have := HN.out; omega)]; rfl), hb⟩
  · have hq : Hid (decide (ps = qs) = false) := by unfold Hid; simp; intro e; exact hn (by rw [e])
    go_enter Tryz.func9, Tryz.ntmps9
    go_wp2
    go_ret
    exact ⟨ret_bool hq.out.symm, Below.refl _ _⟩
theorem laws_toEventS (A : Option Addr) (c : Nat) (ps : List Ev) (w : World) (hl : ps.length ≤ 1048576) (hR : RRow w A (evs ps)) :
    Calls Tryz.prog 6 #[.slice A ps.length c] w fun e w' => ∃ g, e = .returned (.slice (some ⟨g, 0, none⟩) ps.length ps.length) ∧ w.heap.size ≤ g ∧ g < w'.heap.size ∧ Row w' (some ⟨g, 0, none⟩) (evs ps) ∧ Below w.heap.size w w' := by
  obtain ⟨ip, hip, hpz0, hpz1, hpz2⟩ := info_parts (show (Tryz.prog.info? 40).map (fun i => (i.zero, i.size, i.bytes)) = some (some (.agg #[.int .i64 0, .int .i64 0, .int .i64 0, .int .i64 0, .bool false]), 5, 40) by kernel_rfl)
  have hmk := fun W => run_make_n (P := Tryz.prog) 30 40 ip _ 5 40 Tryz.underlying30 hip hpz0 hpz1 hpz2 ps.length (by omega) (by omega) W
  have hnew : Row (w.alloc (.cells (madeCells #[.int .i64 0, .int .i64 0, .int .i64 0, .int .i64 0, .bool false] (ps.length * 5)) 40)) (some ⟨w.heap.size, 0, none⟩) (evs (List.replicate ps.length ev0)) := by
    have := Row.new w (madeCells #[.int .i64 0, .int .i64 0, .int .i64 0, .int .i64 0, .bool false] (ps.length * 5)) 40
    rw [made_list Ev.vs ev0 #[.int .i64 0, .int .i64 0, .int .i64 0, .int .i64 0, .bool false] 5 rfl rfl (by simp) ps.length] at this
    exact this
  have hB0 : Below w.heap.size w (w.alloc (.cells (madeCells #[.int .i64 0, .int .i64 0, .int .i64 0, .int .i64 0, .bool false] (ps.length * 5)) 40)) := (Below.refl _ _).alloc (Nat.le_refl _) _
  have hmkw := hmk w
  have hsz : (w.alloc (.cells (madeCells #[.int .i64 0, .int .i64 0, .int .i64 0, .int .i64 0, .bool false] (ps.length * 5)) 40)).heap.size = w.heap.size + 1 := by simp
  simp only [Value.cells] at hmkw
  generalize w.alloc (.cells (madeCells #[.int .i64 0, .int .i64 0, .int .i64 0, .int .i64 0, .bool false] (ps.length * 5)) 40) = W at *
  have hszW : w.heap.size < W.heap.size := by omega
  clear hmk hsz
  go_enter Tryz.func6, Tryz.ntmps6
  go_wp2
  go_loopw [4] (fun i wr => ∃ k : Nat, k ≤ ps.length ∧ i = .int .i64 k ∧ Below w.heap.size w wr ∧ w.heap.size < wr.heap.size ∧ Row wr (some ⟨w.heap.size, 0, none⟩) (evs (ps.take k ++ (List.replicate ps.length ev0).drop k))) (fun i _ => ps.length - (intOf i).toNat)
  case atStart => exact ⟨0, by omega, rfl, hB0, hszW, by simpa using hnew⟩
  case round =>
    clear hnew hB0 hszW hmkw
    obtain ⟨k, hk, rfl, hb, hsz, hr⟩ := hrel
    by_cases hlt : k < ps.length
    · obtain ⟨p, hp⟩ := get_some hlt
      obtain ⟨b, o, rfl⟩ := hR.addr (evs_ne' (by rintro rfl; simp at hlt))
      obtain ⟨c0, c1, c2, c3, c4⟩ := (hR.below hb (Nat.le_refl _)).ev hp
      have hget : (ps.take k ++ (List.replicate ps.length ev0).drop k)[k]? = some ev0 := by
        rw [List.getElem?_append_right (by simp; omega), List.getElem?_drop, List.getElem?_replicate, if_pos (by simp; omega)]
      have hk1 : (k : Int) < ps.length := by omega
      have HP := Lib.hid hp
      have HG := Lib.hid hget
      clear hp hget
      go_wp2_with fail
      refine (laws_toEvent p.kind p.a p.b p.c p.torn _).mono ?_
      rintro e w1 ⟨rfl, hb1⟩
      have hr1 := hr.below hb1 (Nat.le_refl _)
      obtain ⟨d0, d1, d2, d3, d4⟩ := hr1.ev HG.out
      obtain ⟨f0, f1, f2, f3, f4⟩ := hr1.evfz HG.out
      have hWp := wrote_ev hr1 HG.out p
      have hr2 := hr1.setEv (k := k) (by simp; omega) hWp
      rw [copy_step ev0 ps ps.length k p HP.out rfl] at hr2
      have hB1 := hb.trans (hb1.mono hb.size)
      have hB2 := hB1.trans (hWp.agr.below (B := w.heap.size) hB1.size (fun i e => by rw [e]; exact Nat.le_refl _))
      have hs1 := hb1.size
      have HS := Lib.hid hWp.size
      have hs2 : w.heap.size < w1.heap.size := by omega
      simp only [Nat.zero_add] at d0 d1 d2 d3 d4 f0 f1 f2 f3 f4 hr2 hB2 HS
      clear hWp hr1 hb1 c0 c1 c2 c3 c4
      go_wp2
      go_roundw
      case rel => exact ⟨k + 1, by omega, by go_num, hB2, by rw [HS.out]; exact hs2, hr2⟩
      case measure => simp [intOf]; omega
    · obtain rfl : k = ps.length := by omega
      go_wp2
      go_ret
      refine ⟨w.heap.size, rfl, Nat.le_refl _, hsz, ?_, hb⟩
      rw [List.take_of_length_le (Nat.le_refl _), List.drop_of_length_le (by simp), List.append_nil] at hr
      exact hr
end Go.Proofs.YtohkoogmbfaceaaGreat
namespace Go.Proofs.YtohkoogmbfaceaaGreat
set_option linter.unusedVariables false
set_option linter.unusedSimpArgs false
open Go.RowKit Go.WideShapes Go.ChangeShapes
section
variable {H : Type} {enc : TypeId × Value → H} {P : Program}
/-- an argument reads behind the call as before, if below the heap's old size nothing has turned -/
theorem trod_kept {t : TypeId} (hl : laidOutB P = true) (hr : P.readableRec t = true) (hrow : t < P.types.size) {W W' : World} {v : Value} {d : DataW H} {ps qs : List MemPlace} {sp : Nat → Bool}
    (h : DataW.Trod enc P W 0 (fun _ => true) true t v d ps) (hb : Below W.heap.size W W') (hlt : ∀ x ∈ qs, x.block < W.heap.size) (hsp : ∀ p ∈ qs, sp p.block = true) (hq : ∀ x ∈ ps, x ∈ qs) : DataW.Trod enc P W' 0 sp true t v d ps :=
  WideElems.Trod_stays hl hr hrow h (fun x hx => hb.same (hlt x (hq x hx))) (fun x hx => hsp x (hq x hx))
theorem post_of_below {f : Func} {s : ChangeSpec} {apart fresh handsOn again : Bool} {W W' : World} {args : Array Value} {v : Value} {ds gs : List (DataW H)} {before pa pv : List MemPlace}
    (hW : DataW.Whole enc P f.params.toList s.vars apart W args.toList ds gs before)
    (hres : ∀ (b : Nat) (sp : Nat → Bool) (hd : Bool), DataW.TrodAll enc P W' b sp hd f.resultTypes.toList (v.resultList f.resultTypes.size) (s.fn H (ds ++ gs)).results [])
    (hargs : ∀ sp : Nat → Bool, (∀ p ∈ before, sp p.block = true) → DataW.TrodAll enc P W' 0 sp true f.params.toList args.toList (s.fn H (ds ++ gs)).args pa)
    (hvars : ∀ sp : Nat → Bool, (∀ p ∈ before, sp p.block = true) → DataW.TrodVars enc P W' sp s.vars (s.fn H (ds ++ gs)).vars pv)
    (hps : before = pa ++ pv) (hb : Below W.heap.size W W')
    (hok : ∀ (j : Nat) (t : TypeId) (r : Value), f.resultTypes[j]? = some t → (v.resultList f.resultTypes.size)[j]? = some r → Value.okWide P W' .any 0 t r) :
    s.post enc P f apart fresh handsOn again W args v W' := by
  have hlt : ∀ p ∈ before, p.block < W.heap.size := fun p hp => hW.lt p hp
  have hold : ∀ p ∈ before, (fun b => decide (b < W.heap.size)) p.block = true := fun p hp => by simpa using hlt p hp
  refine ⟨ds, gs, before, [], pa, pv, hW, hres _ _ _, hargs _ hold, hvars _ hold, World.keptBut_mono (fun p hp => ⟨hp, ?_⟩) (hb.frame (· ∈ before)), fun _ => ?_⟩
  · rw [hps, List.mem_append] at hp
    exact Or.inr hp
  · obtain ⟨_, _, _, _, _, hz, hn⟩ := hW
    refine ⟨hok, _, _, ([] ++ pa) ++ pv, ⟨[] ++ pa, pv, trodAll_append (hargs _ (fun _ _ => rfl)) (hres _ _ _), hvars _ (fun _ _ => rfl), rfl, ?_, ?_⟩, ?_⟩
    · intro b off hp
      have hin : MemPlace.cell b off ∈ before := by rw [hps]; simpa using hp
      rw [hb.frozen (hlt _ hin)]
      exact hz b off hin
    · intro ha
      have := hn ha
      rw [hps] at this
      simpa using this
    · intro p hp _
      rw [hps]
      simpa using hp
end
end Go.Proofs.YtohkoogmbfaceaaGreat
namespace Go.Proofs.YtohkoogmbfaceaaGreat
set_option linter.unusedVariables false
set_option linter.unusedSimpArgs false
open Go.RowKit Go.ChangeShapes Go.WideShapes Go.Deep
set_option maxRecDepth 100000
instance : Inhabited Pg := ⟨⟨0, rc0⟩⟩
section
variable {H : Type} {enc : TypeId × Value → H} {w : World} {base fuel : Nat} {spare : Nat → Bool} {held : Bool}
theorem plain_addr {w : World} {a : Addr} {u : Value} (h : w.cell? a = some u) : ∃ b o, a = ⟨b, o, none⟩ := by
  obtain ⟨b, o, s⟩ := a
  cases s with
  | none => exact ⟨b, o, rfl⟩
  | some s =>
    have : w.cell? ⟨b, o, some s⟩ = none := by
      unfold World.cell?
      split
      · exact if_pos rfl
      · rfl
    rw [this] at h; cases h
theorem cellsOf_int : Tryz.prog.cellsOf 3 = 1 := by kernel_rfl
/-- a row of elements of m cells each, read one by one, is a row of a list -/
theorem rrow_of {α : Type} [Inhabited α] (g : α → List Value) (m : Nat) (hg : ∀ x, (g x).length = m) (hm : 0 < m) {a : Addr} {n : Nat} (h : ∀ i, i < n → ∃ x : α, ∀ j u, (g x)[j]? = some u → w.cell? (a.add (i * m + j)) = some u) :
    ∃ l : List α, l.length = n ∧ RRow w (some a) (l.flatMap g) := by
  refine ⟨(List.range n).map fun i => if hi : i < n then Classical.choose (h i hi) else default, by simp, fun hne => ?_⟩
  have hn : 0 < n := by
    rcases Nat.eq_zero_or_pos n with rfl | hn
    · simp at hne
    · exact hn
  obtain ⟨x, hx⟩ := h 0 hn
  obtain ⟨u, hu⟩ := get_some (l := g x) (k := 0) (by rw [hg]; exact hm)
  obtain ⟨b, o, rfl⟩ := plain_addr (a := a) (u := u) (by simpa [Addr.add] using hx 0 u hu)
  refine ⟨b, o, rfl, fun j u hj => ?_⟩
  have hjl := (List.getElem?_eq_some_iff.1 hj).1
  rw [flat_len g m hg] at hjl
  simp at hjl
  have hi : j / m < n := Nat.div_lt_of_lt_mul (by rw [Nat.mul_comm]; exact hjl)
  have hd : j = j / m * m + j % m := by rw [Nat.mul_comm]; exact (Nat.div_add_mod j m).symm
  have hr : j % m < m := Nat.mod_lt _ hm
  have key := flat_get g m hg ((List.range n).map fun i => if hi : i < n then Classical.choose (h i hi) else default) (j / m) (j % m) (Classical.choose (h (j / m) hi)) (by rw [List.getElem?_map, List.getElem?_range hi]; simp [hi]) hr
  rw [← hd, hj] at key
  have := Classical.choose_spec (h (j / m) hi) (j % m) u key.symm
  rw [← hd, addr_add] at this
  exact this
end
end Go.Proofs.YtohkoogmbfaceaaGreat
namespace Go.Proofs.YtohkoogmbfaceaaGreat
set_option linter.unusedVariables false
set_option linter.unusedSimpArgs false
open Go.RowKit Go.ChangeShapes Go.WideShapes Go.Deep
set_option maxRecDepth 100000
instance : Inhabited Ev := ⟨⟨0, 0, 0, 0, false⟩⟩
section
variable {H : Type} {enc : TypeId × Value → H} {w : World} {base fuel : Nat} {spare : Nat → Bool} {held : Bool}
theorem cellsOf_levent' : Tryz.prog.cellsOf 42 = 5 := by kernel_rfl
theorem cellsOf_bool' : Tryz.prog.cellsOf 4 = 1 := by kernel_rfl
theorem event_of' {cs : List Value} {x : DataW H × List MemPlace} (h : DataW.trod enc Tryz.prog w base spare held fuel 42 cs = some x) : ∃ p : Ev, cs = p.vs := by
  obtain ⟨xs, n, _, _, hl, hx, hf⟩ := DataW.trod_struct Tryz.underlying42 h
  rw [cellsOf_levent'] at hl
  match cs, hl with
  | [c0, c1, c2, c3, c4], _ =>
    match xs, hx with
    | [y0, y1, y2, y3, y4], _ =>
      have h0 := hf 0 _ rfl
      have h1 := hf 1 _ rfl
      have h2 := hf 2 _ rfl
      have h3 := hf 3 _ rfl
      have h4 := hf 4 _ rfl
      simp [cellsOf_int] at h0 h1 h2 h3
      simp [cellsOf_bool'] at h4
      obtain ⟨a, e0, _⟩ := DataW.trod_int Tryz.underlying3 h0
      obtain ⟨b, e1, _⟩ := DataW.trod_int Tryz.underlying3 h1
      obtain ⟨c, e2, _⟩ := DataW.trod_int Tryz.underlying3 h2
      obtain ⟨d, e3, _⟩ := DataW.trod_int Tryz.underlying3 h3
      obtain ⟨t, e4, _⟩ := DataW.trod_bool Tryz.underlying4 h4
      simp at e0 e1 e2 e3 e4
      subst e0; subst e1; subst e2; subst e3; subst e4
      exact ⟨⟨a, b, c, d, t⟩, rfl⟩
theorem events_of {cs : List Value} {x : DataW H × List MemPlace} (h : DataW.trod enc Tryz.prog w base spare held fuel 22 cs = some x) : ∃ A c ps, cs = [.slice A (List.length ps) c] ∧ List.length ps ≤ maxLen ∧ RRow w A (evs ps) := by
  rcases open_slice Tryz.underlying22 h with ⟨rfl, _⟩ | ⟨a, len, cap, m, n, D, Pl, rfl, _, hlc, hcm, hm, _, hi⟩
  · exact ⟨none, 0, [], rfl, Nat.zero_le _, fun h => absurd rfl h⟩
  · have hlm : len ≤ m := by rw [hm]; split <;> omega
    obtain ⟨ps, hps, hr⟩ := rrow_of (α := Ev) (w := w) (a := a) (n := len) Ev.vs 5 (fun _ => rfl) (by omega) (fun i hlt => by
      obtain ⟨cs', hc, ht⟩ := hi i (by omega)
      obtain ⟨p, rfl⟩ := event_of' ht
      obtain ⟨_, hl, hcell⟩ := World.cells?_some hc
      refine ⟨p, fun j u hj => ?_⟩
      have hj5 : j < 5 := (List.getElem?_eq_some_iff.1 hj).1
      have := hcell j (by rw [cellsOf_levent']; exact hj5)
      rw [cellsOf_levent'] at this
      rw [← Go.Deep.add_add, this, hj])
    exact ⟨some a, cap, ps, by rw [hps], by omega, hr⟩
end
end Go.Proofs.YtohkoogmbfaceaaGreat
