/- Walks: the reference's steps: write, flush, fill. Walks: the reference's steps: flush, fill. -/
import Derived.Test.YtfkjhnfbajflaaaG7
import Derived.Test.YtfkjhnfbajflaaaS
namespace Go.Proofs.Ytfkjhnfbajflaaa
set_option linter.unusedVariables false
set_option linter.unusedSimpArgs false
open Go.RowKit Go.Maps
set_option maxHeartbeats 400000
set_option maxHeartbeats 4000000 in
set_option maxRecDepth 100000 in
theorem spec_l12Write (f : List Bk) (kind addr val : Int) (A D : Option Addr) (c m d : Nat) (w : World) (hf : f.length = 4) (hp : ∀ b ∈ f, b.pages.length = 4) (hm : ∀ b ∈ f, most b < 1000000000000) (hF : Fl w A f) :
    Calls Try.prog 78 #[.agg #[.slice A 4 c, .slice D m d], .int .i64 kind, .int .i64 addr, .int .i64 val] w fun e w' => ∃ v, e = .returned v ∧ OwnS w' w.heap.size v (wr f kind addr val) ∧ Below w.heap.size w w' := by
  obtain ⟨ib, hib, hbz0, hbz1, hbz2⟩ := info_parts Try.info3_step
  have HL := Lib.hid hf
  have HP4 := Lib.hid hp
  have HM := Lib.hid hm
  have hl4 : f.length < 1000000000000 := by omega
  have HP := Lib.hid (show ∀ b ∈ f, b.pages.length < 1000000000000 from fun b hb => by rw [hp b hb]; omega)
  have hfin : Hid (wr f kind addr val = if (room f).2.2 = false ∨ recOk ⟨kind, next f, addr, val⟩ = false then [] else (room f).1 ++ [⟨3, 0, 0, (room f).2.1, ⟨kind, next f, addr, val⟩⟩]) := rfl
  have hrl : (room f).1.length ≤ 5 := room_len hf hp
  clear hf hp hm
  go_enter Try.func78, Try.ntmps78
  go_wp2_with fail
  refine (spec_l3Next' _ f A c _ HL.out.symm hl4 HP.out HM.out (hF.alloc _)).mono ?_
  rintro e w1 ⟨rfl, hb⟩
  have hB : Below w.heap.size w w1 := Below.trans (by (repeat (first | (with_reducible exact Below.refl _ _) | (with_reducible assumption) | (refine Below.setCell ?_ (by first | omega | exact hB.size | exact hb.size | (have h := hB.size; simp; omega) | (have h := hb.size; simp; omega) | (simp; omega) | simp) _) | (refine Below.alloc ?_ (by first | omega | exact hB.size | exact hb.size | (have h := hB.size; simp; omega) | (have h := hb.size; simp; omega) | (simp; omega) | simp) _) | (refine Below.drew ?_)))) (hb.mono (by simp))
  have hz : w.heap.size < w1.heap.size := by have := hb.size; simp at this; omega
  obtain ⟨hc, hfz⟩ := bcell hb
  have x0 : w1.cell? ⟨w.heap.size, 0, none⟩ = some (.slice A 4 c) := (hc _ _ (by simp)).trans (by simp)
  have x1 : w1.cell? ⟨w.heap.size, 1, none⟩ = some (.slice D m d) := (hc _ _ (by simp)).trans (by simp)
  clear hb hc hfz
  generalize next f = nx at *
  go_wp2_with fail
  refine (spec_l12Room f A D c m d _ HL.out HP4.out ((hF.below hB (Nat.le_refl _)).alloc _)).mono ?_
  rintro e w2 ⟨v, rfl, hO, hb2⟩
  obtain ⟨hc, hfz⟩ := bcell hb2
  have r0 : w2.cell? ⟨w1.heap.size, 0, none⟩ = some (.int .i64 kind) := (hc _ _ (by simp)).trans (by simp)
  have r1 : w2.cell? ⟨w1.heap.size, 1, none⟩ = some (.int .i64 nx) := (hc _ _ (by simp)).trans (by simp)
  have r2 : w2.cell? ⟨w1.heap.size, 2, none⟩ = some (.int .i64 addr) := (hc _ _ (by simp)).trans (by simp)
  have r3 : w2.cell? ⟨w1.heap.size, 3, none⟩ = some (.int .i64 val) := (hc _ _ (by simp)).trans (by simp)
  have hB2 : Below w.heap.size w w2 := (hB.alloc hB.size _).trans (hb2.mono (by simp; omega))
  have hz2 : w1.heap.size + 1 ≤ w2.heap.size := by have := hb2.size; simpa using this
  replace hO := hO.mono (base' := w1.heap.size) (by simp)
  clear hb2 hc hfz x0 x1 hB
  generalize room f = rm at *
  obtain ⟨xs, bi, ok⟩ := rm
  dsimp only at *
  cases ok
  · have h3 : Hid (wr f kind addr val = []) := by rw [Hid, hfin.out, if_pos (.inl rfl)]
    go_wp2
    go_ret
    rw [h3.out]
    exact ⟨_, rfl, OwnS.nil _ _ (by omega), by (repeat (first | (with_reducible exact Below.refl _ _) | (with_reducible assumption) | (refine Below.setCell ?_ (by first | omega | exact hB.size | exact hb.size | (have h := hB.size; simp; omega) | (have h := hb.size; simp; omega) | (simp; omega) | simp) _) | (refine Below.alloc ?_ (by first | omega | exact hB.size | exact hb.size | (have h := hB.size; simp; omega) | (have h := hb.size; simp; omega) | (simp; omega) | simp) _) | (refine Below.drew ?_)))⟩
  · go_wp2_with fail
    refine (spec_RecOk ⟨kind, nx, addr, val⟩ _).mono ?_
    rintro e w3 ⟨rfl, hb3⟩
    obtain ⟨hc, hfz⟩ := bcell hb3
    replace r0 := (hc _ _ (lt_of_cell r0)).trans r0
    replace r1 := (hc _ _ (lt_of_cell r1)).trans r1
    replace r2 := (hc _ _ (lt_of_cell r2)).trans r2
    replace r3 := (hc _ _ (lt_of_cell r3)).trans r3
    have hB3 := hB2.trans (hb3.mono hB2.size)
    have hz3 := hb3.size
    have hO3 := hO.below hb3 (Nat.le_refl _)
    clear hO hc hfz hb3
    by_cases hok : recOk ⟨kind, nx, addr, val⟩ = true
    · have h3 : Hid (wr f kind addr val = xs ++ [⟨3, 0, 0, bi, ⟨kind, nx, addr, val⟩⟩]) := by
        rw [Hid, hfin.out, if_neg (by intro h; rcases h with h | h; cases h; rw [hok] at h; cases h)]
      rw [hok]
      have hO4 := hO3.below ((Below.refl w3.heap.size _).alloc (Nat.le_refl _) (.cells #[.int .i64 3, .int .i64 0, .int .i64 0, .int .i64 bi, .int .i64 kind, .int .i64 nx, .int .i64 addr, .int .i64 val] 115)) (Nat.le_refl _)
      have hnb : ∀ q, v.ownBlock = some q → w1.heap.size ≤ q := fun q e => (World.ownsRow.lt hO3 q e).1
      clear hfin
      go_wp2_with (at_builtin; refine wpList_append_lies _ rfl (.tmp 34) (.tmp 38) _ rfl w1.heap.size 115 ib _ 8 64 Try.underlying110 hib hbz0 hbz1 hbz2 rfl (by omega) v xs.length (sps xs) rfl hO4 ⟨w3.heap.size, 0, none⟩ 1 1 (⟨3, 0, 0, bi, ⟨kind, nx, addr, val⟩⟩ : Sp).vs rfl rfl (World.news_of_block (cs := #[.int .i64 3, .int .i64 0, .int .i64 0, .int .i64 bi, .int .i64 kind, .int .i64 nx, .int .i64 addr, .int .i64 val]) (t := 115) (fr := (0, 0)) (heap_alloc_new w3 _)) (by simp [Value.oneCell', Sp.vs]) (by omega) (by unfold maxLen; omega) (by omega) (by simp; omega) (w3.heap.size + 1) (by simp) ?_; intro g2 c2 w4 hown2 hgrow2 hat2 hlt2)
      have hbb : Below w1.heap.size w3 w4 := ((Below.refl _ _).alloc (by omega) _).grown hgrow2 (by simp; omega) hnb
      have hOS := OwnS.snoc (x := ⟨3, 0, 0, bi, ⟨kind, nx, addr, val⟩⟩) rfl hown2
      go_ret
      rw [h3.out]
      exact ⟨_, rfl, hOS.mono (by omega), hB3.trans (hbb.mono (by omega))⟩
    · have hok' : recOk ⟨kind, nx, addr, val⟩ = false := by simpa using hok
      have h3 : Hid (wr f kind addr val = []) := by rw [Hid, hfin.out, if_pos (.inr hok')]
      rw [hok']
      go_wp2
      go_ret
      rw [h3.out]
      exact ⟨_, rfl, OwnS.nil _ _ (by omega), by (repeat (first | (with_reducible exact Below.refl _ _) | (with_reducible assumption) | (refine Below.setCell ?_ (by first | omega | exact hB.size | exact hb.size | (have h := hB.size; simp; omega) | (have h := hb.size; simp; omega) | (simp; omega) | simp) _) | (refine Below.alloc ?_ (by first | omega | exact hB.size | exact hb.size | (have h := hB.size; simp; omega) | (have h := hb.size; simp; omega) | (simp; omega) | simp) _) | (refine Below.drew ?_)))⟩
end Go.Proofs.Ytfkjhnfbajflaaa
namespace Go.Proofs.Ytfkjhnfbajflaaa
set_option linter.unusedVariables false
set_option linter.unusedSimpArgs false
open Go.RowKit Go.Maps
set_option maxHeartbeats 400000
theorem Fl.drew' {w : World} {A : Option Addr} {f : List Bk} (h : Fl w A f) : Fl w.drew A f := by obtain ⟨hs, h⟩ := h; exact ⟨hs, h.drew⟩
theorem sps_one (xs : List Sp) : ∀ v ∈ sps xs, v.oneCell' = true := by
  intro v hv
  unfold sps at hv
  obtain ⟨x, _, hx⟩ := List.mem_flatMap.1 hv
  unfold Sp.vs at hx
  simp at hx
  rcases hx with h | h | h | h | h | h | h | h <;> (subst h; rfl)
theorem OwnS.onto {w : World} {base g n c : Nat} {xs ys : List Sp} (hn : n = xs.length + ys.length) (h : w.ownsRow base 115 8 (.slice (some ⟨g, 0, none⟩) n c) n (sps xs ++ sps ys)) : OwnS w base (.slice (some ⟨g, 0, none⟩) n c) (xs ++ ys) := by
  subst hn
  unfold OwnS
  rw [List.length_append, sps, List.flatMap_append]
  exact h
theorem wr_len {f : List Bk} (hf : f.length = 4) (hp : ∀ b ∈ f, b.pages.length = 4) (k a v : Int) : (wr f k a v).length ≤ 6 := by
  have := room_len hf hp
  unfold wr
  split
  · simp
  · rw [List.length_append]; simp only [List.length_cons, List.length_nil]; omega
set_option maxHeartbeats 4000000 in
set_option maxRecDepth 100000 in
theorem spec_l12Flush (s : St) (a : Int) (A D : Option Addr) (c d : Nat) (w : World) (hf : s.flash.length = 4) (hp : ∀ b ∈ s.flash, b.pages.length = 4) (hm : ∀ b ∈ s.flash, most b < 1000000000000) (hd : s.disk.length = 6) (hF : Fl w A s.flash) (hD : Row w D (ints s.disk)) :
    Calls Try.prog 76 #[.agg #[.slice A 4 c, .slice D 6 d], .int .i64 a] w fun e w' => ∃ v, e = .returned v ∧ OwnS w' w.heap.size v (flush s a) ∧ Below w.heap.size w w' := by
  obtain ⟨ib, hib, hbz0, hbz1, hbz2⟩ := info_parts Try.info3_step
  have HL := Lib.hid hf
  have HP4 := Lib.hid hp
  have HM := Lib.hid hm
  have HD := Lib.hid hd
  have hl4 : s.flash.length < 1000000000000 := by omega
  have HP := Lib.hid (show ∀ b ∈ s.flash, b.pages.length < 1000000000000 from fun b hb => by rw [hp b hb]; omega)
  have hwl := wr_len hf hp 2 a (readV s a)
  have hfin : Hid (flush s a = if addrB a = false ∨ dirty s.flash a = false then [] else if wr s.flash 2 a (readV s a) = [] then [] else ⟨1, a, readV s a, 0, rc0⟩ :: wr s.flash 2 a (readV s a)) := rfl
  have hin : Hid ((decide (1 ≤ a) && decide (a ≤ 6)) = addrB a) := rfl
  clear hf hp hm hd
  go_enter Try.func76, Try.ntmps76
  go_wp2_with fail
  refine (spec_l6In _ _ _ _).mono ?_
  rintro e w1 ⟨rfl, rfl⟩
  rw [hin.out]
  by_cases ha : addrB a = true
  · have ha1 : 1 ≤ a ∧ a ≤ 6 := by unfold addrB at ha; simpa using ha
    rw [ha]
    obtain ⟨ha1, ha2⟩ := ha1
    go_wp2_with fail
    refine (spec_l11Dirty' _ s.flash a A D c 6 d _ HL.out.symm hl4 HP.out (hF.alloc _)).mono ?_
    rintro e w1 ⟨rfl, hb⟩
    have hB : Below w.heap.size w w1 := Below.trans (by (repeat (first | (with_reducible exact Below.refl _ _) | (with_reducible assumption) | (refine Below.setCell ?_ (by first | omega | exact hB.size | exact hb.size | (have h := hB.size; simp; omega) | (have h := hb.size; simp; omega) | (simp; omega) | simp) _) | (refine Below.alloc ?_ (by first | omega | exact hB.size | exact hb.size | (have h := hB.size; simp; omega) | (have h := hb.size; simp; omega) | (simp; omega) | simp) _) | (refine Below.drew ?_)))) (hb.mono (by simp))
    have hz : w.heap.size < w1.heap.size := by have := hb.size; simp at this; omega
    obtain ⟨hc, hfz⟩ := bcell hb
    have x0 : w1.cell? ⟨w.heap.size, 0, none⟩ = some (.slice A 4 c) := (hc _ _ (by simp)).trans (by simp)
    have x1 : w1.cell? ⟨w.heap.size, 1, none⟩ = some (.slice D 6 d) := (hc _ _ (by simp)).trans (by simp)
    clear hb hc hfz
    by_cases hdy : dirty s.flash a = true
    · rw [hdy]
      go_wp2_with fail
      refine (spec_l11Read' _ s a A D c d _ HL.out.symm hl4 HP.out HD.out ha1 ha2 (hF.below hB (Nat.le_refl _)) (hD.below hB (Nat.le_refl _))).mono ?_
      rintro e w2 ⟨rfl, hb⟩
      have hB2 := hB.trans (hb.mono hB.size)
      have hz2 := hb.size
      replace x0 := (hb.cell (p := ⟨w.heap.size, 0, none⟩) hz).trans x0
      replace x1 := (hb.cell (p := ⟨w.heap.size, 1, none⟩) hz).trans x1
      clear hB hb
      generalize readV s a = val at *
      go_wp2_with fail
      refine (spec_l12Write s.flash 2 a val A D c 6 d _ HL.out HP4.out HM.out (hF.below hB2 (Nat.le_refl _))).mono ?_
      rintro e w3 ⟨v, rfl, hO, hb⟩
      have hB3 := hB2.trans (hb.mono hB2.size)
      have hz3 := hb.size
      have h3 : Hid (flush s a = if wr s.flash 2 a val = [] then [] else ⟨1, a, val, 0, rc0⟩ :: wr s.flash 2 a val) := by
        rw [Hid, hfin.out, if_neg (by rw [ha, hdy]; simp)]
      generalize wr s.flash 2 a val = xs at *
      obtain ⟨A2, c2, rfl, hcap, hRow, hblk⟩ := hO.shape
      clear hfin hb hB2 x0 x1
      by_cases hx : xs = []
      · subst hx
        have h4 : Hid (flush s a = []) := by rw [Hid, h3.out, if_pos rfl]
        go_wp2
        go_ret
        rw [h4.out]
        exact ⟨_, rfl, hO.mono (by omega), hB3⟩
      · have h4 : Hid (flush s a = [⟨1, a, val, 0, rc0⟩] ++ xs) := by rw [Hid, h3.out, if_neg hx]; rfl
        have hlen : 0 < xs.length := List.length_pos_iff.2 hx
        have hle : ((xs.length : Int) == 0) = false := by rw [beq_eq_false_iff_ne]; omega
        obtain ⟨g2, o2, rfl⟩ := hRow.addr (by intro e; have := sps_len xs; rw [e] at this; simp at this; omega)
        have hlit : OwnS (w3.alloc (.cells #[.int .i64 1, .int .i64 a, .int .i64 val, .int .i64 0, .int .i64 0, .int .i64 0, .int .i64 0, .int .i64 0] 115)) w.heap.size (.slice (some ⟨w3.heap.size, 0, none⟩) 1 1) [⟨1, a, val, 0, rc0⟩] := World.ownsRow_lit w3 #[.int .i64 1, .int .i64 a, .int .i64 val, .int .i64 0, .int .i64 0, .int .i64 0, .int .i64 0, .int .i64 0] 1 (by omega) (by unfold maxLen; omega) rfl
        clear h3
        go_wp2_with (at_builtin; refine wpList_append_lies _ rfl (.tmp 31) (.tmp 32) _ rfl w.heap.size 115 ib _ 8 64 Try.underlying110 hib hbz0 hbz1 hbz2 rfl (by omega) (.slice (some ⟨w3.heap.size, 0, none⟩) 1 1) 1 (sps [⟨1, a, val, 0, rc0⟩]) rfl hlit ⟨g2, o2, none⟩ xs.length c2 (sps xs) rfl (sps_len xs) ((hRow.alloc _).news) (sps_one xs) hlen (by unfold maxLen; omega) (by omega) (by simp; omega) (w3.heap.size + 1) (by simp) ?_; intro g3 c3 w4 hown2 hgrow2 hat2 hlt2)
        have hbb : Below w3.heap.size w3 w4 := ((Below.refl _ _).alloc (by omega) _).grown hgrow2 (by simp) (by intro q e; cases e; exact Nat.le_refl _)
        have hOS := OwnS.onto (xs := [⟨1, a, val, 0, rc0⟩]) rfl hown2
        go_ret
        rw [h4.out]
        exact ⟨_, rfl, hOS, hB3.trans (hbb.mono (by omega))⟩
    · have hdy' : dirty s.flash a = false := by simpa using hdy
      have h3 : Hid (flush s a = []) := by rw [Hid, hfin.out, if_pos (.inr hdy')]
      rw [hdy']
      go_wp2
      go_ret
      rw [h3.out]
      exact ⟨_, rfl, OwnS.nil _ _ (by omega), by (repeat (first | (with_reducible exact Below.refl _ _) | (with_reducible assumption) | (refine Below.setCell ?_ (by first | omega | exact hB.size | exact hb.size | (have h := hB.size; simp; omega) | (have h := hb.size; simp; omega) | (simp; omega) | simp) _) | (refine Below.alloc ?_ (by first | omega | exact hB.size | exact hb.size | (have h := hB.size; simp; omega) | (have h := hb.size; simp; omega) | (simp; omega) | simp) _) | (refine Below.drew ?_)))⟩
  · have ha' : addrB a = false := by simpa using ha
    have h3 : Hid (flush s a = []) := by rw [Hid, hfin.out, if_pos (.inl ha')]
    rw [ha']
    go_wp2
    go_ret
    rw [h3.out]
    refine ⟨_, rfl, ?_, by (repeat (first | (with_reducible exact Below.refl _ _) | (with_reducible assumption) | (refine Below.setCell ?_ (by first | omega | exact hB.size | exact hb.size | (have h := hB.size; simp; omega) | (have h := hb.size; simp; omega) | (simp; omega) | simp) _) | (refine Below.alloc ?_ (by first | omega | exact hB.size | exact hb.size | (have h := hB.size; simp; omega) | (have h := hb.size; simp; omega) | (simp; omega) | simp) _) | (refine Below.drew ?_)))⟩
    have := OwnS.nil (w.alloc (.cells #[.slice A 4 c, .slice D 6 d] 39)) w.heap.size (by simp)
    simp only [World.size_alloc] at this
    exact this
set_option maxHeartbeats 4000000 in
set_option maxRecDepth 100000 in
theorem spec_l12Fill (s : St) (a : Int) (A D : Option Addr) (c d : Nat) (w : World) (hf : s.flash.length = 4) (hp : ∀ b ∈ s.flash, b.pages.length = 4) (hm : ∀ b ∈ s.flash, most b < 1000000000000) (hd : s.disk.length = 6) (hF : Fl w A s.flash) (hD : Row w D (ints s.disk)) :
    Calls Try.prog 79 #[.agg #[.slice A 4 c, .slice D 6 d], .int .i64 a] w fun e w' => ∃ v, e = .returned v ∧ OwnS w' w.heap.size v (fill s a) ∧ Below w.heap.size w w' := by
  have HL := Lib.hid hf
  have HP4 := Lib.hid hp
  have HM := Lib.hid hm
  have hl4 : s.flash.length < 1000000000000 := by omega
  have HP := Lib.hid (show ∀ b ∈ s.flash, b.pages.length < 1000000000000 from fun b hb => by rw [hp b hb]; omega)
  have hin : Hid ((decide (1 ≤ a) && decide (a ≤ 6)) = addrB a) := rfl
  have hnil : OwnS ((w.alloc (.cells #[.slice A 4 c, .slice D 6 d] 39)).alloc (.cells #[] 115)) w.heap.size (.slice (some ⟨w.heap.size + 1, 0, none⟩) 0 0) [] := by
    have := OwnS.nil (w.alloc (.cells #[.slice A 4 c, .slice D 6 d] 39)) w.heap.size (by simp)
    simp only [World.size_alloc] at this
    exact this
  have hfin : Hid (fill s a = if addrB a = false ∨ 0 < (last s.flash a).seq then [] else wr s.flash 2 a (s.disk.getD (a - 1).toNat 0)) := rfl
  clear hf hp hm
  by_cases ha : addrB a = true
  · have ha1 : 1 ≤ a ∧ a ≤ 6 := by unfold addrB at ha; simpa using ha
    obtain ⟨ha1, ha2⟩ := ha1
    obtain ⟨i, rfl⟩ : ∃ i : Nat, a = i + 1 := ⟨(a - 1).toNat, by omega⟩
    have hi : i < 6 := by omega
    obtain ⟨v, hv⟩ := get_some (l := s.disk) (k := i) (by omega)
    have hgd : s.disk.getD ((i : Int) + 1 - 1).toNat 0 = v := by rw [show ((i : Int) + 1 - 1).toNat = i by omega, List.getD_eq_getElem?_getD, hv]; rfl
    rw [hgd] at hfin
    have hn1 : ints s.disk ≠ [] := by
      intro e
      have := congrArg List.length e
      rw [ints_len, hd] at this
      simp at this
    obtain ⟨db, dO, rfl⟩ := hD.addr hn1
    have hi6 : (i : Int) < 6 := by omega
    have HV := Lib.hid hv
    clear hv hgd hn1 hd hnil
    go_enter Try.func79, Try.ntmps79
    go_wp2_with fail
    refine (spec_l6In _ _ _ _).mono ?_
    rintro e w1 ⟨rfl, rfl⟩
    rw [hin.out, ha]
    go_wp2_with fail
    refine (spec_l3Last' _ s.flash (i + 1) A c _ HL.out.symm hl4 HP.out (hF.alloc _)).mono ?_
    rintro e w1 ⟨rfl, hb⟩
    have hB : Below w.heap.size w w1 := Below.trans (by (repeat (first | (with_reducible exact Below.refl _ _) | (with_reducible assumption) | (refine Below.setCell ?_ (by first | omega | exact hB.size | exact hb.size | (have h := hB.size; simp; omega) | (have h := hb.size; simp; omega) | (simp; omega) | simp) _) | (refine Below.alloc ?_ (by first | omega | exact hB.size | exact hb.size | (have h := hB.size; simp; omega) | (have h := hb.size; simp; omega) | (simp; omega) | simp) _) | (refine Below.drew ?_)))) (hb.mono (by simp))
    have hz : w.heap.size < w1.heap.size := by have := hb.size; simp at this; omega
    obtain ⟨hc, hfz⟩ := bcell hb
    have x0 : w1.cell? ⟨w.heap.size, 0, none⟩ = some (.slice A 4 c) := (hc _ _ (by simp)).trans (by simp)
    have x1 : w1.cell? ⟨w.heap.size, 1, none⟩ = some (.slice (some ⟨db, dO, none⟩) 6 d) := (hc _ _ (by simp)).trans (by simp)
    obtain ⟨hcv, _⟩ := (hD.below hB (Nat.le_refl _)).int_ HV.out
    have hdb := lt_of_cell hcv
    have hFz := hF.below hB (Nat.le_refl _)
    clear hb hc hfz
    generalize last s.flash (i + 1) = x at *
    by_cases h1 : 0 < x.seq
    · have h3 : Hid (fill s (i + 1) = []) := by rw [Hid, hfin.out, if_pos (.inr h1)]
      go_wp2
      go_ret
      rw [h3.out]
      refine ⟨_, rfl, ?_, by (repeat (first | (with_reducible exact Below.refl _ _) | (with_reducible assumption) | (refine Below.setCell ?_ (by first | omega | exact hB.size | exact hb.size | (have h := hB.size; simp; omega) | (have h := hb.size; simp; omega) | (simp; omega) | simp) _) | (refine Below.alloc ?_ (by first | omega | exact hB.size | exact hb.size | (have h := hB.size; simp; omega) | (have h := hb.size; simp; omega) | (simp; omega) | simp) _) | (refine Below.drew ?_)))⟩
      have := OwnS.nil (w1.alloc (.cells #[.int .i64 x.kind, .int .i64 x.seq, .int .i64 x.addr, .int .i64 x.val] 35)) w.heap.size (by simp; omega)
      simp only [World.size_alloc] at this
      exact this
    · have h3 : Hid (fill s (i + 1) = wr s.flash 2 (i + 1) v) := by
        rw [Hid, hfin.out, if_neg (by intro h; rcases h with h | h; rw [ha] at h; cases h; exact h1 h)]
      have e1 : IntKind.i64.wrap ((i : Int) + 1 - 1) = i := by rw [show (i : Int) + 1 - 1 = i by omega]; exact IntWalk.i64_in _ (by omega)
      have e2 : IntKind.i64.wrap (i : Int) = i := IntWalk.i64_in _ (by omega)
      have e3 : (i : Int) + 1 - 1 = i := by omega
      have e4 : (0 : Int) ≤ i := by omega
      clear hfin
      go_wp2
      go_region_with (first | (go_at_call 78; with_reducible refine (spec_l12Write s.flash 2 (i + 1) v A (some ⟨db, dO, none⟩) c 6 d _ HL.out HP4.out HM.out (Fl.drew' (hFz.alloc _))).mono ?_; rintro e w2 ⟨u, rfl, hO, hb2⟩))
      all_goals
        have hle : w.heap.size ≤ (w1.alloc (.cells #[.int .i64 x.kind, .int .i64 x.seq, .int .i64 x.addr, .int .i64 x.val] 35)).drew.heap.size := by show w.heap.size ≤ (w1.alloc _).heap.size; simp; omega
        have hB2 : Below w.heap.size w w2 := ((hB.alloc hB.size _).drew).trans (hb2.mono hle)
        clear hb2
        go_wp2
        go_ret
        rw [h3.out]
        exact ⟨_, rfl, hO.mono hle, hB2⟩
  · have ha' : addrB a = false := by simpa using ha
    have h3 : Hid (fill s a = []) := by rw [Hid, hfin.out, if_pos (.inl ha')]
    go_enter Try.func79, Try.ntmps79
    go_wp2_with fail
    refine (spec_l6In _ _ _ _).mono ?_
    rintro e w1 ⟨rfl, rfl⟩
    rw [hin.out, ha']
    go_wp2
    go_ret
    rw [h3.out]
    exact ⟨_, rfl, hnil, by (repeat (first | (with_reducible exact Below.refl _ _) | (with_reducible assumption) | (refine Below.setCell ?_ (by first | omega | exact hB.size | exact hb.size | (have h := hB.size; simp; omega) | (have h := hb.size; simp; omega) | (simp; omega) | simp) _) | (refine Below.alloc ?_ (by first | omega | exact hB.size | exact hb.size | (have h := hB.size; simp; omega) | (have h := hb.size; simp; omega) | (simp; omega) | simp) _) | (refine Below.drew ?_)))⟩
end Go.Proofs.Ytfkjhnfbajflaaa
