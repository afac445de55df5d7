/- Walks: the program's FindOld; the reference's FindOpen. -/
import Derived.Test.YtfkjhnfbajflaaaH9
import Derived.Test.YtfkjhnfbajflaaaH8
import Derived.Test.YtfkjhnfbajflaaaG7
import Derived.BigQuiet
namespace Go.Proofs.Ytfkjhnfbajflaaa
set_option linter.unusedVariables false
set_option linter.unusedSimpArgs false
open Go.RowKit Go.Maps
set_option maxHeartbeats 400000
def hiGo (ss : List Span) : Nat → Nat → List Span → Nat
  | _, old, [] => old
  | i, old, s :: r => if s.2 < (ss.getD old (0, 0)).2 then hiGo ss (i + 1) i r else hiGo ss (i + 1) old r
def findOld (f : List Bk) : Int := if flashOk f = true then (hiGo (spOf (allFrom 0 f)) 0 0 (spOf (allFrom 0 f)) : Nat) else -1
theorem hiGo_lt {ss : List Span} : ∀ (r : List Span) (i old n : Nat), i + r.length ≤ n → old < n → hiGo ss i old r < n
  | [], _, _, _, _, h => h
  | s :: r, i, old, n, hi, h => by
    rw [List.length_cons] at hi
    unfold hiGo
    split
    · exact hiGo_lt r _ _ _ (by omega) (by omega)
    · exact hiGo_lt r _ _ _ (by omega) h
set_option maxHeartbeats 4000000 in
set_option maxRecDepth 100000 in
theorem impl_FindOld (f : List Bk) (A : Option Addr) (n c : Nat) (w : World) (hn : n = f.length) (hF : Fl w A f) :
    Calls Try.prog 14 #[.slice A n c] w fun e w' => e = .returned (.int .i64 (findOld f)) ∧ Below w.heap.size w w' := by
  subst hn
  go_enter Try.func14, Try.ntmps14
  go_wp2_with fail
  refine (impl_FlashOk f A c _ hF).mono ?_
  rintro e w1 ⟨rfl, hb1⟩
  by_cases hok : flashOk f = true
  · have HSH := Lib.hid (fun b hb => (flashOk_shape hok b hb).1)
    have HL := Lib.hid (flashOk_len hok)
    have hfin : Hid (findOld f = (hiGo (spOf (allFrom 0 f)) 0 0 (spOf (allFrom 0 f)) : Nat)) := by unfold Hid findOld; rw [if_pos hok]
    have hln := spOf_len (allFrom 0 f)
    rw [hok]
    clear hok
    obtain ⟨hs, hBk⟩ := hF
    obtain ⟨g, o, rfl⟩ := hBk.addr (by intro e; have := HL.out; rw [e] at this; simp at this)
    have hlow : ∀ b, fblk (some ⟨g, o, none⟩) hs b → b < w1.heap.size := fun b hb => by
      have h4 := HL.out
      have hs1 := hb1.size
      rcases hb with hb | ⟨i, x, hx, hb⟩
      · rw [blk_some] at hb
        subst hb
        obtain ⟨B, hB⟩ := get_some (l := f) (k := 0) (by omega)
        obtain ⟨_, _, c0, _⟩ := hBk.at_ hB
        have := lt_of_cell c0
        omega
      · obtain ⟨B, hB⟩ := get_some (l := f) (k := i) (by rw [← hBk.len]; exact (List.getElem?_eq_some_iff.1 hx).1)
        have hr := (hBk.pg i B x hB hx).1
        have hB4 := HSH.out B (List.mem_of_getElem? hB)
        obtain ⟨b', o', he, hc⟩ := hr (pgs_ne (by intro e; rw [e] at hB4; simp at hB4))
        rw [he, blk_some] at hb
        subst hb
        obtain ⟨q, hq⟩ := get_some (l := pgs B.pages) (k := 0) (by rw [pgs_len]; omega)
        have := lt_of_cell (hc 0 q hq).1
        omega
    have hcall := impl_spansOf f hs g o c _ HL.out HSH.out (hBk.below hb1 (Nat.le_refl _)) hlow
    rw [← HL.out] at hcall
    go_wp2_with fail
    refine hcall.mono ?_
    clear hcall
    rw [HL.out]
    rintro e w2 ⟨sb, rfl, hsb, hR, hb2⟩
    generalize spOf (allFrom 0 f) = ss at *
    have HLN := Lib.hid hln
    have hB2 := hb1.trans (hb2.mono hb1.size)
    clear hln hb2 hlow hBk
    go_wp2
    go_loopw [3, 14] (fun q i wr => ∃ k m : Nat, k ≤ 4 ∧ m < 4 ∧ i = .int .i64 k ∧ q = .int .i64 m ∧ Below w2.heap.size w2 wr ∧ Hid (hiGo ss 0 0 ss = hiGo ss k m (ss.drop k))) (fun _ i _ => 4 - (intOf i).toNat)
    case atStart => exact ⟨0, 0, by omega, by omega, rfl, rfl, Below.refl _ _, rfl⟩
    case round =>
      obtain ⟨k, m, hk, hm, rfl, rfl, hB, hT⟩ := hrel
      have hRk := hR.below hB (Nat.le_refl _)
      by_cases hlt : k < 4
      · obtain ⟨s, hsk⟩ := get_some (l := ss) (k := k) (by rw [HLN.out]; exact hlt)
        obtain ⟨sm, hsm⟩ := get_some (l := ss) (k := m) (by rw [HLN.out]; exact hm)
        obtain ⟨a0, a1, _, _⟩ := hRk.span hsk
        obtain ⟨_, m1, _, _⟩ := hRk.span hsm
        have hgm : ss.getD m (0, 0) = sm := by rw [List.getD_eq_getElem?_getD, hsm]; rfl
        have hT2 : Hid (hiGo ss 0 0 ss = if s.2 < sm.2 then hiGo ss (k + 1) k (ss.drop (k + 1)) else hiGo ss (k + 1) m (ss.drop (k + 1))) := by rw [Hid, hT.out, drop_cons hsk, hiGo, hgm]
        have hk1 : (k : Int) < 4 := by omega
        have hm1 : (m : Int) < 4 := by omega
        have hBa := fun (o : Obj) => hB.alloc hB.size o
        have lb := lt_of_cell m1
        have y1 : (wr.alloc (.cells #[.int .i64 s.1, .int .i64 s.2] 65)).cell? ⟨sb, m * 2 + 1, none⟩ = some (.int .i64 sm.2) := (((Below.refl wr.heap.size wr).alloc (Nat.le_refl _) _).cell (p := ⟨sb, m * 2 + 1, none⟩) lb).trans m1
        clear hsk hsm hgm hT hRk
        by_cases hh : s.2 < sm.2
        · have h3 : Hid (hiGo ss 0 0 ss = hiGo ss (k + 1) k (ss.drop (k + 1))) := by rw [Hid, hT2.out, if_pos hh]
          go_wp2
          go_quiet (fail)
          have hBq : Below w2.heap.size w2 ((wr.alloc (.cells #[.int .i64 s.1, .int .i64 s.2] 65)).drewN nq) := (hBa _).trans ⟨rfl, rfl, rfl, Nat.le_refl _, fun _ _ => rfl⟩
          go_wp2
          go_roundw
          (case rel => exact ⟨k + 1, k, by omega, by omega, by go_num, rfl, hBq, h3⟩)
          (case measure => simp [intOf]; omega)
        · have h3 : Hid (hiGo ss 0 0 ss = hiGo ss (k + 1) m (ss.drop (k + 1))) := by rw [Hid, hT2.out, if_neg hh]
          go_wp2
          go_quiet (fail)
          have hBq : Below w2.heap.size w2 ((wr.alloc (.cells #[.int .i64 s.1, .int .i64 s.2] 65)).drewN nq) := (hBa _).trans ⟨rfl, rfl, rfl, Nat.le_refl _, fun _ _ => rfl⟩
          go_wp2
          go_roundw
          (case rel => exact ⟨k + 1, m, by omega, by omega, by go_num, rfl, hBq, h3⟩)
          (case measure => simp [intOf]; omega)
      · obtain rfl : k = 4 := by omega
        have h3 : Hid (hiGo ss 0 0 ss = m) := by rw [Hid, hT.out, List.drop_of_length_le (by rw [HLN.out]; omega)]; rfl
        go_wp2
        go_ret
        exact ⟨ret_int (by rw [hfin.out, h3.out]), hB2.trans (hB.mono hB2.size)⟩
  · have hok' : flashOk f = false := by simpa using hok
    have hfin : Hid (findOld f = -1) := by unfold Hid findOld; rw [if_neg hok]
    rw [hok']
    go_wp2
    go_ret
    exact ⟨ret_int (by rw [hfin.out]), hb1⟩
theorem spec_FindOpen (f : List Bk) (A : Option Addr) (n c : Nat) (w : World) (hn : n = f.length) (hl : f.length < 1000000000000) (hF : Fl w A f) :
    Calls Try.prog 10 #[.slice A n c] w fun e w' => e = .returned (.tuple #[.int .i64 (findOpen f).1, .bool (findOpen f).2]) ∧ Below w.heap.size w w' := by
  subst hn
  by_cases hok : flashOk f = true
  · have hfin : Hid (findOpen f = openB f) := by unfold Hid findOpen; rw [if_pos hok]
    have HPL := Lib.hid (show ∀ b ∈ f, b.pages.length < 1000000000000 from fun b hb => by rw [(flashOk_shape hok b hb).1]; omega)
    go_enter Try.func10, Try.ntmps10
    go_wp2_with fail
    refine (spec_FlashOk f A c _ hl hF).mono ?_
    rw [hok]
    rintro e w1 ⟨rfl, hb⟩
    go_wp2_with fail
    refine (spec_l3Open f A c _ hl HPL.out (hF.below hb (Nat.le_refl _))).mono ?_
    rintro e w2 ⟨rfl, _, _, hb2⟩
    go_wp2
    go_ret2
    exact ⟨by rw [hfin.out]; rfl, hb.trans (hb2.mono hb.size)⟩
  · have hok' : flashOk f = false := by simpa using hok
    have hfin : Hid (findOpen f = (0, false)) := by unfold Hid findOpen; rw [if_neg hok]
    go_enter Try.func10, Try.ntmps10
    go_wp2_with fail
    refine (spec_FlashOk f A c _ hl hF).mono ?_
    rw [hok']
    rintro e w1 ⟨rfl, hb⟩
    go_wp2
    go_ret2
    exact ⟨by rw [hfin.out]; rfl, hb⟩
end Go.Proofs.Ytfkjhnfbajflaaa
