/- Walks: the program's FlashClean, partlyUsed. -/
import Derived.Test.YtfkjhnfbajflaaaH1
import Derived.Test.YtfkjhnfbajflaaaG11
namespace Go.Proofs.Ytfkjhnfbajflaaa
set_option linter.unusedVariables false
set_option linter.unusedSimpArgs false
open Go.RowKit Go.Maps
set_option maxHeartbeats 400000
def partly (b : Bk) : Bool := decide (0 < clean b) && decide (clean b < 4)
theorem impl_partlyUsed (b : Bk) (A : Option Addr) (n c : Nat) (w : World) (hn : n = b.pages.length) (hl : b.pages.length < 1000000000000) (hR : Row w A (pgs b.pages)) :
    Calls Try.prog 37 #[.agg #[.slice A n c, .int .i64 b.worn]] w fun e w' => e = .returned (.bool (partly b)) ∧ Below w.heap.size w w' := by
  subst hn
  have hB0 : Below w.heap.size w (w.alloc (.cells #[.slice A b.pages.length c, .int .i64 b.worn] 53)) := by (repeat (first | (with_reducible exact Below.refl _ _) | (with_reducible assumption) | (refine Below.setCell ?_ (by first | omega | exact hB.size | exact hb.size | (have h := hB.size; simp; omega) | (have h := hb.size; simp; omega) | (simp; omega) | simp) _) | (refine Below.alloc ?_ (by first | omega | exact hB.size | exact hb.size | (have h := hB.size; simp; omega) | (have h := hb.size; simp; omega) | (simp; omega) | simp) _) | (refine Below.drew ?_)))
  have hfin : Hid (partly b = (decide (0 < clean b) && decide (clean b < 4))) := rfl
  go_enter Try.func37, Try.ntmps37
  go_wp2_with fail
  refine (impl_freePages b A _ c _ rfl hl (hR.alloc _)).mono ?_
  rintro e w1 ⟨rfl, hb⟩
  have hB1 := hB0.trans (hb.mono (by simp))
  generalize clean b = n at *
  clear hb
  by_cases h0 : 0 < n
  · have h0' : (0 : Int) < n := by omega
    by_cases h4 : n < 4
    · have h4' : (n : Int) < 4 := by omega
      go_wp2
      go_ret
      exact ⟨ret_bool (by rw [hfin.out]; first | (simp [h0, h4]; done) | (simp [h0, h4]; omega)), hB1⟩
    · have h4' : ¬ (n : Int) < 4 := by omega
      go_wp2
      go_ret
      exact ⟨ret_bool (by rw [hfin.out]; first | (simp [h0, h4]; done) | (simp [h0, h4]; omega)), hB1⟩
  · have h0' : ¬ (0 : Int) < n := by omega
    go_wp2
    go_ret
    exact ⟨ret_bool (by rw [hfin.out]; simp [h0]), hB1⟩
def flashClean (f : List Bk) (k : Int) : Int := if flashOk f = false ∨ blockB k = false then -1 else clean (f.getD k.toNat zbk)
theorem impl_FlashClean (f : List Bk) (k : Int) (A : Option Addr) (n c : Nat) (w : World) (hn : n = f.length) (hF : Fl w A f) :
    Calls Try.prog 13 #[.slice A n c, .int .i64 k] w fun e w' => e = .returned (.int .i64 (flashClean f k)) ∧ Below w.heap.size w w' := by
  subst hn
  have hfin : Hid (flashClean f k = if flashOk f = false ∨ blockB k = false then (-1 : Int) else ((clean (f.getD k.toNat zbk) : Nat) : Int)) := rfl
  go_enter Try.func13, Try.ntmps13
  go_wp2_with fail
  refine (impl_FlashOk f A c _ hF).mono ?_
  rintro e w1 ⟨rfl, hb⟩
  have hF1 := hF.below hb (Nat.le_refl _)
  by_cases hok : flashOk f = true
  · rw [hok]
    have hsh := Lib.hid (flashOk_shape hok)
    have hl := Lib.hid (flashOk_len hok)
    have HOK := Lib.hid hok
    clear hok
    go_wp2_with fail
    refine (impl_blockOk _ _).mono ?_
    rintro e w2 ⟨rfl, rfl⟩
    by_cases hbo : blockB k = true
    · rw [hbo]
      have hb04 : 0 ≤ k ∧ k < 4 := by unfold blockB at hbo; simpa using hbo
      obtain ⟨i, rfl⟩ := Int.eq_ofNat_of_zero_le hb04.1
      have h4 := hl.out
      obtain ⟨B, hB⟩ := get_some (l := f) (k := i) (by omega)
      have hg : f.getD i zbk = B := by rw [List.getD_eq_getElem?_getD, hB]; rfl
      have h3 : Hid (flashClean f i = clean B) := by rw [Hid, hfin.out, if_neg (by rw [HOK.out, hbo]; simp), Int.toNat_natCast, hg]
      obtain ⟨hs, hBk⟩ := hF1
      obtain ⟨g, o, rfl⟩ := hBk.addr (by rintro rfl; simp at hB)
      obtain ⟨⟨Z, cz⟩, _, c0, c1, _, _, hR, _⟩ := hBk.at_ hB
      dsimp only at c0 hR
      have hpl : B.pages.length < 1000000000000 := by rw [(hsh.out B (List.mem_of_getElem? hB)).1]; omega
      have hil : (i : Int) < f.length := by omega
      clear h4 hB hg hfin hbo hb04
      go_wp2_with fail
      refine (impl_freePages B Z _ cz _ rfl hpl hR).mono ?_
      rintro e w2 ⟨rfl, hb2⟩
      go_wp2
      go_ret
      exact ⟨ret_int (by rw [h3.out]), hb.trans (hb2.mono hb.size)⟩
    · have hbo' : blockB k = false := by simpa using hbo
      have h3 : Hid (flashClean f k = -1) := by rw [Hid, hfin.out, if_pos (.inr hbo')]
      rw [hbo']
      go_wp2
      go_ret
      exact ⟨ret_int (by rw [h3.out]), hb⟩
  · have hok' : flashOk f = false := by simpa using hok
    have h3 : Hid (flashClean f k = -1) := by rw [Hid, hfin.out, if_pos (.inl hok')]
    rw [hok']
    go_wp2
    go_ret
    exact ⟨ret_int (by rw [h3.out]), hb⟩
end Go.Proofs.Ytfkjhnfbajflaaa
