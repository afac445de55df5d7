/- Walks: a step done, steps done, over a store of one's own. -/
import Derived.Test.YtfkjhnfbajflaaaG9
import Derived.Test.YtfkjhnfbajflaaaQ2
namespace Go.Proofs.Ytfkjhnfbajflaaa
set_option linter.unusedVariables false
set_option linter.unusedSimpArgs false
open Go.RowKit Go.Maps
set_option maxHeartbeats 400000
theorem spec_l21Steps (s : St) (e : Ev) (A D : Option Addr) (c d : Nat) (w : World) (hf : s.flash.length = 4) (hp : ∀ b ∈ s.flash, b.pages.length = 4) (hm : ∀ b ∈ s.flash, most b < 1000000000000) (hd : s.disk.length = 6) (hF : Fl w A s.flash) (hD : Row w D (ints s.disk)) :
    Calls Try.prog 75 #[.agg #[.slice A 4 c, .slice D 6 d], .agg #[.int .i64 e.kind, .int .i64 e.a, .int .i64 e.b, .int .i64 e.c, .bool e.torn]] w fun r w' => ∃ v, r = .returned v ∧ OwnS w' w.heap.size v (stepsOf s e) ∧ Below w.heap.size w w' := by
  obtain ⟨k, a, b, cc, t⟩ := e
  dsimp only
  have HL := Lib.hid hf
  have HP4 := Lib.hid hp
  have HM := Lib.hid hm
  have HD := Lib.hid hd
  have hB : Below w.heap.size w ((w.alloc (.cells #[.slice A 4 c, .slice D 6 d] 39)).alloc (.cells #[.int .i64 k, .int .i64 a, .int .i64 b, .int .i64 cc, .bool t] 101)) := by (repeat (first | (with_reducible exact Below.refl _ _) | (with_reducible assumption) | (refine Below.setCell ?_ (by first | omega | exact hB.size | exact hb.size | (have h := hB.size; simp; omega) | (have h := hb.size; simp; omega) | (simp; omega) | simp) _) | (refine Below.alloc ?_ (by first | omega | exact hB.size | exact hb.size | (have h := hB.size; simp; omega) | (have h := hb.size; simp; omega) | (simp; omega) | simp) _) | (refine Below.drew ?_)))
  have hFz := (hF.alloc (.cells #[.slice A 4 c, .slice D 6 d] 39)).alloc (.cells #[.int .i64 k, .int .i64 a, .int .i64 b, .int .i64 cc, .bool t] 101)
  have hDz := (hD.alloc (.cells #[.slice A 4 c, .slice D 6 d] 39)).alloc (.cells #[.int .i64 k, .int .i64 a, .int .i64 b, .int .i64 cc, .bool t] 101)
  have hfin : Hid (stepsOf s ⟨k, a, b, cc, t⟩ = if k = 1 then wr s.flash 1 a b else if k = 2 then flush s a else if k = 3 then fill s a else []) := rfl
  clear hf hp hm hd
  by_cases h1 : k = 1
  · subst h1
    have h3 : Hid (stepsOf s ⟨1, a, b, cc, t⟩ = wr s.flash 1 a b) := by rw [Hid, hfin.out, if_pos rfl]
    go_enter Try.func75, Try.ntmps75
    go_wp2_with fail
    refine (spec_l12Write s.flash 1 a b A D c 6 d _ HL.out HP4.out HM.out hFz).mono ?_
    rintro e w1 ⟨v, rfl, hO, hb⟩
    go_wp2
    go_ret
    rw [h3.out]
    exact ⟨_, rfl, hO.mono (by simp; omega), hB.trans (hb.mono (by simp; omega))⟩
  · by_cases h2 : k = 2
    · subst h2
      have h3 : Hid (stepsOf s ⟨2, a, b, cc, t⟩ = flush s a) := by rw [Hid, hfin.out, if_neg h1, if_pos rfl]
      go_enter Try.func75, Try.ntmps75
      go_wp2_with fail
      refine (spec_l12Flush s a A D c d _ HL.out HP4.out HM.out HD.out hFz hDz).mono ?_
      rintro e w1 ⟨v, rfl, hO, hb⟩
      go_wp2
      go_ret
      rw [h3.out]
      exact ⟨_, rfl, hO.mono (by simp; omega), hB.trans (hb.mono (by simp; omega))⟩
    · by_cases h4 : k = 3
      · subst h4
        have h3 : Hid (stepsOf s ⟨3, a, b, cc, t⟩ = fill s a) := by rw [Hid, hfin.out, if_neg h1, if_neg h2, if_pos rfl]
        go_enter Try.func75, Try.ntmps75
        go_wp2_with fail
        refine (spec_l12Fill s a A D c d _ HL.out HP4.out HM.out HD.out hFz hDz).mono ?_
        rintro e w1 ⟨v, rfl, hO, hb⟩
        go_wp2
        go_ret
        rw [h3.out]
        exact ⟨_, rfl, hO.mono (by simp; omega), hB.trans (hb.mono (by simp; omega))⟩
      · have h3 : Hid (stepsOf s ⟨k, a, b, cc, t⟩ = []) := by rw [Hid, hfin.out, if_neg h1, if_neg h2, if_neg h4]
        have e1 : (k == 1) = false := by simp [h1]
        have e2 : (k == 2) = false := by simp [h2]
        have e3 : (k == 3) = false := by simp [h4]
        have hO := OwnS.nil ((w.alloc (.cells #[.slice A 4 c, .slice D 6 d] 39)).alloc (.cells #[.int .i64 k, .int .i64 a, .int .i64 b, .int .i64 cc, .bool t] 101)) w.heap.size (by simp; omega)
        simp only [World.size_alloc] at hO
        go_enter Try.func75, Try.ntmps75
        go_wp2
        go_ret
        rw [h3.out]
        exact ⟨_, rfl, hO, hB.alloc hB.size _⟩
end Go.Proofs.Ytfkjhnfbajflaaa
