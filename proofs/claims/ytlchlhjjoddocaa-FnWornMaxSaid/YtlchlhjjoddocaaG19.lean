/- Walks: draws of flashes. -/
import Derived.Test.YtlchlhjjoddocaaG18
namespace Go.Proofs.Ytlchlhjjoddocaa
set_option linter.unusedVariables false
set_option linter.unusedSimpArgs false
open Go.RowKit Go.Maps
set_option maxHeartbeats 400000
/-- a code that can be read -/
structure Code (w : World) (A : Option Addr) (bs : List Nat) (c : Nat) : Prop where
  len : bs.length ≤ c
  cap : c ≤ 9223372036854775807
  byte : ∀ b ∈ bs, b < 256
  row : RRow w A (bytes bs)
def DrawnFl (w w' : World) (g o : Nat) (f : List Bk) : Prop := flSmall f ∧ OFl w' w.heap.size w'.heap.size (some ⟨g, o, none⟩) f ∧ Below w.heap.size w w'
theorem spec_DrawFindNext (A : Option Addr) (bs : List Nat) (c : Nat) (w : World) (hc : Code w A bs c) :
    Calls Try.prog 9 #[.slice A bs.length c] w fun e w' => ∃ g o c f, e = .returned (.slice (some ⟨g, o, none⟩) f.length c) ∧ DrawnFl w w' g o f := by
  go_enter Try.func9, Try.ntmps9
  go_wp2_with fail
  refine (spec_l6Open A bs c _ hc.len hc.cap hc.byte hc.row).mono ?_
  rintro e w1 ⟨rfl, hR1, hb1⟩
  go_wp2_with fail
  refine (spec_l71Flash _ _ 0 _ (by omega) hR1).mono ?_
  rintro e w2 ⟨g, o, c, f, rfl, hf, hO, hR2, hA2⟩
  have hs := hb1.size
  go_wp2
  go_ret
  exact ⟨g, o, c, f, rfl, hf, hO.mono hs (Nat.le_refl _), hb1.trans (hA2.below (by omega) (fun i hi => by omega))⟩
theorem spec_DrawFindOpen (A : Option Addr) (bs : List Nat) (c : Nat) (w : World) (hc : Code w A bs c) :
    Calls Try.prog 23 #[.slice A bs.length c] w fun e w' => ∃ g o c f, e = .returned (.slice (some ⟨g, o, none⟩) f.length c) ∧ DrawnFl w w' g o f := by
  go_enter Try.func23, Try.ntmps23
  go_wp2_with fail
  refine (spec_l6Open A bs c _ hc.len hc.cap hc.byte hc.row).mono ?_
  rintro e w1 ⟨rfl, hR1, hb1⟩
  go_wp2_with fail
  refine (spec_l71Flash _ _ 0 _ (by omega) hR1).mono ?_
  rintro e w2 ⟨g, o, c, f, rfl, hf, hO, hR2, hA2⟩
  have hs := hb1.size
  go_wp2
  go_ret
  exact ⟨g, o, c, f, rfl, hf, hO.mono hs (Nat.le_refl _), hb1.trans (hA2.below (by omega) (fun i hi => by omega))⟩
set_option maxHeartbeats 4000000 in
theorem spec_DrawFlashWipe (A : Option Addr) (bs : List Nat) (c : Nat) (w : World) (hc : Code w A bs c) :
    Calls Try.prog 15 #[.slice A bs.length c] w fun e w' => ∃ g o c f n t, e = .returned (.tuple #[.slice (some ⟨g, o, none⟩) f.length c, .int .i64 n, .bool t]) ∧ (0 ≤ n ∧ n ≤ 1000) ∧ DrawnFl w w' g o f := by
  go_enter Try.func15, Try.ntmps15
  go_wp2_with fail
  refine (spec_l6Open A bs c _ hc.len hc.cap hc.byte hc.row).mono ?_
  rintro e w1 ⟨rfl, hR1, hb1⟩
  go_wp2_with fail
  refine (spec_l71Flash _ _ 0 _ (by omega) hR1).mono ?_
  rintro e w2 ⟨g, o, c, f, rfl, hf, hO, hR2, hA2⟩
  have hs := hb1.size
  have hF := Lib.hid hf
  replace hO : OFl w2 (w.heap.size + 1) w2.heap.size (some ⟨g, o, none⟩) f := hO.mono (by have := hR1.lt; omega) (Nat.le_refl _)
  have hB2 : Below w.heap.size w w2 := hb1.trans (hA2.below (by omega) (fun i hi => by omega))
  have hs2 := hA2.size
  clear hf hA2 hb1
  go_wp2_with fail
  refine (spec_pickI 4 4 _ _ (0 + 600) _ rfl (by omega) (by omega) (by omega) hR2).mono ?_
  rintro e w3 ⟨k3, rfl, hk3, hR3, hA3⟩
  have hs3 := hA3.size
  replace hO := hO.agr hA3 (fun b h1 h2 h3 => by omega)
  have hB3 := hB2.trans (hA3.below (B := w.heap.size) (by omega) (fun i hi => by omega))
  clear hA3 hB2
  go_wp2_with fail
  refine (spec_pickI 24 24 _ _ (0 + 600 + 1) _ rfl (by omega) (by omega) (by omega) hR3).mono ?_
  rintro e w4 ⟨k4, rfl, hk4, hR4, hA4⟩
  have hs4 := hA4.size
  replace hO := hO.agr hA4 (fun b h1 h2 h3 => by omega)
  have hB4 := hB3.trans (hA4.below (B := w.heap.size) (by omega) (fun i hi => by omega))
  clear hA4 hB3
  have e1 : IntKind.i64.wrap ((k4 : Int) / 23) = (k4 : Int) / 23 := IntWalk.i64_in _ (by omega)
  have e2 : IntKind.i64.wrap ((k4 : Int) / 23 * 4) = (k4 : Int) / 23 * 4 := IntWalk.i64_in _ (by omega)
  have e3 : IntKind.i64.wrap ((k3 : Int) + (k4 : Int) / 23 * 4) = (k3 : Int) + (k4 : Int) / 23 * 4 := IntWalk.i64_in _ (by omega)
  go_wp2_with fail
  refine (spec_pickI 3 3 _ _ (0 + 600 + 1 + 1) _ rfl (by omega) (by omega) (by omega) hR4).mono ?_
  rintro e w5 ⟨k5, rfl, hk5, hR5, hA5⟩
  have hs5 := hA5.size
  replace hO := hO.agr hA5 (fun b h1 h2 h3 => by omega)
  have hB5 := hB4.trans (hA5.below (B := w.heap.size) (by omega) (fun i hi => by omega))
  clear hA5 hB4
  go_wp2
  go_ret3
  exact ⟨g, o, c, f, (k3 : Int) + (k4 : Int) / 23 * 4, (k5 : Int) == 0, rfl, by omega, hF.out, hO.mono (by omega) (by omega), hB5⟩
end Go.Proofs.Ytlchlhjjoddocaa
