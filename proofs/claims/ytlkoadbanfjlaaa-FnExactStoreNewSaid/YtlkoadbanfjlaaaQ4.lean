/- Walk: FnExactStoreNew. -/
import Derived.Test.YtlkoadbanfjlaaaL5
import Derived.Test.YtlkoadbanfjlaaaQ1
namespace Go.Proofs.Ytlkoadbanfjlaaa
set_option linter.unusedVariables false
set_option linter.unusedSimpArgs false
open Go.RowKit Go.Maps
set_option maxHeartbeats 400000
theorem OSt.alloc {w : World} {lo hi : Nat} {A D : Option Addr} {f : List Bk} {xs : List Int} (h : OSt w lo hi A f D xs) (o : Obj) : OSt (w.alloc o) lo hi A f D xs := h.below (B := w.heap.size) ((Below.refl _ _).alloc (Nat.le_refl _) _) (Nat.le_refl _)
/-- a store in a cell of its own -/
def InCell (w : World) (b : Nat) (A : Option Addr) (n c : Nat) (D : Option Addr) (m d : Nat) : Prop := w.cell? ⟨b, 0, none⟩ = some (.slice A n c) ∧ w.cell? ⟨b, 1, none⟩ = some (.slice D m d)
theorem InCell.below {w w' : World} {b B : Nat} {A : Option Addr} {n c : Nat} {D : Option Addr} {m d : Nat} (h : InCell w b A n c D m d) (hb : Below B w w') (hB : b < B) : InCell w' b A n c D m d :=
  ⟨(hb.cell (p := ⟨b, 0, none⟩) hB).trans h.1, (hb.cell (p := ⟨b, 1, none⟩) hB).trans h.2⟩
theorem InCell.agr {w w' : World} {b : Nat} {S : Nat → Prop} {A : Option Addr} {n c : Nat} {D : Option Addr} {m d : Nat} (h : InCell w b A n c D m d) (hb : Agr S w w') (hB : ¬ S b) : InCell w' b A n c D m d :=
  ⟨(hb.cell (lt_of_cell h.1) hB 0).trans h.1, (hb.cell (lt_of_cell h.1) hB 1).trans h.2⟩
theorem law_FnExactStoreNew (w : World) : Calls Try.prog 4 #[] w fun e w' => e = .returned (.bool true) ∧ Below w.heap.size w w' := by
  go_enter Try.func4, Try.ntmps4
  go_wp2_with fail
  refine (spec_StoreNew _).mono ?_
  rintro e w1 ⟨a, ca, ad, rfl, _, hOa, hb1⟩
  go_wp2_with fail
  refine (impl_StoreNew _).mono ?_
  rintro e w2 ⟨g, cg, gd, rfl, _, hOg, hb2⟩
  have s1 := hb1.size
  have s2 : w1.heap.size + 1 ≤ w2.heap.size := by have := hb2.size; simpa using this
  have I1 : InCell w2 w1.heap.size a 4 ca ad 6 6 := InCell.below (w := w1.alloc (.cells #[.slice a 4 ca, .slice ad 6 6] 29)) ⟨by simp, by simp⟩ hb2 (by simp)
  have hB2 : Below w1.heap.size w1 w2 := Below.trans ((Below.refl _ _).alloc (Nat.le_refl _) _) (hb2.mono (by simp))
  have hOa2 := hOa.below hB2 (Nat.le_refl _)
  have hOg2 := hOg.mono (lo' := w1.heap.size + 1) (by simp) (Nat.le_refl _)
  clear hOa hOg hb2
  obtain ⟨x0, x1⟩ := I1
  have I1 : InCell w2 w1.heap.size a 4 ca ad 6 6 := ⟨x0, x1⟩
  have l2 : w1.heap.size < w2.heap.size := by omega
  go_wp2_with fail
  refine (laws_eqStore g a gd ad 4 4 6 6 cg ca 6 6 flashNew flashNew disk0 disk0 _ rfl rfl rfl rfl (by decide) (by decide) flashNew_pages flashNew_pages (by decide) (by decide) (hOg2.alloc _).ofl.fl (hOa2.alloc _).ofl.fl (hOg2.alloc _).disk (hOa2.alloc _).disk).mono ?_
  rintro e w3 ⟨rfl, hb3⟩
  rw [show (decide (flashNew = flashNew) && decide (disk0 = disk0)) = true from by simp]
  have hB3 : Below w2.heap.size w2 w3 := Below.trans ((Below.refl _ _).alloc (Nat.le_refl _) _) (hb3.mono (by simp))
  have I2 : InCell w3 w2.heap.size g 4 cg gd 6 6 := InCell.below (w := w2.alloc (.cells #[.slice g 4 cg, .slice gd 6 6] 29)) ⟨by simp, by simp⟩ hb3 (by simp)
  replace I1 := I1.below hB3 (by omega)
  have hOa3 := hOa2.below hB3 (Nat.le_refl _)
  have hOg3 := hOg2.below hB3 (Nat.le_refl _)
  have s3 : w2.heap.size + 1 ≤ w3.heap.size := by have := hb3.size; simpa using this
  clear hOa2 hOg2 hb3 x0 x1
  obtain ⟨y0, y1⟩ := id I2
  go_wp2_with fail
  refine (laws_markStore g gd 4 6 cg 6 flashNew disk0 1 (w1.heap.size + 1) w2.heap.size _ rfl rfl (by decide) flashNew_pages (by decide) (by omega) (by rw [flashNew_end]; omega) (by omega) hOg3).mono ?_
  rintro e w4 ⟨rfl, hOg4, hA4⟩
  have hOa4 := hOa3.far hA4 (.inl (Nat.le_succ _))
  have s4 := hA4.size
  replace I1 := I1.agr hA4 (by omega)
  replace I2 := I2.agr hA4 (by omega)
  clear hOa3 hOg3 y0 y1
  obtain ⟨y0, y1⟩ := id I2
  rw [flashNew_end]
  go_wp2_with fail
  refine (laws_heldStore g gd 4 6 cg 6 flashNew disk0 1 (w1.heap.size + 1) w2.heap.size _ rfl rfl (by decide) flashNew_pages (by decide) (by omega) (by rw [flashNew_end]; omega) hOg4).mono ?_
  rintro e w5 ⟨rfl, hb5⟩
  have hOa5 := hOa4.below hb5 (Nat.le_refl _)
  have hOg5 := hOg4.below hb5 (Nat.le_refl _)
  have s5 := hb5.size
  replace I1 := I1.below hb5 (by omega)
  replace I2 := I2.below hb5 (by omega)
  clear hOa4 hOg4 y0 y1
  rw [flashNew_end]
  go_wp2_with fail
  refine (impl_StoreNew _).mono ?_
  rintro e w6 ⟨h, ch, hd, rfl, _, hOh, hb6⟩
  have hOa6 := hOa5.below hb6 (Nat.le_refl _)
  have hOg6 := hOg5.below hb6 (Nat.le_refl _)
  have s6 := hb6.size
  replace I1 := I1.below hb6 (by omega)
  replace I2 := I2.below hb6 (by omega)
  clear hOa5 hOg5
  obtain ⟨x0, x1⟩ := id I1
  have l6 : w1.heap.size < w6.heap.size := by omega
  go_wp2_with fail
  refine (laws_eqStore h a hd ad 4 4 6 6 ch ca 6 6 flashNew flashNew disk0 disk0 _ rfl rfl rfl rfl (by decide) (by decide) flashNew_pages flashNew_pages (by decide) (by decide) (hOh.alloc _).ofl.fl (hOa6.alloc _).ofl.fl (hOh.alloc _).disk (hOa6.alloc _).disk).mono ?_
  rintro e w7 ⟨rfl, hb7⟩
  rw [show (decide (flashNew = flashNew) && decide (disk0 = disk0)) = true from by simp]
  have hB7 : Below w6.heap.size w6 w7 := Below.trans ((Below.refl _ _).alloc (Nat.le_refl _) _) (hb7.mono (by simp))
  have hOg7 := hOg6.below hB7 (Nat.le_refl _)
  have s7 := hB7.size
  replace I2 := I2.below hB7 (by omega)
  clear hOg6 hb7 x0 x1
  obtain ⟨y0, y1⟩ := id I2
  go_wp2_with fail
  refine (laws_heldStore g gd 4 6 cg 6 flashNew disk0 1 (w1.heap.size + 1) w2.heap.size _ rfl rfl (by decide) flashNew_pages (by decide) (by omega) (by rw [flashNew_end]; omega) hOg7).mono ?_
  rintro e w8 ⟨rfl, hb8⟩
  rw [flashNew_end]
  go_wp2
  go_ret
  refine ⟨rfl, ?_⟩
  exact ((((((hb1.trans (hB2.mono s1)).trans (hB3.mono (by omega))).trans (hA4.below (by omega) (fun i hi => by omega))).trans (hb5.mono (by omega))).trans (hb6.mono (by omega))).trans (hB7.mono (by omega))).trans (hb8.mono (by omega))
end Go.Proofs.Ytlkoadbanfjlaaa
