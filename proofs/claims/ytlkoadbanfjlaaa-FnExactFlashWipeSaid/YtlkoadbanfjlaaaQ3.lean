/- Walk: FnExactFlashWipe. -/
import Derived.Test.YtlkoadbanfjlaaaL3
import Derived.Test.YtlkoadbanfjlaaaQ1
import Derived.Test.YtlkoadbanfjlaaaC2
namespace Go.Proofs.Ytlkoadbanfjlaaa
set_option linter.unusedVariables false
set_option linter.unusedSimpArgs false
open Go.RowKit Go.Maps
set_option maxHeartbeats 400000
/-- no more blocks than may be, and no more pages in one -/
def Small (f : List Bk) : Prop := f.length ≤ 1048576 ∧ ∀ b ∈ f, b.pages.length ≤ 1048576
theorem Small.len {f : List Bk} (h : Small f) : f.length < 1000000000000 := by have := h.1; omega
theorem Small.pages {f : List Bk} (h : Small f) : ∀ b ∈ f, b.pages.length < 1000000000000 := fun b hb => by have := h.2 b hb; omega
theorem Small.end {f : List Bk} (h : Small f) : endFl 1 f < 1000000000000000 := by
  have h1 := endFl_le 1048576 f 1 (fun b hb => by have := h.2 b hb; omega)
  have h2 := h.1
  omega
theorem flashWipe_small {f : List Bk} {block : Int} {torn : Bool} {R : List Bk} {t : Bool} (h : Small f) (e : flashWipe f block torn = (R, t)) : Small R := by
  unfold flashWipe at e
  split at e
  · cases e; exact ⟨by simp, by simp⟩
  · split at e
    · cases e; exact h
    · cases e
      unfold wipe
      refine ⟨by simpa using h.1, fun b hb => ?_⟩
      rcases List.mem_or_eq_of_mem_set hb with hb | rfl
      · exact h.2 b hb
      · simp
set_option maxHeartbeats 2000000 in
theorem law_FnExactFlashWipe {w : World} (A : Option Addr) (c : Nat) (f : List Bk) (hs : List (Option Addr × Nat)) (hn : f.length ≤ 9223372036854775807) (hp : ∀ b ∈ f, b.pages.length ≤ 9223372036854775807) (hF : RBks w A f hs) (block : Int) (torn : Bool) :
    Calls Try.prog 5 #[.slice A f.length c, .int .i64 block, .bool torn] w fun e w' => e = .returned (.bool true) ∧ Below w.heap.size w w' := by
  have HP := Lib.hid hp
  obtain ⟨R, t, hr⟩ : ∃ R t, flashWipe f block torn = (R, t) := ⟨_, _, rfl⟩
  have HR := Lib.hid hr
  clear hp hr
  go_enter Try.func5, Try.ntmps5
  go_wp2_with fail
  refine (laws_szBlockS A c f hs 1048576 w (by omega) (by omega) hn HP.out hF).mono ?_
  rintro e w1 ⟨rfl, hb1⟩
  by_cases hsz : szFl 1048576 f < 0
  · go_wp2
    go_ret
    exact ⟨rfl, hb1⟩
  · have hsm := Lib.hid (show Small f from szFl_small (by omega))
    have hRs := Lib.hid (flashWipe_small hsm.out HR.out)
    clear hn
    have s1 := hb1.size
    go_wp2_with fail
    refine (laws_toBlockS A c f hs _ hsm.out.1 hsm.out.2 (hF.below hb1 (Nat.le_refl _))).mono ?_
    rintro e w2 ⟨a, rfl, hO2, hb2⟩
    have s2 := hb2.size
    have HB2 := hb1.trans (hb2.mono s1)
    go_wp2_with fail
    refine (spec_FlashWipe f block torn _ _ _ hsm.out.len hO2.fl).mono ?_
    rw [HR.out]
    rintro e w3 ⟨A3, c3, rfl, _, hO3, hb3⟩
    have s3 := hb3.size
    have HB3 := HB2.trans (hb3.mono (by omega))
    clear hO2 hb1 hb2 hb3 HB2
    go_wp2_with fail
    refine (laws_toBlockS A c f hs _ hsm.out.1 hsm.out.2 (hF.below HB3 (Nat.le_refl _))).mono ?_
    rintro e w4 ⟨x, rfl, hO4, hb4⟩
    have s4 := hb4.size
    have HB4 := HB3.trans (hb4.mono (by omega))
    have hO34 := hO3.below hb4 (Nat.le_refl _)
    clear hO3 hb4 HB3
    go_wp2_with fail
    refine (impl_FlashWipe f block torn _ _ _ hO4.fl).mono ?_
    rw [HR.out]
    rintro e w5 ⟨A5, c5, rfl, _, hO5, hb5⟩
    have s5 := hb5.size
    have HB5 := HB4.trans (hb5.mono (by omega))
    have hO35 := hO34.below hb5 (Nat.le_refl _)
    have hO45 := hO4.below hb5 (Nat.le_refl _)
    clear hO34 hO4 hb5 HB4
    go_wp2_with fail
    refine (laws_eqBlockS A5 A3 c5 c3 R R _ hRs.out.len hRs.out.len hRs.out.pages hRs.out.pages hO5.fl hO35.fl).mono ?_
    rintro e w6 ⟨rfl, hb6⟩
    rw [show decide (R = R) = true from by simp]
    have s6 := hb6.size
    have HB6 := HB5.trans (hb6.mono (by omega))
    have hO36 := hO35.below hb6 (Nat.le_refl _)
    have hO46 := hO45.below hb6 (Nat.le_refl _)
    have hO56 := hO5.below hb6 (Nat.le_refl _)
    clear hO35 hO45 hO5 hb6 HB5
    go_wp2_with fail
    refine (laws_toBlockS A c f hs _ hsm.out.1 hsm.out.2 (hF.below HB6 (Nat.le_refl _))).mono ?_
    rintro e w7 ⟨y, rfl, hO7, hb7⟩
    have s7 := hb7.size
    have HB7 := HB6.trans (hb7.mono (by omega))
    have hO37 := hO36.below hb7 (Nat.le_refl _)
    have hO47 := hO46.below hb7 (Nat.le_refl _)
    have hO57 := hO56.below hb7 (Nat.le_refl _)
    clear hO36 hO46 hO56 hb7 HB6
    go_wp2_with fail
    refine (laws_eqBlockS _ _ _ _ f f _ hsm.out.len hsm.out.len hsm.out.pages hsm.out.pages hO47.fl hO7.fl).mono ?_
    rintro e w8 ⟨rfl, hb8⟩
    rw [show decide (f = f) = true from by simp]
    have s8 := hb8.size
    have HB8 := HB7.trans (hb8.mono (by omega))
    have hO38 := hO37.below hb8 (Nat.le_refl _)
    have hO48 := hO47.below hb8 (Nat.le_refl _)
    have hO58 := hO57.below hb8 (Nat.le_refl _)
    clear hO37 hO47 hO57 hO7 hb8 HB7
    go_wp2_with fail
    refine (laws_markBlockS _ _ f 1 w3.heap.size w4.heap.size _ hsm.out.len hsm.out.pages (by omega) hsm.out.end hO48).mono ?_
    rintro e w9 ⟨rfl, hO9, hA9⟩
    have s9 := hA9.size
    have HB9 := HB8.trans (hA9.below (B := w.heap.size) (by omega) (fun i hi => by omega))
    have hO39 := hO38.far hA9 (.inl (Nat.le_refl _))
    have hO59 := hO58.far hA9 (.inr (Nat.le_refl _))
    have hge := endFl_ge f 1
    clear hO38 hO48 hO58 hA9 HB8 hO9
    go_wp2_with fail
    refine (laws_eqBlockS A5 A3 c5 c3 R R _ hRs.out.len hRs.out.len hRs.out.pages hRs.out.pages hO59.fl hO39.fl).mono ?_
    rintro e w10 ⟨rfl, hb10⟩
    rw [show decide (R = R) = true from by simp]
    have s10 := hb10.size
    have HB10 := HB9.trans (hb10.mono (by omega))
    have hO310 := hO39.below hb10 (Nat.le_refl _)
    have hO510 := hO59.below hb10 (Nat.le_refl _)
    clear hO39 hO59 hb10 HB9
    go_wp2_with fail
    refine (laws_markBlockS _ _ R 1 w4.heap.size w5.heap.size _ hRs.out.len hRs.out.pages (by omega) hRs.out.end hO510).mono ?_
    rintro e w11 ⟨rfl, hO11, hA11⟩
    have s11 := hA11.size
    have HB11 := HB10.trans (hA11.below (B := w.heap.size) (by omega) (fun i hi => by omega))
    have hO311 := hO310.far hA11 (.inl (by omega))
    have hge := endFl_ge R 1
    have hlt := hRs.out.end
    clear hO310 hO510 hA11 HB10
    go_wp2_with fail
    refine (laws_heldBlockS _ _ _ R 1 _ rfl hRs.out.len hRs.out.pages (by omega) hRs.out.end hO11.fl).mono ?_
    rintro e w12 ⟨rfl, rfl⟩
    go_wp2_with fail
    refine (laws_toBlockS A c f hs _ hsm.out.1 hsm.out.2 (hF.below HB11 (Nat.le_refl _))).mono ?_
    rintro e w13 ⟨z, rfl, hO13, hb13⟩
    have s13 := hb13.size
    have HB13 := HB11.trans (hb13.mono (by omega))
    have hO313 := hO311.below hb13 (Nat.le_refl _)
    have hO513 := hO11.below hb13 (Nat.le_refl _)
    clear hO311 hO11 hb13 HB11
    go_wp2_with fail
    refine (impl_FlashWipe f block torn _ _ _ hO13.fl).mono ?_
    rw [HR.out]
    rintro e w14 ⟨A14, c14, rfl, _, hO14, hb14⟩
    have s14 := hb14.size
    have HB14 := HB13.trans (hb14.mono (by omega))
    have hO314 := hO313.below hb14 (Nat.le_refl _)
    have hO514 := hO513.below hb14 (Nat.le_refl _)
    clear hO313 hO513 hO13 hb14 HB13
    go_wp2_with fail
    refine (laws_eqBlockS A14 A3 c14 c3 R R _ hRs.out.len hRs.out.len hRs.out.pages hRs.out.pages hO14.fl hO314.fl).mono ?_
    rintro e w15 ⟨rfl, hb15⟩
    rw [show decide (R = R) = true from by simp]
    have s15 := hb15.size
    have HB15 := HB14.trans (hb15.mono (by omega))
    have hO515 := hO514.below hb15 (Nat.le_refl _)
    clear hO314 hO514 hO14 hb15 HB14
    go_wp2_with fail
    refine (laws_heldBlockS _ _ _ R 1 _ rfl hRs.out.len hRs.out.pages (by omega) hRs.out.end hO515.fl).mono ?_
    rintro e w16 ⟨rfl, rfl⟩
    go_wp2
    go_ret
    exact ⟨rfl, HB15⟩
end Go.Proofs.Ytlkoadbanfjlaaa
