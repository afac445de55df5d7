/- Walk: FnExactFlashNew. Walks: StoreNew twice, and what the statements ask of stores. -/
import Derived.Test.YtfkjhnfbajflaaaS4
import Derived.Test.YtfkjhnfbajflaaaL1
import Derived.Test.YtfkjhnfbajflaaaL4
import Derived.Deep.RegionWith
namespace Go.Proofs.Ytfkjhnfbajflaaa
set_option linter.unusedVariables false
set_option linter.unusedSimpArgs false
open Go.RowKit Go.Maps
set_option maxHeartbeats 400000
theorem flashNew_len : flashNew.length = 4 := rfl
theorem flashNew_pages : ∀ b ∈ flashNew, b.pages.length < 1000000000000 := by
  intro b hb
  rw [flashNew, List.mem_replicate] at hb
  rw [hb.2]; decide
theorem flashNew_end : endFl 1 flashNew = 85 := by decide
theorem OFl.far {w w' : World} {lo hi lo' hi' : Nat} {A : Option Addr} {f : List Bk} (h : OFl w lo hi A f) (ha : Agr (fun b => lo' ≤ b ∧ b < hi') w w') (hd : hi ≤ lo' ∨ hi' ≤ lo) : OFl w' lo hi A f :=
  h.agr ha fun b h1 h2 h3 => by omega
end Go.Proofs.Ytfkjhnfbajflaaa
namespace Go.Proofs.Ytfkjhnfbajflaaa
set_option linter.unusedVariables false
set_option linter.unusedSimpArgs false
open Go.RowKit Go.Maps
set_option maxHeartbeats 400000
/-- a store of one's own: a flash and a row of numbers, in blocks from lo on and below hi -/
def OSt (w : World) (lo hi : Nat) (A : Option Addr) (f : List Bk) (D : Option Addr) (xs : List Int) : Prop :=
  ∃ hs, Bks w A f hs ∧ Apt lo hi A hs ∧ Row w D (ints xs) ∧ ∀ b, blk D b → lo ≤ b ∧ b < hi ∧ ¬ blk A b ∧ ∀ (i : Nat) (x : Option Addr × Nat), hs[i]? = some x → ¬ blk x.1 b
theorem OSt.keep {w w' : World} {lo hi : Nat} {A D : Option Addr} {f : List Bk} {xs : List Int} (h : OSt w lo hi A f D xs) (hk : ∀ b, lo ≤ b → b < hi → b < w.heap.size → w'.heap[b]? = w.heap[b]?) : OSt w' lo hi A f D xs := by
  obtain ⟨hs, h1, h2, h3, h4⟩ := h
  refine ⟨hs, h1.keep fun b hb hl => ?_, h2, h3.keep fun b hb hl => hk b (h4 b hb).1 (h4 b hb).2.1 hl, h4⟩
  rcases hb with hb | ⟨x, hx, hb⟩
  · have := h2.top b hb; exact hk b this.1 this.2 hl
  · obtain ⟨i, hi'⟩ := List.getElem?_of_mem hx
    have := h2.in_ i x b hi' hb; exact hk b this.1 this.2.1 hl
theorem OSt.below {w w' : World} {lo hi B : Nat} {A D : Option Addr} {f : List Bk} {xs : List Int} (h : OSt w lo hi A f D xs) (hb : Below B w w') (hB : w.heap.size ≤ B) : OSt w' lo hi A f D xs := h.keep fun b _ _ hl => hb.block b (by omega)
theorem OSt.far {w w' : World} {lo hi lo' hi' : Nat} {A D : Option Addr} {f : List Bk} {xs : List Int} (h : OSt w lo hi A f D xs) (ha : Agr (fun b => lo' ≤ b ∧ b < hi') w w') (hd : hi ≤ lo' ∨ hi' ≤ lo) : OSt w' lo hi A f D xs :=
  h.keep fun b h1 h2 hl => ha.block b hl (by omega)
theorem OSt.ofl {w : World} {lo hi : Nat} {A D : Option Addr} {f : List Bk} {xs : List Int} (h : OSt w lo hi A f D xs) : OFl w lo hi A f := by obtain ⟨hs, h1, h2, _⟩ := h; exact ⟨hs, h1, h2⟩
theorem OSt.disk {w : World} {lo hi : Nat} {A D : Option Addr} {f : List Bk} {xs : List Int} (h : OSt w lo hi A f D xs) : Row w D (ints xs) := by obtain ⟨hs, _, _, h3, _⟩ := h; exact h3
theorem OSt.mono {w : World} {lo hi lo' hi' : Nat} {A D : Option Addr} {f : List Bk} {xs : List Int} (h : OSt w lo hi A f D xs) (h1 : lo' ≤ lo) (h2 : hi ≤ hi') : OSt w lo' hi' A f D xs := by
  obtain ⟨hs, a, b, c, d⟩ := h
  exact ⟨hs, a, b.mono h1 h2, c, fun x hx => by have := d x hx; exact ⟨by omega, by omega, this.2.2⟩⟩
/-- the flash lies in some blocks, the numbers in others -/
theorem OSt.mk' {w : World} {lo hi lf hf d o : Nat} {A : Option Addr} {f : List Bk} {xs : List Int} (h : OFl w lf hf A f) (hr : Row w (some ⟨d, o, none⟩) (ints xs)) (h1 : lo ≤ lf) (h2 : hf ≤ hi) (h3 : lo ≤ d) (h4 : d < hi) (h5 : d < lf ∨ hf ≤ d) : OSt w lo hi A f (some ⟨d, o, none⟩) xs := by
  obtain ⟨hs, a, b⟩ := h
  refine ⟨hs, a, b.mono h1 h2, hr, fun x hx => ?_⟩
  rw [blk_some] at hx
  subst hx
  exact ⟨h3, h4, fun e => by have := b.top d e; omega, fun i y hy e => by have := b.in_ i y d hy e; omega⟩
theorem make_disk (w : World) : (Instr.makeSlice 37 (.int .i64 6) (.int .i64 6)).run Try.prog w = .ok (.slice (some ⟨w.heap.size, 0, none⟩) 6 6) (w.alloc (.cells #[.int .i64 0, .int .i64 0, .int .i64 0, .int .i64 0, .int .i64 0, .int .i64 0] 3)) := by kernel_rfl
def disk0 : List Int := [0, 0, 0, 0, 0, 0]
/-- what StoreNew answers -/
def StNewPost (w : World) (e : Ending) (w' : World) : Prop :=
  ∃ A c D, e = .returned (.agg #[.slice A 4 c, .slice D 6 6]) ∧ 4 ≤ c ∧ OSt w' w.heap.size w'.heap.size A flashNew D disk0 ∧ Below w.heap.size w w'
theorem spec_StoreNew (w : World) : Calls Try.prog 69 #[] w (StNewPost w) := by
  have hmk := make_disk
  go_enter Try.func69, Try.ntmps69
  go_wp2_with fail
  go_region_with (first | (go_at_call 72; refine (spec_FlashNew _).mono ?_; rintro e w1 ⟨g, c, rfl, hc, hO, hb⟩; have r0 : w1.cell? ⟨w.heap.size, 0, none⟩ = some (.slice none 0 0) := (hb.cell (p := ⟨w.heap.size, 0, none⟩) (by simp <;> omega)).trans (by simp); have r1 : w1.cell? ⟨w.heap.size, 1, none⟩ = some (.slice none 0 0) := (hb.cell (p := ⟨w.heap.size, 1, none⟩) (by simp <;> omega)).trans (by simp); have r2 : w1.frozen? ⟨w.heap.size, 0, none⟩ = false := (hb.frozen (p := ⟨w.heap.size, 0, none⟩) (by simp <;> omega)).trans (by simp); have r3 : w1.frozen? ⟨w.heap.size, 1, none⟩ = false := (hb.frozen (p := ⟨w.heap.size, 1, none⟩) (by simp <;> omega)).trans (by simp); have hz : w.heap.size < w1.heap.size := by have := hb.size; simp at this; omega))
  · -- the flash first
    have hB : Below w.heap.size w w1 := Below.trans (by (repeat (first | (with_reducible exact Below.refl _ _) | (with_reducible assumption) | (refine Below.setCell ?_ (by first | omega | exact hB.size | exact hb.size | (have h := hB.size; simp; omega) | (have h := hb.size; simp; omega) | (simp; omega) | simp) _) | (refine Below.alloc ?_ (by first | omega | exact hB.size | exact hb.size | (have h := hB.size; simp; omega) | (have h := hb.size; simp; omega) | (simp; omega) | simp) _) | (refine Below.drew ?_)))) (hb.mono (by simp <;> omega))
    have hO2 : OFl w1 (w.heap.size + 1) w1.heap.size (some ⟨g, 0, none⟩) flashNew := hO.mono (by simp <;> omega) (Nat.le_refl _)
    clear hO hb
    go_wp2
    refine bodyPost_ret (v := .agg #[.slice (some ⟨g, 0, none⟩) 4 c, .slice (some ⟨w1.heap.size, 0, none⟩) 6 6]) (by simp [results, Try.results69, go_sem, hz, r0, r1]) rfl ⟨_, _, _, rfl, hc, ?_, ?_⟩
    · refine OSt.mk' (lf := w.heap.size + 1) (hf := w1.heap.size) (hO2.keep fun d h1 h2 hl => ?_) ?_ (by omega) (by simp) (by omega) (by simp) (.inr (Nat.le_refl _))
      · rw [Below.heap_alloc _ _ _ (by simpa using hl), Below.heap_setCell _ _ _ _ (by simp; omega), Below.heap_setCell _ _ _ _ (by simp; omega)]
      · have := Row.new ((w1.setCell ⟨w.heap.size, 0, none⟩ (.slice (some ⟨g, 0, none⟩) 4 c)).setCell ⟨w.heap.size, 1, none⟩ (.slice (some ⟨w1.heap.size, 0, none⟩) 6 6)) #[.int .i64 0, .int .i64 0, .int .i64 0, .int .i64 0, .int .i64 0, .int .i64 0] 3
        simp only [World.size_setCell] at this
        exact this
    · (repeat (first | (with_reducible exact Below.refl _ _) | (with_reducible assumption) | (refine Below.setCell ?_ (by first | omega | exact hB.size | exact hb.size | (have h := hB.size; simp; omega) | (have h := hb.size; simp; omega) | (simp; omega) | simp) _) | (refine Below.alloc ?_ (by first | omega | exact hB.size | exact hb.size | (have h := hB.size; simp; omega) | (have h := hb.size; simp; omega) | (simp; omega) | simp) _) | (refine Below.drew ?_)))
  · -- the numbers first
    have hB : Below w.heap.size w w1 := Below.trans (by (repeat (first | (with_reducible exact Below.refl _ _) | (with_reducible assumption) | (refine Below.setCell ?_ (by first | omega | exact hB.size | exact hb.size | (have h := hB.size; simp; omega) | (have h := hb.size; simp; omega) | (simp; omega) | simp) _) | (refine Below.alloc ?_ (by first | omega | exact hB.size | exact hb.size | (have h := hB.size; simp; omega) | (have h := hb.size; simp; omega) | (simp; omega) | simp) _) | (refine Below.drew ?_)))) (hb.mono (by simp <;> omega))
    have hO2 : OFl w1 (w.heap.size + 1 + 1) w1.heap.size (some ⟨g, 0, none⟩) flashNew := hO.mono (by simp <;> omega) (Nat.le_refl _)
    have hD : Row w1 (some ⟨w.heap.size + 1, 0, none⟩) (ints disk0) := by
      have := Row.new (w.alloc (.cells #[.slice none 0 0, .slice none 0 0] 39)) #[.int .i64 0, .int .i64 0, .int .i64 0, .int .i64 0, .int .i64 0, .int .i64 0] 3
      simp only [World.size_alloc] at this
      exact (Row.drew this).below hb (Nat.le_refl _)
    have hz2 : w.heap.size + 1 < w1.heap.size := by have := hb.size; simp at this; omega
    clear hO hb
    go_wp2
    refine bodyPost_ret (v := .agg #[.slice (some ⟨g, 0, none⟩) 4 c, .slice (some ⟨w.heap.size + 1, 0, none⟩) 6 6]) (by simp [results, Try.results69, go_sem, hz, r0, r1]) rfl ⟨_, _, _, rfl, hc, ?_, ?_⟩
    · refine OSt.mk' (lf := w.heap.size + 1 + 1) (hf := w1.heap.size) (hO2.keep fun d h1 h2 hl => ?_) (hD.keep fun d hd hl => ?_) (by omega) (by simp) (by omega) (by simpa using hz2) (.inl (by omega))
      · rw [Below.heap_setCell _ _ _ _ (by simp; omega), Below.heap_setCell _ _ _ _ (by simp; omega)]
      · rw [blk_some] at hd
        rw [Below.heap_setCell _ _ _ _ (by simp; omega), Below.heap_setCell _ _ _ _ (by simp; omega)]
    · (repeat (first | (with_reducible exact Below.refl _ _) | (with_reducible assumption) | (refine Below.setCell ?_ (by first | omega | exact hB.size | exact hb.size | (have h := hB.size; simp; omega) | (have h := hb.size; simp; omega) | (simp; omega) | simp) _) | (refine Below.alloc ?_ (by first | omega | exact hB.size | exact hb.size | (have h := hB.size; simp; omega) | (have h := hb.size; simp; omega) | (simp; omega) | simp) _) | (refine Below.drew ?_)))
theorem impl_StoreNew (w : World) : Calls Try.prog 27 #[] w (StNewPost w) := by
  have hmk := make_disk
  go_enter Try.func27, Try.ntmps27
  go_wp2_with fail
  go_region_with (first | (go_at_call 32; refine (impl_FlashNew _).mono ?_; rintro e w1 ⟨g, rfl, hO, hb⟩; have r0 : w1.cell? ⟨w.heap.size, 0, none⟩ = some (.slice none 0 0) := (hb.cell (p := ⟨w.heap.size, 0, none⟩) (by simp <;> omega)).trans (by simp); have r1 : w1.cell? ⟨w.heap.size, 1, none⟩ = some (.slice none 0 0) := (hb.cell (p := ⟨w.heap.size, 1, none⟩) (by simp <;> omega)).trans (by simp); have r2 : w1.frozen? ⟨w.heap.size, 0, none⟩ = false := (hb.frozen (p := ⟨w.heap.size, 0, none⟩) (by simp <;> omega)).trans (by simp); have r3 : w1.frozen? ⟨w.heap.size, 1, none⟩ = false := (hb.frozen (p := ⟨w.heap.size, 1, none⟩) (by simp <;> omega)).trans (by simp); have hz : w.heap.size < w1.heap.size := by have := hb.size; simp at this; omega))
  · -- the flash first
    have hB : Below w.heap.size w w1 := Below.trans (by (repeat (first | (with_reducible exact Below.refl _ _) | (with_reducible assumption) | (refine Below.setCell ?_ (by first | omega | exact hB.size | exact hb.size | (have h := hB.size; simp; omega) | (have h := hb.size; simp; omega) | (simp; omega) | simp) _) | (refine Below.alloc ?_ (by first | omega | exact hB.size | exact hb.size | (have h := hB.size; simp; omega) | (have h := hb.size; simp; omega) | (simp; omega) | simp) _) | (refine Below.drew ?_)))) (hb.mono (by simp <;> omega))
    have hO2 : OFl w1 (w.heap.size + 1) w1.heap.size (some ⟨g, 0, none⟩) flashNew := hO.mono (by simp <;> omega) (Nat.le_refl _)
    clear hO hb
    go_wp2
    refine bodyPost_ret (v := .agg #[.slice (some ⟨g, 0, none⟩) 4 4, .slice (some ⟨w1.heap.size, 0, none⟩) 6 6]) (by simp [results, Try.results27, go_sem, hz, r0, r1]) rfl ⟨_, _, _, rfl, Nat.le_refl _, ?_, ?_⟩
    · refine OSt.mk' (lf := w.heap.size + 1) (hf := w1.heap.size) (hO2.keep fun d h1 h2 hl => ?_) ?_ (by omega) (by simp) (by omega) (by simp) (.inr (Nat.le_refl _))
      · rw [Below.heap_alloc _ _ _ (by simpa using hl), Below.heap_setCell _ _ _ _ (by simp; omega), Below.heap_setCell _ _ _ _ (by simp; omega)]
      · have := Row.new ((w1.setCell ⟨w.heap.size, 0, none⟩ (.slice (some ⟨g, 0, none⟩) 4 4)).setCell ⟨w.heap.size, 1, none⟩ (.slice (some ⟨w1.heap.size, 0, none⟩) 6 6)) #[.int .i64 0, .int .i64 0, .int .i64 0, .int .i64 0, .int .i64 0, .int .i64 0] 3
        simp only [World.size_setCell] at this
        exact this
    · (repeat (first | (with_reducible exact Below.refl _ _) | (with_reducible assumption) | (refine Below.setCell ?_ (by first | omega | exact hB.size | exact hb.size | (have h := hB.size; simp; omega) | (have h := hb.size; simp; omega) | (simp; omega) | simp) _) | (refine Below.alloc ?_ (by first | omega | exact hB.size | exact hb.size | (have h := hB.size; simp; omega) | (have h := hb.size; simp; omega) | (simp; omega) | simp) _) | (refine Below.drew ?_)))
  · -- the numbers first
    have hB : Below w.heap.size w w1 := Below.trans (by (repeat (first | (with_reducible exact Below.refl _ _) | (with_reducible assumption) | (refine Below.setCell ?_ (by first | omega | exact hB.size | exact hb.size | (have h := hB.size; simp; omega) | (have h := hb.size; simp; omega) | (simp; omega) | simp) _) | (refine Below.alloc ?_ (by first | omega | exact hB.size | exact hb.size | (have h := hB.size; simp; omega) | (have h := hb.size; simp; omega) | (simp; omega) | simp) _) | (refine Below.drew ?_)))) (hb.mono (by simp <;> omega))
    have hO2 : OFl w1 (w.heap.size + 1 + 1) w1.heap.size (some ⟨g, 0, none⟩) flashNew := hO.mono (by simp <;> omega) (Nat.le_refl _)
    have hD : Row w1 (some ⟨w.heap.size + 1, 0, none⟩) (ints disk0) := by
      have := Row.new (w.alloc (.cells #[.slice none 0 0, .slice none 0 0] 39)) #[.int .i64 0, .int .i64 0, .int .i64 0, .int .i64 0, .int .i64 0, .int .i64 0] 3
      simp only [World.size_alloc] at this
      exact (Row.drew this).below hb (Nat.le_refl _)
    have hz2 : w.heap.size + 1 < w1.heap.size := by have := hb.size; simp at this; omega
    clear hO hb
    go_wp2
    refine bodyPost_ret (v := .agg #[.slice (some ⟨g, 0, none⟩) 4 4, .slice (some ⟨w.heap.size + 1, 0, none⟩) 6 6]) (by simp [results, Try.results27, go_sem, hz, r0, r1]) rfl ⟨_, _, _, rfl, Nat.le_refl _, ?_, ?_⟩
    · refine OSt.mk' (lf := w.heap.size + 1 + 1) (hf := w1.heap.size) (hO2.keep fun d h1 h2 hl => ?_) (hD.keep fun d hd hl => ?_) (by omega) (by simp) (by omega) (by simpa using hz2) (.inl (by omega))
      · rw [Below.heap_setCell _ _ _ _ (by simp; omega), Below.heap_setCell _ _ _ _ (by simp; omega)]
      · rw [blk_some] at hd
        rw [Below.heap_setCell _ _ _ _ (by simp; omega), Below.heap_setCell _ _ _ _ (by simp; omega)]
    · (repeat (first | (with_reducible exact Below.refl _ _) | (with_reducible assumption) | (refine Below.setCell ?_ (by first | omega | exact hB.size | exact hb.size | (have h := hB.size; simp; omega) | (have h := hb.size; simp; omega) | (simp; omega) | simp) _) | (refine Below.alloc ?_ (by first | omega | exact hB.size | exact hb.size | (have h := hB.size; simp; omega) | (have h := hb.size; simp; omega) | (simp; omega) | simp) _) | (refine Below.drew ?_)))
end Go.Proofs.Ytfkjhnfbajflaaa
