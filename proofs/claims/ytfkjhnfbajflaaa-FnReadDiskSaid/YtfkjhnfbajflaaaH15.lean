/- Walks: the program's StoreOk, StoreRead. Plain functions: a store that is ok. -/
import Derived.Test.YtfkjhnfbajflaaaH14
import Derived.Test.YtfkjhnfbajflaaaH12
import Derived.Test.YtfkjhnfbajflaaaE7
import Derived.Test.YtfkjhnfbajflaaaG6
namespace Go.Proofs.Ytfkjhnfbajflaaa
set_option linter.unusedVariables false
set_option linter.unusedSimpArgs false
open Go.RowKit Go.Maps
set_option maxHeartbeats 400000
/-- of a clean last record the slow disk has the value -/
def diskBad (f : List Bk) (i : Nat) (v : Int) : Prop := 0 < (last f ((i : Int) + 1)).seq ∧ (last f ((i : Int) + 1)).kind = 2 ∧ (last f ((i : Int) + 1)).val ≠ v
instance (f : List Bk) (i : Nat) (v : Int) : Decidable (diskBad f i v) := by unfold diskBad; infer_instance
def diskGo (f : List Bk) : Nat → List Int → Bool
  | _, [] => true
  | i, v :: r => if valB v = true then (if diskBad f i v then false else diskGo f (i + 1) r) else false
def storeOk (s : St) : Bool := if s.disk.length = 6 then (if findOrderI s.flash = true then diskGo s.flash 0 s.disk else false) else false
theorem impl_isDirty (r : Rc) (w : World) : Calls Try.prog 57 #[.agg #[.int .i64 r.kind, .int .i64 r.seq, .int .i64 r.addr, .int .i64 r.val]] w fun e w' => e = .returned (.bool (decide (r.kind = 1))) ∧ Below w.heap.size w w' := by
  go_enter Try.func57, Try.ntmps57
  go_wp2
  go_ret
  exact ⟨ret_bool (by rw [Bool.eq_iff_iff]; simp), by (repeat (first | (with_reducible exact Below.refl _ _) | (with_reducible assumption) | (refine Below.setCell ?_ (by first | omega | exact hB.size | exact hb.size | (have h := hB.size; simp; omega) | (have h := hb.size; simp; omega) | (simp; omega) | simp) _) | (refine Below.alloc ?_ (by first | omega | exact hB.size | exact hb.size | (have h := hB.size; simp; omega) | (have h := hb.size; simp; omega) | (simp; omega) | simp) _) | (refine Below.drew ?_)))⟩
theorem ints_ne' {xs : List Int} (h : xs ≠ []) : ints xs ≠ [] := fun e => h (by
  have := congrArg List.length e
  rw [ints_len] at this
  exact List.length_eq_zero_iff.1 this)
theorem foundR_some {r : Rc} (h : 0 < r.seq) : foundR r = some r := by unfold foundR; rw [if_pos h]
theorem foundR_none {r : Rc} (h : ¬ 0 < r.seq) : foundR r = none := by unfold foundR; rw [if_neg h]
theorem last_pages {f : List Bk} (h : flashOk f = true) : ∀ b ∈ f, ∀ p ∈ b.pages, pageOk p = true := fun b hb => (bk_parts h hb).2.2.2
theorem last_kind {f : List Bk} (h : flashOk f = true) {a : Int} (h0 : 0 < (last f a).seq) : (last f a).kind = 1 ∨ (last f a).kind = 2 := by
  have := (last_found (last_pages h) h0).1
  unfold recOk kindB at this
  simp at this
  omega
set_option maxHeartbeats 4000000 in
set_option maxRecDepth 100000 in
theorem impl_StoreOk (s : St) (A D : Option Addr) (n m c d : Nat) (w : World) (hn : n = s.flash.length) (hm : m = s.disk.length) (hF : Fl w A s.flash) (hD : Row w D (ints s.disk)) :
    Calls Try.prog 29 #[.agg #[.slice A n c, .slice D m d]] w fun e w' => e = .returned (.bool (storeOk s)) ∧ Below w.heap.size w w' := by
  subst hn; subst hm
  have hB0 : Below w.heap.size w (w.alloc (.cells #[.slice A s.flash.length c, .slice D s.disk.length d] 39)) := (Below.refl _ _).alloc (Nat.le_refl _) _
  have hF0 := hF.below hB0 (Nat.le_refl _)
  have hD0 := hD.below hB0 (Nat.le_refl _)
  by_cases h6 : s.disk.length = 6
  · have H6 := Lib.hid h6
    have hfin : Hid (storeOk s = if findOrderI s.flash = true then diskGo s.flash 0 s.disk else false) := by unfold Hid storeOk; rw [if_pos h6]
    obtain ⟨db, dO, rfl⟩ := hD.addr (ints_ne' (by intro e; rw [e] at h6; simp at h6))
    rw [h6] at hB0 hF0 hD0 ⊢
    clear h6
    go_enter Try.func29, Try.ntmps29
    go_wp2_with fail
    refine (impl_FindOrder s.flash A _ c _ rfl hF0).mono ?_
    rintro e w1 ⟨rfl, hb⟩
    have hs1 := hb.size
    simp only [World.size_alloc] at hs1
    have x0 : w1.cell? ⟨w.heap.size, 0, none⟩ = some (.slice A s.flash.length c) := (hb.cell (p := ⟨w.heap.size, 0, none⟩) (by simp)).trans (by simp)
    have x1 : w1.cell? ⟨w.heap.size, 1, none⟩ = some (.slice (some ⟨db, dO, none⟩) 6 d) := (hb.cell (p := ⟨w.heap.size, 1, none⟩) (by simp)).trans (by simp)
    have hF1 := hF0.below hb (Nat.le_refl _)
    have hD1 := hD0.below hb (Nat.le_refl _)
    have hB1 := hB0.trans (hb.mono (by simp))
    clear hb hF0 hD0 hB0
    by_cases hord : findOrderI s.flash = true
    · have hok := order_ok hord
      have hfin2 : Hid (storeOk s = diskGo s.flash 0 s.disk) := by rw [Hid, hfin.out, if_pos hord]
      have hlm := Lib.hid (fun a => lastMap_eq hok a)
      have hkd := Lib.hid (fun a h => last_kind (a := a) hok h)
      have hrc := Lib.hid (fun a h => last_found (a := a) (last_pages hok) h)
      rw [hord]
      clear hord hfin
      go_wp2_with fail
      refine (impl_lastRecords s.flash A _ c _ rfl hok hF1).mono ?_
      rintro e w2 ⟨rfl, hM, hb⟩
      have hs2 := hb.size
      replace x0 := (hb.cell (p := ⟨w.heap.size, 0, none⟩) (by show w.heap.size < _; omega)).trans x0
      replace x1 := (hb.cell (p := ⟨w.heap.size, 1, none⟩) (by show w.heap.size < _; omega)).trans x1
      have hD2 := hD1.below hb (Nat.le_refl _)
      have hB2 := hB1.trans (hb.mono (by omega))
      have hMl := hM.lt
      clear hb hF1 hD1 hB1 hok
      go_wp2
      go_loopw [25] (fun i wr => ∃ k : Nat, k ≤ 6 ∧ i = .int .i64 k ∧ Below w2.heap.size w2 wr ∧ Hid (diskGo s.flash 0 s.disk = diskGo s.flash k (s.disk.drop k))) (fun i _ => 6 - (intOf i).toNat)
      case atStart => exact ⟨0, by omega, rfl, Below.refl _ _, rfl⟩
      case round =>
        obtain ⟨k, hk, rfl, hB, hT⟩ := hrel
        by_cases hlt : k < 6
        · obtain ⟨v, hv⟩ := get_some (l := s.disk) (k := k) (by rw [H6.out]; exact hlt)
          obtain ⟨cv, _⟩ := (hD2.below hB (Nat.le_refl _)).int_ hv
          have hk1 : (k : Int) < 6 := by omega
          have e1 : IntKind.i64.wrap ((k : Int) + 1) = (k : Int) + 1 := IntWalk.i64_in _ (by omega)
          have hT2 : Hid (diskGo s.flash 0 s.disk = if valB v = true then (if diskBad s.flash k v then false else diskGo s.flash (k + 1) (s.disk.drop (k + 1))) else false) := by rw [Hid, hT.out, drop_cons hv, diskGo]
          have hlk := (hM.below hB hMl).look_ok (t := 77) Try.underlying77 Try.underlying3 zero_rec (k := (k : Int) + 1) (wf_int (by omega))
          rw [hlm.out] at hlk
          have hkdk := Lib.hid (hkd.out ((k : Int) + 1))
          have hdb : Hid (diskBad s.flash k v ↔ (0 < (last s.flash ((k : Int) + 1)).seq ∧ (last s.flash ((k : Int) + 1)).kind = 2 ∧ (last s.flash ((k : Int) + 1)).val ≠ v)) := Iff.rfl
          generalize last s.flash ((k : Int) + 1) = r at *
          unfold rcV at hlk
          clear hv hT
          by_cases hvo : valB v = true
          · have hT3 := hT2.out
            rw [if_pos hvo] at hT3
            replace hT3 := Lib.hid hT3
            have hval := impl_valOk v wr
            rw [hvo] at hval
            clear hvo hT2
            by_cases hr : 0 < r.seq
            · rw [foundR_some hr] at hlk
              simp only [Option.getD_some, Option.isSome_some] at hlk
              have hBa : Below w2.heap.size w2 (wr.alloc (.cells #[.int .i64 r.kind, .int .i64 r.seq, .int .i64 r.addr, .int .i64 r.val] 35)) := hB.alloc hB.size _
              go_wp2_with fail
              refine hval.mono ?_
              rintro e w3 ⟨rfl, rfl⟩
              go_wp2_with fail
              refine (impl_isDirty r _).mono ?_
              rintro e w3 ⟨rfl, hb3⟩
              have y3 : w3.cell? ⟨wr.heap.size, 3, none⟩ = some (.int .i64 r.val) := (hb3.cell (p := ⟨wr.heap.size, 3, none⟩) (by simp)).trans (by simp)
              have hB3 := hBa.trans (hb3.mono (by have := hB.size; simp; omega))
              clear hb3 hBa hlk
              by_cases h1 : r.kind = 1
              · have hx := hT3.out
                rw [if_neg (fun e => by have := (hdb.out.1 e).2.1; omega)] at hx
                replace hx := Lib.hid hx
                rw [show decide (r.kind = 1) = true from decide_eq_true h1]
                clear hT3 h1
                go_wp2
                go_roundw
                (case rel => exact ⟨k + 1, by omega, by go_num, hB3, hx⟩)
                (case measure => simp [intOf]; omega)
              · have h2 : r.kind = 2 := by rcases hkdk.out hr with h | h; exact absurd h h1; exact h
                rw [show decide (r.kind = 1) = false from decide_eq_false h1]
                by_cases h3 : r.val = v
                · have hx := hT3.out
                  rw [if_neg (fun e => (hdb.out.1 e).2.2 h3)] at hx
                  replace hx := Lib.hid hx
                  have h3' : (r.val != v) = false := by rw [bne_eq_false_iff_eq]; exact h3
                  clear hT3 h1 h2 h3
                  go_wp2
                  go_roundw
                  (case rel => exact ⟨k + 1, by omega, by go_num, hB3, hx⟩)
                  (case measure => simp [intOf]; omega)
                · have hx := hT3.out
                  rw [if_pos (hdb.out.2 ⟨hr, h2, h3⟩)] at hx
                  replace hx := Lib.hid hx
                  have h3' : (r.val != v) = true := by rw [bne_iff_ne]; exact h3
                  clear hT3 h1 h2 h3
                  go_wp2
                  go_ret
                  exact ⟨ret_bool (by rw [hfin2.out, hx.out]), hB2.trans (hB3.mono (by omega))⟩
            · simp only [foundR_none hr, Option.getD_none, Option.isSome_none, rc0] at hlk
              have hx := hT3.out
              rw [if_neg (fun e => hr (hdb.out.1 e).1)] at hx
              replace hx := Lib.hid hx
              have hBa : Below w2.heap.size w2 (wr.alloc (.cells #[.int .i64 0, .int .i64 0, .int .i64 0, .int .i64 0] 35)) := hB.alloc hB.size _
              clear hT3
              go_wp2_with fail
              refine hval.mono ?_
              rintro e w3 ⟨rfl, rfl⟩
              go_wp2
              go_roundw
              (case rel => exact ⟨k + 1, by omega, by go_num, hBa, hx⟩)
              (case measure => simp [intOf]; omega)
          · have hx := hT2.out
            rw [if_neg hvo] at hx
            replace hx := Lib.hid hx
            have hval := impl_valOk v wr
            rw [show valB v = false from by simpa using hvo] at hval
            clear hvo hT2 hlk
            go_wp2_with fail
            refine hval.mono ?_
            rintro e w3 ⟨rfl, rfl⟩
            go_wp2
            go_ret
            exact ⟨ret_bool (by rw [hfin2.out, hx.out]), hB2.trans (hB.mono (by omega))⟩
        · have hk4 : (6 : Int) ≤ (k : Int) := by omega
          have hx : Hid (diskGo s.flash 0 s.disk = true) := by rw [Hid, hT.out, List.drop_of_length_le (by rw [H6.out]; omega)]; rfl
          clear hT
          go_wp2
          go_ret
          exact ⟨ret_bool (by rw [hfin2.out, hx.out]), hB2.trans (hB.mono (by omega))⟩
    · have hfin2 : Hid (storeOk s = false) := by rw [Hid, hfin.out, if_neg hord]
      rw [show findOrderI s.flash = false from by simpa using hord]
      clear hord
      go_wp2
      go_ret
      exact ⟨ret_bool hfin2.out.symm, hB1⟩
  · have hfin : Hid (storeOk s = false) := by unfold Hid storeOk; rw [if_neg h6]
    have h6' : ((s.disk.length : Int) != 6) = true := by rw [bne_iff_ne]; omega
    clear h6
    go_enter Try.func29, Try.ntmps29
    go_wp2
    go_ret
    exact ⟨ret_bool hfin.out.symm, hB0⟩
end Go.Proofs.Ytfkjhnfbajflaaa
