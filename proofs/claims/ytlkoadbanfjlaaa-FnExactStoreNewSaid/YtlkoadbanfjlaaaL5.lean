/- Walks: rows of numbers and stores compared, marked, held. -/
import Derived.Test.YtlkoadbanfjlaaaS4
import Derived.Test.YtlkoadbanfjlaaaL1
import Derived.Test.YtlkoadbanfjlaaaL4
import Derived.Test.YtlkoadbanfjlaaaQ2
namespace Go.Proofs.Ytlkoadbanfjlaaa
set_option linter.unusedVariables false
set_option linter.unusedSimpArgs false
open Go.RowKit Go.Maps
set_option maxHeartbeats 400000
theorem ints_ne {xs : List Int} (h : xs ≠ []) : ints xs ≠ [] := by
  cases xs with
  | nil => exact absurd rfl h
  | cons p ps => simp [ints]
theorem laws_eqIntS (A A' : Option Addr) (c c' : Nat) (xs ys : List Int) (w : World) (hl : xs.length < 1000000000000) (hl' : ys.length < 1000000000000) (hR : Row w A (ints xs)) (hR' : Row w A' (ints ys)) :
    Calls Try.prog 24 #[.slice A xs.length c, .slice A' ys.length c'] w fun e w' => e = .returned (.bool (decide (xs = ys))) ∧ Below w.heap.size w w' := by
  by_cases hn : xs.length = ys.length
  · have HN := Lib.hid hn
    rw [← hn]
    clear hn hl'
    go_enter Try.func24, Try.ntmps24
    go_wp2
    go_loopw [5] (fun i wr => ∃ (k : Nat), k ≤ xs.length ∧ i = .int .i64 k ∧ Below w.heap.size w wr ∧ Hid (decide (xs = ys) = decide (xs.drop k = ys.drop k))) (fun i _ => xs.length - (intOf i).toNat)
    case atStart => exact ⟨0, by omega, rfl, Below.refl _ _, by simp [Hid]⟩
    case round =>
      obtain ⟨k, hk, rfl, hb, hg⟩ := hrel
      by_cases hlt : k < xs.length
      · obtain ⟨p, hp⟩ := get_some hlt
        obtain ⟨q, hq⟩ := get_some (l := ys) (k := k) (by have := HN.out; omega)
        have hd := Lib.hid (eq_drop hp hq)
        obtain ⟨b, o, rfl⟩ := hR.addr (ints_ne (by rintro rfl; simp at hlt))
        obtain ⟨b', o', rfl⟩ := hR'.addr (ints_ne (by rintro rfl; simp at hq))
        have hRk := hR.below hb (Nat.le_refl _)
        have hRk' := hR'.below hb (Nat.le_refl _)
        obtain ⟨c0, c1⟩ := hRk.int_ hp
        obtain ⟨d0, d1⟩ := hRk'.int_ hq
        have hk1 : (k : Int) < xs.length := by omega
        clear hp hq
        go_wp2
        go_region
        go_wp2
        · have hne : (!decide (p = q)) = true := by assumption
          have hne' : decide (p = q) = false := by simpa using hne
          go_ret
          exact ⟨ret_bool (by rw [hg.out, hd.out, hne']; rfl), hb.drew⟩
        · have heq : (!decide (p = q)) = false := by assumption
          have heq' : decide (p = q) = true := by simpa using heq
          go_roundw
          case rel => exact ⟨k + 1, by omega, by go_num, hb.drew, by rw [Hid, hg.out, hd.out, heq', Bool.true_and]⟩
          case measure => simp [intOf]; omega
      · obtain rfl : k = xs.length := by omega
        go_wp2
        go_ret
        exact ⟨ret_bool (by rw [hg.out, List.drop_of_length_le (Nat.le_refl _), List.drop_of_length_le (by have := HN.out; omega)]; rfl), hb⟩
  · have hne : ¬ xs = ys := fun e => hn (by rw [e])
    have hi : ¬ (xs.length : Int) = ys.length := by omega
    go_enter Try.func24, Try.ntmps24
    go_wp2
    all_goals go_ret
    all_goals exact ⟨ret_bool (by simp [hne]), Below.refl _ _⟩
def markIs : Int → List Int → List Int
  | _, [] => []
  | k, _ :: xs => k :: markIs (k + 1) xs
theorem markIs_len : ∀ (xs : List Int) (k : Int), (markIs k xs).length = xs.length
  | [], _ => rfl
  | _ :: xs, k => by simp [markIs, markIs_len xs]
theorem markIs_at : ∀ (xs : List Int) (k : Int) (j : Nat) , j < xs.length → (markIs k xs)[j]? = some (k + j)
  | [], _, _, h => by simp at h
  | q :: xs, k, 0, h => by simp [markIs]
  | q :: xs, k, j + 1, h => by
    rw [markIs, List.getElem?_cons_succ, markIs_at xs _ j (by simpa using h), show k + 1 + (j : Int) = k + ((j + 1 : Nat) : Int) by omega]
theorem markIs_step (xs : List Int) (k : Int) (j : Nat) (h : j < xs.length) : ((markIs k xs).take j ++ xs.drop j).set j (k + j) = (markIs k xs).take (j + 1) ++ xs.drop (j + 1) := by
  have hl := markIs_len xs k
  rw [List.set_append_right _ _ (by simp; omega), show j - ((markIs k xs).take j).length = 0 by simp; omega, List.drop_eq_getElem_cons h, List.set_cons_zero, List.take_add_one, markIs_at xs k j h]
  simp
theorem Row.setInt {w w' : World} {b o k : Nat} {xs : List Int} {x : Int} (h : Row w (some ⟨b, o, none⟩) (ints xs)) (hk : k < xs.length) (hw : Wrote w w' b (o + k) [.int .i64 x]) : Row w' (some ⟨b, o, none⟩) (ints (xs.set k x)) := by
  rw [ints_set]
  exact hw.row h (by rw [ints_len]; simp; omega)
theorem laws_markIntS (A : Option Addr) (n c : Nat) (xs : List Int) (k : Int) (w : World) (hn : n = xs.length) (hl : n < 1000000000000) (h0 : 0 ≤ k) (h1 : k < 1000000000000000) (hR : Row w A (ints xs)) :
    Calls Try.prog 25 #[.slice A n c, .int .i64 k] w fun e w' => e = .returned (.int .i64 (k + n)) ∧ Row w' A (ints (markIs k xs)) ∧ Agr (blk A) w w' := by
  have HN := Lib.hid hn
  clear hn
  go_enter Try.func25, Try.ntmps25
  go_wp2
  go_loopw [1, 5] (fun q i wr => ∃ (j : Nat), j ≤ n ∧ i = .int .i64 j ∧ q = .int .i64 (k + j) ∧ Row wr A (ints ((markIs k xs).take j ++ xs.drop j)) ∧ Agr (blk A) w wr) (fun _ i _ => n - (intOf i).toNat)
  case atStart => exact ⟨0, by omega, rfl, by simp, by simpa using hR, Agr.refl _ _⟩
  case round =>
    obtain ⟨j, hj, rfl, rfl, hr, hA⟩ := hrel
    have hml := Lib.hid (markIs_len xs k)
    by_cases hlt : j < n
    · have hlx := Lib.hid (show j < xs.length by have := HN.out; omega)
      obtain ⟨b, o, rfl⟩ := hR.addr (ints_ne (by rintro rfl; have := hlx.out; simp at this))
      obtain ⟨q, hq⟩ := get_some (l := (markIs k xs).take j ++ xs.drop j) (k := j) (by have := hml.out; have := hlx.out; simp; omega)
      obtain ⟨c0, f0⟩ := hr.int_ hq
      have hW := wrote_one c0 (.int .i64 (k + j))
      have hr2 := hr.setInt (k := j) (x := k + j) (by have := hml.out; have := hlx.out; simp; omega) hW
      rw [markIs_step xs k j hlx.out] at hr2
      have hA2 := hA.trans hW.agr (fun _ _ e => by rw [e]; exact blk_some.2 rfl)
      have hj1 : (j : Int) < n := by omega
      clear hW hq
      go_wp2
      go_roundw
      case rel => exact ⟨j + 1, by omega, by go_num, by congr 1; omega, hr2, hA2⟩
      case measure => simp [intOf]; omega
    · obtain rfl : j = n := by omega
      go_wp2
      go_ret
      rw [List.take_of_length_le (by rw [hml.out, HN.out]; exact Nat.le_refl _), List.drop_of_length_le (by rw [HN.out]; exact Nat.le_refl _), List.append_nil] at hr
      exact ⟨rfl, hr, hA⟩
theorem laws_heldIntS (A : Option Addr) (n c : Nat) (xs : List Int) (k : Int) (w : World) (hn : n = xs.length) (hl : n < 1000000000000) (h0 : 0 ≤ k) (h1 : k < 1000000000000000) (hR : Row w A (ints (markIs k xs))) :
    Calls Try.prog 26 #[.slice A n c, .int .i64 k] w fun e w' => e = .returned (.int .i64 (k + n)) ∧ w = w' := by
  have HN := Lib.hid hn
  clear hn
  go_enter Try.func26, Try.ntmps26
  go_wp2
  go_loop [1, 5] (fun q i => ∃ (j : Nat), j ≤ n ∧ i = .int .i64 j ∧ q = .int .i64 (k + j)) (fun _ i => n - (intOf i).toNat)
  case atStart => exact ⟨0, by omega, rfl, by simp⟩
  case round =>
    obtain ⟨j, hj, rfl, rfl⟩ := hrel
    by_cases hlt : j < n
    · have hq := markIs_at xs k j (by have := HN.out; omega)
      obtain ⟨b, o, rfl⟩ := hR.addr (ints_ne (by intro e; rw [e] at hq; simp at hq))
      obtain ⟨c0, f0⟩ := hR.int_ hq
      have hj1 : (j : Int) < n := by omega
      clear hq
      go_wp2
      go_round
      case rel => exact ⟨j + 1, by omega, by go_num, by congr 1; omega⟩
      case measure => simp [intOf]; omega
    · obtain rfl : j = n := by omega
      go_wp2
      go_ret
      exact ⟨rfl, rfl⟩
theorem Fl.drew {w : World} {A : Option Addr} {f : List Bk} (h : Fl w A f) : Fl w.drew A f := by obtain ⟨hs, h⟩ := h; exact ⟨hs, h.drew⟩
theorem laws_eqStore (A A' D D' : Option Addr) (n n' m m' c c' d d' : Nat) (f g : List Bk) (xs ys : List Int) (w : World) (hn : n = f.length) (hn' : n' = g.length) (hm : m = xs.length) (hm' : m' = ys.length) (hl : f.length < 1000000000000) (hl' : g.length < 1000000000000) (hp : ∀ b ∈ f, b.pages.length < 1000000000000) (hp' : ∀ b ∈ g, b.pages.length < 1000000000000)
    (hx : xs.length < 1000000000000) (hy : ys.length < 1000000000000) (hF : Fl w A f) (hF' : Fl w A' g) (hR : Row w D (ints xs)) (hR' : Row w D' (ints ys)) :
    Calls Try.prog 13 #[.agg #[.slice A n c, .slice D m d], .agg #[.slice A' n' c', .slice D' m' d']] w fun e w' => e = .returned (.bool (decide (f = g) && decide (xs = ys))) ∧ Below w.heap.size w w' := by
  subst hn; subst hn'; subst hm; subst hm'
  have HP := Lib.hid hp
  have HP' := Lib.hid hp'
  clear hp hp'
  go_enter Try.func13, Try.ntmps13
  go_wp2_with fail
  refine (laws_eqBlockS A A' c c' f g _ hl hl' HP.out HP'.out ((hF.alloc _).alloc _) ((hF'.alloc _).alloc _)).mono ?_
  rintro e w1 ⟨rfl, hb⟩
  obtain ⟨hc, hf⟩ := bcell hb
  have hz : w.heap.size + 1 + 1 ≤ w1.heap.size := by have := hb.size; simpa using this
  have hB : Below w.heap.size w w1 := Below.trans (by (repeat (first | (with_reducible exact Below.refl _ _) | (with_reducible exact hB) | (refine Below.setCell ?_ (by simp <;> omega) _) | (refine Below.alloc ?_ (by simp <;> omega) _) | (refine Below.drew ?_)))) (hb.mono (by simp; omega))
  clear hb
  by_cases h1 : f = g
  · rw [show decide (f = g) = true from by simp [h1]]
    go_wp2_with fail
    refine (laws_eqIntS D D' d d' xs ys _ hx hy (hR.below hB (Nat.le_refl _)) (hR'.below hB (Nat.le_refl _))).mono ?_
    rintro e w2 ⟨rfl, hb2⟩
    by_cases h2 : xs = ys
    · rw [show decide (xs = ys) = true from by simp [h2]]
      go_wp2
      go_ret
      exact ⟨ret_bool (by simp [h1, h2]), hB.trans (hb2.mono (by omega))⟩
    · rw [show decide (xs = ys) = false from by simp [h2]]
      go_wp2
      go_ret
      exact ⟨ret_bool (by simp [h2]), hB.trans (hb2.mono (by omega))⟩
  · rw [show decide (f = g) = false from by simp [h1]]
    go_wp2
    go_ret
    exact ⟨ret_bool (by simp [h1]), hB⟩
theorem laws_markStore (A D : Option Addr) (n m c d : Nat) (f : List Bk) (xs : List Int) (k : Int) (lo hi : Nat) (w : World) (hn : n = f.length) (hm : m = xs.length) (hl : f.length < 1000000000000) (hp : ∀ b ∈ f, b.pages.length < 1000000000000) (hx : xs.length < 1000000000000) (h0 : 0 ≤ k) (h1 : endFl k f + m < 1000000000000000) (hlh : hi ≤ w.heap.size) (hO : OSt w lo hi A f D xs) :
    Calls Try.prog 14 #[.agg #[.slice A n c, .slice D m d], .int .i64 k] w fun e w' => e = .returned (.int .i64 (endFl k f + m)) ∧ OSt w' lo hi A (markFl k f) D (markIs (endFl k f) xs) ∧ Agr (fun b => lo ≤ b ∧ b < hi) w w' := by
  subst hn; subst hm
  have HP := Lib.hid hp
  have hO1 := hO.below (B := w.heap.size) ((Below.refl _ _).alloc (Nat.le_refl _) (.cells #[.slice A f.length c, .slice D xs.length d] 29)) (Nat.le_refl _)
  obtain ⟨hs, hBk, hApt, hR, hd⟩ := hO1
  have HD := Lib.hid hd
  have hge := endFl_ge f k
  clear hp hO hd
  go_enter Try.func14, Try.ntmps14
  go_wp2_with fail
  refine (laws_markBlockS' A _ c f hs k lo hi _ rfl hl HP.out h0 (by omega) hBk hApt).mono ?_
  rintro e w1 ⟨rfl, hBk1, hA1⟩
  have hAA : Agr (fun b => lo ≤ b ∧ b < hi) w w1 := ((Agr.refl _ w).alloc _).trans hA1 (fun b hl hS => by
    rcases hS with h | ⟨i, x, hx, h⟩
    · exact hApt.top b h
    · have := hApt.in_ i x b hx h; exact ⟨this.1, this.2.1⟩)
  have hcc : ∀ i, w1.cell? ⟨w.heap.size, i, none⟩ = (w.alloc (.cells #[.slice A f.length c, .slice D xs.length d] 29)).cell? ⟨w.heap.size, i, none⟩ := fun i => hA1.cell (by simp) (fun hS => by
    rcases hS with h | ⟨i, x, hx, h⟩
    · have := hApt.top _ h; omega
    · have := hApt.in_ i x _ hx h; omega) i
  have hc1 : w1.cell? ⟨w.heap.size, 1, none⟩ = some (.slice D xs.length d) := (hcc 1).trans (by simp)
  have hR1 := hR.agr hA1 (fun b hb hS => by
    rcases hS with h | ⟨i, x, hx, h⟩
    · exact (HD.out b hb).2.2.1 h
    · exact (HD.out b hb).2.2.2 i x hx h)
  have hg0 : 0 ≤ endFl k f := by omega
  clear hA1 hcc
  go_wp2_with fail
  refine (laws_markIntS D _ d xs _ _ rfl (by omega) (by omega) (by omega) hR1).mono ?_
  rintro e w2 ⟨rfl, hR2, hA2⟩
  go_wp2
  go_ret
  refine ⟨rfl, ⟨hs, hBk1.keep fun b hb hl => hA2.block b hl fun hd => ?_, hApt, hR2, HD.out⟩, hAA.trans hA2 fun b hl hd => ⟨(HD.out b hd).1, (HD.out b hd).2.1⟩⟩
  rcases hb with hb | ⟨x, hx, hb⟩
  · exact (HD.out b hd).2.2.1 hb
  · obtain ⟨i, hi'⟩ := List.getElem?_of_mem hx
    exact (HD.out b hd).2.2.2 i x hi' hb
theorem laws_heldStore (A D : Option Addr) (n m c d : Nat) (f : List Bk) (xs : List Int) (k : Int) (lo hi : Nat) (w : World) (hn : n = f.length) (hm : m = xs.length) (hl : f.length < 1000000000000) (hp : ∀ b ∈ f, b.pages.length < 1000000000000) (hx : xs.length < 1000000000000) (h0 : 0 ≤ k) (h1 : endFl k f + m < 1000000000000000) (hO : OSt w lo hi A (markFl k f) D (markIs (endFl k f) xs)) :
    Calls Try.prog 15 #[.agg #[.slice A n c, .slice D m d], .int .i64 k] w fun e w' => e = .returned (.int .i64 (endFl k f + m)) ∧ Below w.heap.size w w' := by
  subst hn; subst hm
  have HP := Lib.hid hp
  have hO1 := hO.below (B := w.heap.size) ((Below.refl _ _).alloc (Nat.le_refl _) (.cells #[.slice A f.length c, .slice D xs.length d] 29)) (Nat.le_refl _)
  have hge := endFl_ge f k
  clear hp hO
  go_enter Try.func15, Try.ntmps15
  go_wp2_with fail
  refine (laws_heldBlockS A _ c f k _ rfl (by omega) HP.out h0 (by omega) hO1.ofl.fl).mono ?_
  rintro e w1 ⟨rfl, rfl⟩
  have hg0 : 0 ≤ endFl k f := by omega
  go_wp2_with fail
  refine (laws_heldIntS D _ d xs _ _ rfl (by omega) (by omega) (by omega) hO1.disk).mono ?_
  rintro e w2 ⟨rfl, rfl⟩
  have hg1 : 0 ≤ endFl k f + xs.length := by omega
  go_wp2
  go_ret
  exact ⟨rfl, by (repeat (first | (with_reducible exact Below.refl _ _) | (with_reducible exact hB) | (refine Below.setCell ?_ (by simp <;> omega) _) | (refine Below.alloc ?_ (by simp <;> omega) _) | (refine Below.drew ?_)))⟩
end Go.Proofs.Ytlkoadbanfjlaaa
