/- A statement's own blocks, read out of its arguments. -/
import Derived.Test.YtlkoadbanfjlaaaProg
import Derived.Test.YtlkoadbanfjlaaaR
import Derived.Deep.Slices
import Derived.ChangeArms
import Derived.ProofKit
namespace Go.Proofs.Ytlkoadbanfjlaaa
set_option linter.unusedVariables false
set_option linter.unusedSimpArgs false
open Go.RowKit Go.ChangeShapes Go.WideShapes Go.Deep
set_option maxRecDepth 100000
instance : Inhabited Pg := ⟨⟨0, rc0⟩⟩
section
variable {H : Type} {enc : TypeId × Value → H} {w : World} {base fuel : Nat} {spare : Nat → Bool} {held : Bool}
theorem plain_addr {w : World} {a : Addr} {u : Value} (h : w.cell? a = some u) : ∃ b o, a = ⟨b, o, none⟩ := by
  obtain ⟨b, o, s⟩ := a
  cases s with
  | none => exact ⟨b, o, rfl⟩
  | some s =>
    have : w.cell? ⟨b, o, some s⟩ = none := by
      unfold World.cell?
      split
      · exact if_pos rfl
      · rfl
    rw [this] at h; cases h
theorem cellsOf_int : Try.prog.cellsOf 3 = 1 := by kernel_rfl
theorem cellsOf_lrec : Try.prog.cellsOf 76 = 4 := by kernel_rfl
theorem cellsOf_lpage : Try.prog.cellsOf 78 = 5 := by kernel_rfl
theorem cellsOf_lpages : Try.prog.cellsOf 52 = 1 := by kernel_rfl
theorem cellsOf_lblock : Try.prog.cellsOf 54 = 2 := by kernel_rfl
theorem rec_of {cs : List Value} {x : DataW H × List MemPlace} (h : DataW.trod enc Try.prog w base spare held fuel 76 cs = some x) : ∃ r : Rc, cs = r.vs := by
  obtain ⟨xs, n, _, _, hl, hx, hf⟩ := DataW.trod_struct Try.underlying76 h
  rw [cellsOf_lrec] at hl
  match cs, hl with
  | [c0, c1, c2, c3], _ =>
    match xs, hx with
    | [y0, y1, y2, y3], _ =>
      have h0 := hf 0 _ rfl
      have h1 := hf 1 _ rfl
      have h2 := hf 2 _ rfl
      have h3 := hf 3 _ rfl
      simp [cellsOf_int] at h0 h1 h2 h3
      obtain ⟨a, e0, _⟩ := DataW.trod_int Try.underlying3 h0
      obtain ⟨b, e1, _⟩ := DataW.trod_int Try.underlying3 h1
      obtain ⟨c, e2, _⟩ := DataW.trod_int Try.underlying3 h2
      obtain ⟨d, e3, _⟩ := DataW.trod_int Try.underlying3 h3
      simp at e0 e1 e2 e3
      subst e0; subst e1; subst e2; subst e3
      exact ⟨⟨a, b, c, d⟩, rfl⟩
theorem page_of {cs : List Value} {x : DataW H × List MemPlace} (h : DataW.trod enc Try.prog w base spare held fuel 78 cs = some x) : ∃ p : Pg, cs = p.vs := by
  obtain ⟨xs, n, _, _, hl, hx, hf⟩ := DataW.trod_struct Try.underlying78 h
  rw [cellsOf_lpage] at hl
  match cs, hl with
  | [c0, c1, c2, c3, c4], _ =>
    match xs, hx with
    | [y0, y1], _ =>
      have h0 := hf 0 _ rfl
      have h1 := hf 1 _ rfl
      simp [cellsOf_int] at h0
      simp [cellsOf_lrec] at h1
      obtain ⟨a, e0, _⟩ := DataW.trod_int Try.underlying3 h0
      obtain ⟨r, e1⟩ := rec_of h1
      simp [Rc.vs] at e0 e1
      obtain ⟨rfl, rfl, rfl, rfl⟩ := e1
      subst e0
      exact ⟨⟨a, r⟩, rfl⟩
/-- a row of elements of m cells each, read one by one, is a row of a list -/
theorem rrow_of {α : Type} [Inhabited α] (g : α → List Value) (m : Nat) (hg : ∀ x, (g x).length = m) (hm : 0 < m) {a : Addr} {n : Nat} (h : ∀ i, i < n → ∃ x : α, ∀ j u, (g x)[j]? = some u → w.cell? (a.add (i * m + j)) = some u) :
    ∃ l : List α, l.length = n ∧ RRow w (some a) (l.flatMap g) := by
  refine ⟨(List.range n).map fun i => if hi : i < n then Classical.choose (h i hi) else default, by simp, fun hne => ?_⟩
  have hn : 0 < n := by
    rcases Nat.eq_zero_or_pos n with rfl | hn
    · simp at hne
    · exact hn
  obtain ⟨x, hx⟩ := h 0 hn
  obtain ⟨u, hu⟩ := get_some (l := g x) (k := 0) (by rw [hg]; exact hm)
  obtain ⟨b, o, rfl⟩ := plain_addr (a := a) (u := u) (by simpa [Addr.add] using hx 0 u hu)
  refine ⟨b, o, rfl, fun j u hj => ?_⟩
  have hjl := (List.getElem?_eq_some_iff.1 hj).1
  rw [flat_len g m hg] at hjl
  simp at hjl
  have hi : j / m < n := Nat.div_lt_of_lt_mul (by rw [Nat.mul_comm]; exact hjl)
  have hd : j = j / m * m + j % m := by rw [Nat.mul_comm]; exact (Nat.div_add_mod j m).symm
  have hr : j % m < m := Nat.mod_lt _ hm
  have key := flat_get g m hg ((List.range n).map fun i => if hi : i < n then Classical.choose (h i hi) else default) (j / m) (j % m) (Classical.choose (h (j / m) hi)) (by rw [List.getElem?_map, List.getElem?_range hi]; simp [hi]) hr
  rw [← hd, hj] at key
  have := Classical.choose_spec (h (j / m) hi) (j % m) u key.symm
  rw [← hd, addr_add] at this
  exact this
theorem pages_of {cs : List Value} {x : DataW H × List MemPlace} (h : DataW.trod enc Try.prog w base spare held fuel 52 cs = some x) : ∃ A c ps, cs = [.slice A (List.length ps) c] ∧ List.length ps ≤ maxLen ∧ RRow w A (pgs ps) := by
  rcases open_slice Try.underlying52 h with ⟨rfl, _⟩ | ⟨a, len, cap, m, n, D, Pl, rfl, _, hlc, hcm, hm, _, hi⟩
  · exact ⟨none, 0, [], rfl, Nat.zero_le _, fun h => absurd rfl h⟩
  · have hlm : len ≤ m := by rw [hm]; split <;> omega
    obtain ⟨ps, hps, hr⟩ := rrow_of (α := Pg) (w := w) (a := a) (n := len) Pg.vs 5 (fun _ => rfl) (by omega) (fun i hlt => by
      obtain ⟨cs', hc, ht⟩ := hi i (by omega)
      obtain ⟨p, rfl⟩ := page_of ht
      obtain ⟨_, hl, hcell⟩ := World.cells?_some hc
      refine ⟨p, fun j u hj => ?_⟩
      have hj5 : j < 5 := (List.getElem?_eq_some_iff.1 hj).1
      have := hcell j (by rw [cellsOf_lpage]; exact hj5)
      rw [cellsOf_lpage] at this
      rw [← Go.Deep.add_add, this, hj])
    exact ⟨some a, cap, ps, by rw [hps], by omega, hr⟩
theorem block_of {cs : List Value} {x : DataW H × List MemPlace} (h : DataW.trod enc Try.prog w base spare held fuel 54 cs = some x) : ∃ (b : Bk) (y : Option Addr × Nat), cs = [.slice y.1 b.pages.length y.2, .int .i64 b.worn] ∧ b.pages.length ≤ maxLen ∧ RRow w y.1 (pgs b.pages) := by
  obtain ⟨xs, n, _, _, hl, hx, hf⟩ := DataW.trod_struct Try.underlying54 h
  rw [cellsOf_lblock] at hl
  match cs, hl with
  | [c0, c1], _ =>
    match xs, hx with
    | [y0, y1], _ =>
      have h0 := hf 0 _ rfl
      have h1 := hf 1 _ rfl
      simp [cellsOf_lpages] at h0
      simp [cellsOf_int] at h1
      obtain ⟨A, c, ps, e0, hml, hr⟩ := pages_of h0
      obtain ⟨n, e1, _⟩ := DataW.trod_int Try.underlying3 h1
      simp at e0 e1
      subst e0; subst e1
      exact ⟨⟨ps, n⟩, (A, c), rfl, hml, hr⟩
theorem blocks_of {cs : List Value} {x : DataW H × List MemPlace} (h : DataW.trod enc Try.prog w base spare held fuel 33 cs = some x) : ∃ A c f hs, cs = [.slice A (List.length f) c] ∧ List.length f ≤ maxLen ∧ (∀ b ∈ f, b.pages.length ≤ maxLen) ∧ RBks w A f hs := by
  rcases open_slice Try.underlying33 h with ⟨rfl, _⟩ | ⟨a, len, cap, m, n, D, Pl, rfl, _, hlc, hcm, hm, _, hi⟩
  · exact ⟨none, 0, [], [], rfl, Nat.zero_le _, by simp, ⟨rfl, fun h => absurd rfl h, fun _ _ _ h _ => absurd h (by simp)⟩⟩
  · have hlm : len ≤ m := by rw [hm]; split <;> omega
    have key : ∀ i, i < len → ∃ z : Bk × (Option Addr × Nat), (∀ j u, ([.slice z.2.1 z.1.pages.length z.2.2, .int .i64 z.1.worn] : List Value)[j]? = some u → w.cell? (a.add (i * 2 + j)) = some u) ∧ z.1.pages.length ≤ maxLen ∧ RRow w z.2.1 (pgs z.1.pages) := fun i hlt => by
      obtain ⟨cs', hc, ht⟩ := hi i (by omega)
      obtain ⟨b, y, rfl, hml, hr⟩ := block_of ht
      obtain ⟨_, hl, hcell⟩ := World.cells?_some hc
      refine ⟨(b, y), fun j u hj => ?_, hml, hr⟩
      have hj2 : j < 2 := (List.getElem?_eq_some_iff.1 hj).1
      have := hcell j (by rw [cellsOf_lblock]; exact hj2)
      rw [cellsOf_lblock] at this
      rw [← Go.Deep.add_add, this, hj]
    let Z : Nat → Bk × (Option Addr × Nat) := fun i => if hi : i < len then Classical.choose (key i hi) else (⟨[], 0⟩, (none, 0))
    have hZ : ∀ i, i < len → (∀ j u, ([.slice (Z i).2.1 (Z i).1.pages.length (Z i).2.2, .int .i64 (Z i).1.worn] : List Value)[j]? = some u → w.cell? (a.add (i * 2 + j)) = some u) ∧ (Z i).1.pages.length ≤ maxLen ∧ RRow w (Z i).2.1 (pgs (Z i).1.pages) := fun i hlt => by
      simp only [Z, dif_pos hlt]; exact Classical.choose_spec (key i hlt)
    refine ⟨some a, cap, (List.range len).map fun i => (Z i).1, (List.range len).map fun i => (Z i).2, by simp, by simp; omega, fun b hb => by
      obtain ⟨i, hi, rfl⟩ := List.mem_map.1 hb
      exact (hZ i (List.mem_range.1 hi)).2.1, ⟨by simp, fun hne => ?_, fun i b y hb hy => ?_⟩⟩
    · have e : ∀ l : List Nat, hdrs (l.map fun i => (Z i).1) (l.map fun i => (Z i).2) = l.flatMap fun i => [.slice (Z i).2.1 (Z i).1.pages.length (Z i).2.2, .int .i64 (Z i).1.worn] := by
        intro l
        induction l with
        | nil => rfl
        | cons x l ih => simp only [List.map_cons, hdrs, List.flatMap_cons, ih]; rfl
      rw [e] at hne ⊢
      have hn : 0 < len := by
        rcases Nat.eq_zero_or_pos len with h0 | h0
        · rw [h0] at hne; simp at hne
        · exact h0
      obtain ⟨b, o, rfl⟩ := plain_addr (a := a) (by simpa [Addr.add] using (hZ 0 hn).1 0 _ rfl)
      refine ⟨b, o, rfl, fun j u hj => ?_⟩
      have hjl := (List.getElem?_eq_some_iff.1 hj).1
      rw [flat_len _ 2 (fun _ => rfl)] at hjl
      simp at hjl
      have hi : j / 2 < len := by omega
      have hd : j = j / 2 * 2 + j % 2 := by omega
      have hf := flat_get (fun i => [Value.slice (Z i).2.1 (Z i).1.pages.length (Z i).2.2, .int .i64 (Z i).1.worn]) 2 (fun _ => rfl) (List.range len) (j / 2) (j % 2) (j / 2) (List.getElem?_range hi) (by omega)
      rw [← hd, hj] at hf
      have := (hZ _ hi).1 (j % 2) u hf.symm
      rw [← hd, addr_add] at this
      exact this
    · rw [List.getElem?_map] at hb hy
      have hi : i < len := by
        rcases Nat.lt_or_ge i len with h0 | h0
        · exact h0
        · rw [List.getElem?_eq_none (by simpa using h0)] at hb; cases hb
      rw [List.getElem?_range hi] at hb hy
      cases hb; cases hy
      exact (hZ i hi).2.2
end
end Go.Proofs.Ytlkoadbanfjlaaa
