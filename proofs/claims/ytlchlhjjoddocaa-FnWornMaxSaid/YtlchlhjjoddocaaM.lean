/- Words: a map of whole numbers, and one of records, that the call makes. -/
import Derived.Test.YtlchlhjjoddocaaW
import Derived.Maps.OwnOps
import Derived.Maps.OwnSet
import Derived.Maps.Views
namespace Go.Proofs.Ytlchlhjjoddocaa
set_option linter.unusedVariables false
set_option linter.unusedSimpArgs false
open Go.RowKit Go.Maps
/-- block b is a map from int to int (types t, K, E) of at most n entries, that answers F -/
def IMap (P : Program) (K E : TypeId) (w : World) (b n : Nat) (F : Int → Int) : Prop :=
  ∃ D : DataW Unit, w.ownsMap P K (plainElem P E) b n D ∧ IsMap D ∧ ∀ k, (Lit.int .i64 k).wf = true → D.atKey (.int .i64 k) (.lit (.int .i64 0)) = .lit (.int .i64 (F k))
section
variable {P : Program} {t K E : TypeId} {w w' : World} {b n : Nat} {F : Int → Int}
theorem IMap.made (P : Program) (K E : TypeId) (w : World) : IMap P K E (w.alloc (.map #[] 0)) w.heap.size 0 (fun _ => 0) := ⟨_, World.ownsMap_made _ _ _ _, isMap_empty, fun k _ => rfl⟩
theorem IMap.mono (h : IMap P K E w b n F) {m : Nat} (hm : n ≤ m) : IMap P K E w b m F := by
  obtain ⟨D, h1, h2⟩ := h; exact ⟨D, h1.mono hm, h2⟩
theorem IMap.lt (h : IMap P K E w b n F) : b < w.heap.size := by obtain ⟨D, h1, _⟩ := h; exact h1.lt
theorem IMap.below {B : Nat} (h : IMap P K E w b n F) (hb : Below B w w') (hB : b < B) : IMap P K E w' b n F := by
  have hl := h.lt
  obtain ⟨D, ⟨es, clock, e, r⟩, h2⟩ := h
  exact ⟨D, ⟨es, clock, (hb.block b hB).trans e, r⟩, h2⟩
theorem IMap.alloc (h : IMap P K E w b n F) (o : Obj) : IMap P K E (w.alloc o) b n F := by
  obtain ⟨D, h1, h2⟩ := h; exact ⟨D, h1.alloc o, h2⟩
theorem IMap.setCell (h : IMap P K E w b n F) {a : Addr} (ha : b ≠ a.block) (u : Value) : IMap P K E (w.setCell a u) b n F := by
  obtain ⟨D, h1, h2⟩ := h; exact ⟨D, h1.setCell ha u, h2⟩
theorem IMap.look (h : IMap P K E w b n F) (ht : P.underlying t = some (.map K E)) (hK : P.underlying K = some (.int .i64)) (hE : P.underlying E = some (.int .i64)) (hz : ∀ w : World, (zeroValue E).run P w = .ok (.int .i64 0) w) {k : Int} (hk : (Lit.int .i64 k).wf = true) :
    (Instr.lookup t (.map (some b)) (.int .i64 k) false).run P w = .ok (.int .i64 (F k)) w := by
  obtain ⟨D, h1, _, h3⟩ := h
  obtain ⟨c, hrun, hat, _⟩ := h1.lookup_int (int_keyed hK) ht hE (hz w) (keyOf_int_mk hK hk)
  rw [h3 k hk] at hat
  rw [hrun]
  injection hat with e1; injection e1 with _ e2
  rw [e2]
theorem isKeyLit_int (k : Int) (hk : (Lit.int .i64 k).wf = true) : WideAt.IsKeyLit (.int .i64 k) := by
  simp [WideAt.IsKeyLit]
theorem IMap.put (h : IMap P K E w b n F) (ht : P.underlying t = some (.map K E)) (hK : P.underlying K = some (.int .i64)) (hE : P.underlying E = some (.int .i64)) (hn : n < maxLen) {k v : Int} (hk : (Lit.int .i64 k).wf = true) (hv : (Lit.int .i64 v).wf = true) :
    ∃ w', (Instr.mapUpdate t (.map (some b)) (.int .i64 k) (.int .i64 v)).run P w = .ok () w' ∧ IMap P K E w' b (n + 1) (fun x => if x = k then v else F x) ∧ w.grownBy w' (some b) := by
  obtain ⟨D, h1, h2, h3⟩ := h
  obtain ⟨w', hrun, g1, g2⟩ := h1.update (int_keyed hK) ht hn (keyOf_int_mk hK hk) (plainElem_int hE hv)
  refine ⟨w', hrun, ⟨_, g1, h2.put _ _, fun x hx => ?_⟩, g2⟩
  dsimp only
  by_cases e : x = k
  · subst e
    rw [if_pos rfl, atKey_put_same h2 (isKeyLit_int _ hk)]
  · rw [if_neg e, atKey_put_other (by intro e'; injection e' with _ e''; exact e e''), h3 x hx]
end
end Go.Proofs.Ytlchlhjjoddocaa
