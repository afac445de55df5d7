/- Walks: more that the laws over plays share: a store in a box that is put anew, a part of the events. -/
import Derived.Test.YtbekihiiildgmaaZ7
namespace Go.Proofs.Ytbekihiiildgmaa
set_option linter.unusedVariables false
set_option linter.unusedSimpArgs false
open Go.RowKit Go.Maps
set_option maxHeartbeats 400000
theorem impl_PlayRun_n {es : List Ev} (h : es.length ≤ 60) (V : Option Addr) (n cs : Nat) (hn : n = es.length) (w : World) (hX : Row w V (evs es)) : Calls Try.prog 34 #[.slice V n cs] w (RunP (doRun es) w) := by
  subst hn; exact impl_PlayRun_ok h V cs w hX
theorem impl_PlayRun_big {es : List Ev} (h : 60 < es.length) (hl : es.length < 1000000000000) (V : Option Addr) (n cs : Nat) (hn : n = es.length) (w : World) (hX : Row w V (evs es)) : Calls Try.prog 34 #[.slice V n cs] w (NoP w) := by
  subst hn; exact impl_PlayRun_no h hl V cs w hX
theorem Row.part {w : World} {V : Option Addr} {xs ys : List Value} (h : Row w V (xs ++ ys)) : Row w V xs := fun hn => by
  obtain ⟨b, o, hV, hc⟩ := h (by intro e; exact hn (List.append_eq_nil_iff.1 e).1)
  refine ⟨b, o, hV, fun j u hj => hc j u ?_⟩
  rw [List.getElem?_append_left (List.getElem?_eq_some_iff.1 hj).1]; exact hj
theorem Row.evs_take {w : World} {V : Option Addr} {es : List Ev} (h : Row w V (evs es)) (q : Nat) : Row w V (evs (es.take q)) := by
  refine Row.part (ys := evs (es.drop q)) ?_
  have : evs (es.take q) ++ evs (es.drop q) = evs es := by unfold evs; rw [← List.flatMap_append, List.take_append_drop]
  rw [this]; exact h
/-- 'append(dst, src...)' of events, however many there are -/
theorem wpList_evs_any {ops : Array Oper} {rest : List Oper} {o : Oper} {a : Act} {Q : Exit → Act → World → Prop} {w : World} (hgd : o.guard = none) (s x : Operand)
    (ho : o.op = .call { callee := .builtin .append, args := #[s, x], argTypes := #[52, 52] }) (base : Nat) (v : Value) (ys xs : List Ev) (hs : a.eval s = v) (hO : OwnE w base v ys)
    (V : Option Addr) (m n c : Nat) (hx : a.eval x = .slice V m c) (hm : m = xs.length) (hn : n = ys.length + m) (hR : Row w V (evs xs)) (h63 : n ≤ 1000000) (hbase : base ≤ w.heap.size)
    (h : ∀ A cap w', OwnE w' base (.slice A n cap) (ys ++ xs) → Below base w w' → wpList Try.prog ops Q rest (a.put o.dst (.slice A n cap)) w') : wpList Try.prog ops Q (o :: rest) a w := by
  obtain ⟨ib, hib, hbz0, hbz1, hbz2⟩ := info_parts Try.info3_event
  by_cases h0 : xs = []
  · subst h0
    simp only [List.length_nil] at hm
    subst hm
    obtain ⟨A, cv, rfl, _, _, hcv⟩ := hO.out
    rw [Nat.add_zero] at hn
    subst hn
    rw [List.append_nil] at h
    exact wpList_append_zero hgd s x _ _ ho ib A V ys.length cv c Try.underlying52 hib hs hx hcv (h A cv w hO (Below.refl _ _))
  · have hlen : 0 < xs.length := List.length_pos_iff.2 h0
    obtain ⟨b, p, rfl⟩ := hR.addr (by intro e; have h1 := evs_len xs; rw [e] at h1; simp at h1; omega)
    exact wpList_evs hgd s x ho base v ys xs hs hO b p m n c hx hm hn hR (by omega) h63 hbase (fun g cap w' h1 h2 => h (some ⟨g, 0, none⟩) cap w' h1 h2)
/-- event k was made whole: two cells written -/
theorem Row.wholeAt {w w' : World} {b o k : Nat} {es : List Ev} {x : Ev} (h : Row w (some ⟨b, o, none⟩) (evs (wholeTo es k))) (hx : es[k]? = some x) (hW : Wrote w w' b (o + (k * 5 + 3)) [.int .i64 60, .bool false]) : Row w' (some ⟨b, o, none⟩) (evs (wholeTo es (k + 1))) := by
  have hl := (List.getElem?_eq_some_iff.1 hx).1
  rw [← wholeTo_set hx, evs_whole (wholeTo_get hx)]
  refine Wrote.row (w := w) hW h ?_
  rw [evs_len, wholeTo_len]
  simp
  omega
theorem wholeTo_get' {es : List Ev} {k : Nat} {x : Ev} (h : es[k]? = some x) : (wholeTo es (k + 1))[k]? = some (wholeEv x) := by
  have hl := (List.getElem?_eq_some_iff.1 h).1
  rw [← wholeTo_set h, List.getElem?_set_self (by rw [wholeTo_len]; exact hl)]
theorem Row.evf {w : World} {b o k : Nat} {xs : List Ev} {x : Ev} (h : Row w (some ⟨b, o, none⟩) (evs xs)) (hk : xs[k]? = some x) : w.frozen? ⟨b, o + k * 5 + 3, none⟩ = false ∧ w.frozen? ⟨b, o + k * 5 + 4, none⟩ = false := by
  have hlt := (List.getElem?_eq_some_iff.1 hk).1
  obtain ⟨b', o', he, hc⟩ := h (by intro e; have := evs_len xs; rw [e] at this; simp at this; omega)
  cases he
  have hg : ∀ j u, x.vs[j]? = some u → j < 5 → w.frozen? ⟨b, o + (k * 5 + j), none⟩ = false := fun j u hj hl => (hc (k * 5 + j) u (by rw [evs, flat_get _ 5 (fun _ => rfl) xs k j x hk hl]; exact hj)).2
  exact ⟨hg 3 _ rfl (by omega), hg 4 _ rfl (by omega)⟩
/-- event k in memory is made whole: what its five cells are, and all that stays -/
theorem whole_step {w : World} {b o k : Nat} {es : List Ev} {x : Ev} (h : Row w (some ⟨b, o, none⟩) (evs (wholeTo es k))) (hx : es[k]? = some x) :
    Row ((w.setCell ⟨b, o + k * 5 + 3, none⟩ (.int .i64 60)).setCell ⟨b, o + k * 5 + 4, none⟩ (.bool false)) (some ⟨b, o, none⟩) (evs (wholeTo es (k + 1))) ∧ Agr (· = b) w ((w.setCell ⟨b, o + k * 5 + 3, none⟩ (.int .i64 60)).setCell ⟨b, o + k * 5 + 4, none⟩ (.bool false)) ∧
    (w.cell? ⟨b, o + k * 5 + 3, none⟩ = some (.int .i64 x.c) ∧ w.frozen? ⟨b, o + k * 5 + 3, none⟩ = false ∧ (w.setCell ⟨b, o + k * 5 + 3, none⟩ (.int .i64 60)).cell? ⟨b, o + k * 5 + 4, none⟩ = some (.bool x.torn) ∧ (w.setCell ⟨b, o + k * 5 + 3, none⟩ (.int .i64 60)).frozen? ⟨b, o + k * 5 + 4, none⟩ = false) := by
  obtain ⟨c0, c1, c2, c3, c4⟩ := h.ev (wholeTo_get hx)
  obtain ⟨f3, f4⟩ := h.evf (wholeTo_get hx)
  have h1 : Wrote w (w.setCell ⟨b, o + k * 5 + 3, none⟩ (.int .i64 60)) b (o + k * 5 + 3) [.int .i64 60] := wrote_one c3 _
  have hW : Wrote w ((w.setCell ⟨b, o + k * 5 + 3, none⟩ (.int .i64 60)).setCell ⟨b, o + k * 5 + 4, none⟩ (.bool false)) b (o + k * 5 + 3) [.int .i64 60, .bool false] := wrote_setRow b [.int .i64 60, .bool false] (o + k * 5 + 3) w (fun j hj => by
    match j, hj with
    | 0, _ => exact ⟨_, c3⟩
    | 1, _ => exact ⟨_, c4⟩)
  refine ⟨h.wholeAt hx (by rw [show o + (k * 5 + 3) = o + k * 5 + 3 by omega]; exact hW), hW.agr, c3, f3, (h1.old_ _ (.inr (by simp))).trans c4, (h1.frozen _).trans f4⟩
/-- a store in a box that may be written -/
structure HeldF (W : World) (bx : Nat) (A D : Option Addr) (c d : Nat) (s : St) : Prop where
  held : Held W bx A D 4 c 6 d s
  f0 : W.frozen? ⟨bx, 0, none⟩ = false
  f1 : W.frozen? ⟨bx, 1, none⟩ = false
theorem HeldF.below {W X : World} {bx c d B : Nat} {A D : Option Addr} {s : St} (h : HeldF W bx A D c d s) (hb : Below B W X) (hB : W.heap.size ≤ B) : HeldF X bx A D c d s :=
  ⟨h.held.below hb hB, (hb.frozen (p := ⟨bx, 0, none⟩) (Nat.lt_of_lt_of_le (lt_of_cell h.held.x0) hB)).trans h.f0, (hb.frozen (p := ⟨bx, 1, none⟩) (Nat.lt_of_lt_of_le (lt_of_cell h.held.x1) hB)).trans h.f1⟩
theorem HeldF.drew {W : World} {bx c d : Nat} {A D : Option Addr} {s : St} (h : HeldF W bx A D c d s) : HeldF W.drew bx A D c d s := ⟨h.held.drew, h.f0, h.f1⟩
theorem HeldF.new {w : World} {t : St} (ht : Okay t) {A D : Option Addr} (c d : Nat) (hF : Fl w A t.flash) (hD : Row w D (ints t.disk)) : HeldF (w.alloc (.cells #[.slice A 4 c, .slice D 6 d] 26)) w.heap.size A D c d t :=
  ⟨Held.ok ht c d hF hD, by simp, by simp⟩
theorem HeldF.put {W : World} {bx c d c' d' lo : Nat} {A D A' D' : Option Addr} {s t : St} (h : HeldF W bx A D c d s) (ht : Okay t) (hF : FlAt W lo A' t.flash) (hlo : bx < lo) (hD : Row W D' (ints t.disk)) (hd : ∀ b, blk D' b → lo ≤ b) :
    HeldF ((W.setCell ⟨bx, 0, none⟩ (.slice A' 4 c')).setCell ⟨bx, 1, none⟩ (.slice D' 6 d')) bx A' D' c' d' t := by
  have hW : Wrote W ((W.setCell ⟨bx, 0, none⟩ (.slice A' 4 c')).setCell ⟨bx, 1, none⟩ (.slice D' 6 d')) bx 0 [.slice A' 4 c', .slice D' 6 d'] := wrote_setRow bx [.slice A' 4 c', .slice D' 6 d'] 0 W (fun j hj => by
    match j, hj with
    | 0, _ => exact ⟨_, h.held.x0⟩
    | 1, _ => exact ⟨_, h.held.x1⟩)
  exact ⟨h.held.put (hF.mono (by omega)) hD (fun b hb => by have := hd b hb; omega) (flashOk_len ht.flash).symm ht.len.symm, (hW.frozen _).trans h.f0, (hW.frozen _).trans h.f1⟩
end Go.Proofs.Ytbekihiiildgmaa
