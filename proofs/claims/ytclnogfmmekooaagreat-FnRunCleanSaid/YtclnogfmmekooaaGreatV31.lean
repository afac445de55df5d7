/- Part of the law's proof: its walk, or its row. -/
import Derived.Test.YtclnogfmmekooaaGreatZ1
import Derived.Test.YtclnogfmmekooaaGreatZ4
import Derived.Test.YtclnogfmmekooaaGreatZ6
import Derived.Test.YtclnogfmmekooaaGreatZ9
import Derived.Deep.RegionHeld3
set_option linter.unusedVariables false
set_option linter.unusedSimpArgs false
set_option maxHeartbeats 16000000
set_option maxRecDepth 100000
namespace Go.Proofs.YtclnogfmmekooaaGreat
section
open Go.RowKit Go.Maps
theorem zmb {f : List Bk} (h : Even f) : Js f = 0 := by
 refine Qm f (fun b hb => ?_) 0
 unfold tornN
 rw [List.countP_eq_zero]
 intro p hp
 simpa using h.whole b hb p hp
theorem zhg {f : List Bk} (hok : zc f = true) (h : Even f) : wHi f - wLo f ≤ 1 := by
 obtain ⟨x, hx, ex⟩ := zo0 hok
 obtain ⟨y, hy, ey⟩ := zoz hok
 have := h.near y hy x hx
 omega
def Xg (e : Ev) : Ev := { e with torn := false }
def utTo (es : List Ev) (k : Nat) : List Ev := (es.take k).map Xg ++ es.drop k
theorem zog (es : List Ev) (k : Nat) : (utTo es k).length = es.length := by unfold utTo; rw [List.length_append, List.length_map, List.length_take, List.length_drop]; omega
theorem zke {es : List Ev} {k : Nat} {x : Ev} (h : es[k]? = some x) : (utTo es k)[k]? = some x := by
 have hl := (List.getElem?_eq_some_iff.1 h).1
 unfold utTo
 rw [List.getElem?_append_right (by rw [List.length_map, List.length_take]; omega), List.length_map, List.length_take, show k - min k es.length = 0 by omega, List.getElem?_drop]
 exact h
theorem zp1 {es : List Ev} {k : Nat} {x : Ev} (h : es[k]? = some x) : (utTo es k).set k (Xg x) = utTo es (k + 1) := by
 have hl := (List.getElem?_eq_some_iff.1 h).1
 unfold utTo
 rw [List.set_append_right _ _ (by rw [List.length_map, List.length_take]; omega), List.length_map, List.length_take, show k - min k es.length = 0 by omega, List.take_add_one, h, zu h]
 simp
theorem zp2 (es : List Ev) {k : Nat} (h : es.length ≤ k) : utTo es k = es.map Xg := by
 unfold utTo
 rw [List.take_of_length_le h, List.drop_of_length_le h, List.append_nil]
theorem zoq : ∀ {l : List Ev} {k : Nat} {x : Ev}, l[k]? = some x -> evs (l.set k (Xg x)) = setL (evs l) (k * 5 + 4) [.bool false]
 | [], _, _, h => by simp at h
 | y :: l, 0, x, h => by simp at h; subst h; rfl
 | y :: l, k + 1, x, h => by
   have := zoq (l := l) (k := k) (x := x) (by simpa using h)
   show y.vs ++ evs (l.set k (Xg x)) = setL (y.vs ++ evs l) ((k + 1) * 5 + 4) _
   rw [this, show (k + 1) * 5 + 4 = y.vs.length + (k * 5 + 4) by simp [Ev.vs]; omega, yj]
theorem zo1 {w : World} {b o k : Nat} {es : List Ev} {x : Ev} (h : Row w (some ⟨b, o, none⟩) (evs (utTo es k))) (hx : es[k]? = some x) :
 (w.cell? ⟨b, o + k * 5 + 4, none⟩ = some (.bool x.torn) ∧ w.frozen? ⟨b, o + k * 5 + 4, none⟩ = false) ∧ Row (w.setCell ⟨b, o + k * 5 + 4, none⟩ (.bool false)) (some ⟨b, o, none⟩) (evs (utTo es (k + 1))) ∧ xr w (w.setCell ⟨b, o + k * 5 + 4, none⟩ (.bool false)) b (o + k * 5 + 4) [.bool false] := by
 obtain ⟨_, _, _, _, c4⟩ := h.ev (zke hx)
 obtain ⟨_, f4⟩ := h.evf (zke hx)
 have hW : xr w (w.setCell ⟨b, o + k * 5 + 4, none⟩ (.bool false)) b (o + k * 5 + 4) [.bool false] := z8 c4 _
 refine ⟨⟨c4, f4⟩, ?_, hW⟩
 have hl := (List.getElem?_eq_some_iff.1 hx).1
 rw [← zp1 hx, zoq (zke hx)]
 rw [show o + k * 5 + 4 = o + (k * 5 + 4) by omega] at hW ⊢
 refine xr.row (w := w) hW h ?_
 rw [Xc, zog]
 simp
 omega
structure BelN (n : Nat) (w w' : World) : Prop where
 os : w'.os = w.os
 output : w'.output = w.output
 size : w.heap.size ≤ w'.heap.size
 block : ∀ b, b < n -> w'.heap[b]? = w.heap[b]?
def zfv (Q : Act -> World -> Prop) (n : Nat) (w : World) (e : Exit) (a : Act) (w' : World) : Prop := e = .normal ∧ a.defers = [] ∧ Q a w' ∧ BelN n w w'
theorem zfv.mk' {Q : Act -> World -> Prop} {n : Nat} {a0 w' : World} {a : Act} (hd : a.defers = []) (h : Q a w') (hb : BelN n a0 w') : zfv Q n a0 .normal a w' := ⟨rfl, hd, h, hb⟩
theorem Held.same {w w' : World} {bx n c m d : Nat} {A D : Option Addr} {s : St} (h : Held w bx A D n c m d s) (hh : w'.heap = w.heap) : Held w' bx A D n c m d s := by
 obtain ⟨hp, ta, dr, os, ou⟩ := w
 obtain ⟨hp', ta', dr', os', ou'⟩ := w'
 dsimp only at hh
 subst hh
 obtain ⟨⟨hs, f1⟩, h2, h3, h4, h5, h6⟩ := h
 exact ⟨⟨hs, ⟨f1.len, f1.row, f1.pg⟩⟩, h2, h3, h4, h5, h6⟩
noncomputable def rcC4 : Go.Code := match Tryz.f3.body with | some (.seq _ (.seq _ (.seq _ (.seq c (.seq _ (.seq _ (.seq _ (.seq _ (.seq _ (_)))))))))) => c | _ => .skip
noncomputable def rcC5 : Go.Code := match Tryz.f3.body with | some (.seq _ (.seq _ (.seq _ (.seq _ (.seq c (.seq _ (.seq _ (.seq _ (.seq _ (_)))))))))) => c | _ => .skip
noncomputable def rcC6 : Go.Code := match Tryz.f3.body with | some (.seq _ (.seq _ (.seq _ (.seq _ (.seq _ (.seq c (.seq _ (.seq _ (.seq _ (_)))))))))) => c | _ => .skip
noncomputable def rcC8 : Go.Code := match Tryz.f3.body with | some (.seq _ (.seq _ (.seq _ (.seq _ (.seq _ (.seq _ (.seq c (.seq _ (.seq _ (_)))))))))) => c | _ => .skip
noncomputable def rcC9 : Go.Code := match Tryz.f3.body with | some (.seq _ (.seq _ (.seq _ (.seq _ (.seq _ (.seq _ (.seq _ (.seq c (.seq _ (_)))))))))) => c | _ => .skip
noncomputable def zo7 : Go.Code := match Tryz.f3.body with | some (.seq _ (.seq _ (.seq _ (.seq _ (.seq _ (.seq _ (.seq _ (.seq _ (.seq c (_)))))))))) => c | _ => .skip
def rcQ4 (es : List Ev) (V : Option Addr) (vc : Nat) (t : St) (ok : Bool) (a : Act) (w : World) : Prop := ∃ (T : Array Value) (bx : Nat) (A D : Option Addr) (c d : Nat), a = ⟨T, []⟩ ∧ T.size = 83 ∧ T[3]? = some (.slice V es.length vc) ∧ T[4]? = some (.pointer (some ⟨bx, 0, none⟩)) ∧ T[5]? = some (.bool ok) ∧ Row w V (evs es) ∧ Held w bx A D t.flash.length c t.disk.length d t
def rcQ5 (es : List Ev) (V : Option Addr) (vc : Nat) (t : St) (ok : Bool) (a : Act) (w : World) : Prop := ∃ (T : Array Value) (bx by0 : Nat) (A D A2 D2 : Option Addr) (c d c2 d2 : Nat), a = ⟨T, []⟩ ∧ T.size = 83 ∧ T[3]? = some (.slice V es.length vc) ∧ T[4]? = some (.pointer (some ⟨bx, 0, none⟩)) ∧ T[5]? = some (.bool ok) ∧ T[6]? = some (.pointer (some ⟨by0, 0, none⟩)) ∧ T[7]? = some (.bool ok) ∧ Row w V (evs es) ∧ Held w bx A D t.flash.length c t.disk.length d t ∧ Held w by0 A2 D2 t.flash.length c2 t.disk.length d2 t
def rcQ6 (es : List Ev) (V : Option Addr) (vc : Nat) (ok : Bool) (a : Act) (w : World) : Prop := ∃ (T : Array Value) (_ : Unit), a = ⟨T, []⟩ ∧ T.size = 83 ∧ T[3]? = some (.slice V es.length vc) ∧ Row w V (evs es) ∧ ok = true
def rcR6 (a : Act) (_ : World) : Prop := ∃ T : Array Value, a = ⟨T, []⟩ ∧ T.size = 83 ∧ T[2]? = some (.bool true)
def rcQ8 (es : List Ev) (n : Nat) (a : Act) (w : World) : Prop := ∃ (T : Array Value) (A : Option Addr) (c : Nat), a = ⟨T, []⟩ ∧ T.size = 83 ∧ T[8]? = some (.slice A es.length c) ∧ Row w A (evs es) ∧ ∀ b, blk A b -> n ≤ b
def rcQ9 (es : List Ev) (a : Act) (w : World) : Prop := ∃ (T : Array Value) (A : Option Addr) (c : Nat), a = ⟨T, []⟩ ∧ T.size = 83 ∧ T[8]? = some (.slice A es.length c) ∧ Row w A (evs es)
def zp8 (t : St) (a : Act) (w : World) : Prop := ∃ (T : Array Value) (bx : Nat) (A D : Option Addr) (c d : Nat), a = ⟨T, []⟩ ∧ T.size = 83 ∧ T[10]? = some (.pointer (some ⟨bx, 0, none⟩)) ∧ T[11]? = some (.bool true) ∧ Held w bx A D t.flash.length c t.disk.length d t
theorem qy.fl {r : St × Bool} {w w' : World} {e : Ending} (h : qy r w e w') : ∃ A c D d, e = .returned (.tuple #[.agg #[.slice A r.1.flash.length c, .slice D r.1.disk.length d], .bool r.2]) ∧ FlAt w' w.heap.size A r.1.flash ∧ Row w' D (ints r.1.disk) ∧ (∀ b, blk D b -> w.heap.size ≤ b) ∧ Below w.heap.size w w' := h
theorem FlAt.fl0 {w : World} {lo : Nat} {A : Option Addr} {f : List Bk} (h : FlAt w lo A f) : Fl w A f := let ⟨hs, h, _⟩ := h; ⟨hs, h⟩
theorem rc4 {W0 W : World} {es : List Ev} {V : Option Addr} {vc : Nat} {t : St} {ok : Bool} (h0 : Bel W0 W) (hr : runR es = (t, ok)) (hl : es.length < 1000000000000) (hX : Row W V (evs es)) (T : Array Value) (hT : T.size = 83) (t3 : T[3]? = some (.slice V es.length vc)) :
 rcC4.wp Tryz.prog (qz (rcQ4 es V vc t ok) W0) ⟨T, []⟩ W := by
 have HC := Lib.hid (show Calls Tryz.prog 6 #[.slice V es.length vc] W (qy (t, ok) W) from hr ▸ Yp es V vc W hl hX)
 simp only [rcC4, Tryz.f3]
 replace hT := exT hT
 iterate 83 (obtain ⟨_, hT⟩ := hT)
 dsimp only [Ex] at hT
 subst hT
 simp only [List.getElem?_toArray, List.getElem?_cons_succ, List.getElem?_cons_zero, Option.some.injEq, Nat.reduceAdd, Nat.zero_add] at t3
 subst t3
 go_wp2_with fail
 refine HC.out.mono ?_
 rintro e w2 ⟨A2, c2, D2, d2, rfl, hF2, hD2, _, hb⟩
 dsimp only at hF2 hD2 ⊢
 have hH := Held.new w2 (n := t.flash.length) (c := c2) (m := t.disk.length) (d := d2) hF2.fl0 hD2 rfl rfl
 have hB : Below W.heap.size W (w2.alloc (.cells #[.slice A2 t.flash.length c2, .slice D2 t.disk.length d2] 28)) := hb.alloc hb.size _
 have hX2 := hX.below hB nl
 clear hF2 hD2 hb HC
 go_wp2
 exact qz.mk' rfl ⟨_, _, A2, D2, c2, d2, rfl, rfl, rfl, rfl, rfl, hX2, hH⟩ (Below.bel h0 hB)
theorem rc5 {W0 W : World} {es : List Ev} {V : Option Addr} {vc bx c d : Nat} {A D : Option Addr} {t : St} {ok : Bool} (h0 : Bel W0 W) (hr : runR es = (t, ok)) (hl : es.length < 1000000000000) (hX : Row W V (evs es)) (hH0 : Held W bx A D t.flash.length c t.disk.length d t) (T : Array Value) (hT : T.size = 83) (t3 : T[3]? = some (.slice V es.length vc)) (t4 : T[4]? = some (.pointer (some ⟨bx, 0, none⟩))) (t5 : T[5]? = some (.bool ok)) :
 rcC5.wp Tryz.prog (qz (rcQ5 es V vc t ok) W0) ⟨T, []⟩ W := by
 have HC := Lib.hid (show Calls Tryz.prog 7 #[.slice V es.length vc] W (qy (t, ok) W) from hr ▸ zee es V vc W hl hX)
 simp only [rcC5, Tryz.f3]
 replace hT := exT hT
 iterate 83 (obtain ⟨_, hT⟩ := hT)
 dsimp only [Ex] at hT
 subst hT
 simp only [List.getElem?_toArray, List.getElem?_cons_succ, List.getElem?_cons_zero, Option.some.injEq, Nat.reduceAdd, Nat.zero_add] at t3 t4 t5
 subst t3 t4 t5
 go_wp2_with fail
 refine HC.out.mono ?_
 rintro e w2 ⟨A2, c2, D2, d2, rfl, hF2, hD2, _, hb⟩
 dsimp only at hF2 hD2 ⊢
 have hH := Held.new w2 (n := t.flash.length) (c := c2) (m := t.disk.length) (d := d2) hF2.fl0 hD2 rfl rfl
 have hB : Below W.heap.size W (w2.alloc (.cells #[.slice A2 t.flash.length c2, .slice D2 t.disk.length d2] 28)) := hb.alloc hb.size _
 have hX2 := hX.below hB nl
 have hH2 := hH0.below hB nl
 clear hF2 hD2 hb HC hH0
 go_wp2
 exact qz.mk' rfl ⟨_, bx, _, A, D, A2, D2, c, d, c2, d2, rfl, rfl, rfl, rfl, rfl, rfl, rfl, hX2, hH2, hH⟩ (Below.bel h0 hB)
theorem rc6 {W0 W : World} {es : List Ev} {V : Option Addr} {vc bx by0 c d c2 d2 : Nat} {A D A2 D2 : Option Addr} {t : St} {ok : Bool} (h0 : Bel W0 W) (hf4 : t.flash.length < 1000000000000) (hpg : ∀ b ∈ t.flash, b.pages.length < 1000000000000) (hdl : t.disk.length < 1000000000000) (hX : Row W V (evs es)) (hH1 : Held W bx A D t.flash.length c t.disk.length d t) (hH2 : Held W by0 A2 D2 t.flash.length c2 t.disk.length d2 t) (T : Array Value) (hT : T.size = 83) (t3 : T[3]? = some (.slice V es.length vc)) (t4 : T[4]? = some (.pointer (some ⟨bx, 0, none⟩))) (t5 : T[5]? = some (.bool ok)) (t6 : T[6]? = some (.pointer (some ⟨by0, 0, none⟩))) (t7 : T[7]? = some (.bool ok)) :
 rcC6.wp Tryz.prog (X8 (rcQ6 es V vc ok) rcR6 W0) ⟨T, []⟩ W := by
 have HC := Lib.hid (fun w (k1 : Held w bx A D t.flash.length c t.disk.length d t) (k2 : Held w by0 A2 D2 t.flash.length c2 t.disk.length d2 t) => zev t A D A2 D2 t.flash.length t.disk.length t.flash.length t.disk.length c d c2 d2 w rfl rfl rfl rfl hf4 hpg hdl k1.fl k1.dk k2.fl k2.dk)
 have x0 := hH1.x0
 have x1 := hH1.x1
 have y0 := hH2.x0
 have y1 := hH2.x1
 replace hpg := Lib.hid hpg
 simp only [rcC6, Tryz.f3]
 replace hT := exT hT
 iterate 83 (obtain ⟨_, hT⟩ := hT)
 dsimp only [Ex] at hT
 subst hT
 simp only [List.getElem?_toArray, List.getElem?_cons_succ, List.getElem?_cons_zero, Option.some.injEq, Nat.reduceAdd, Nat.zero_add] at t3 t4 t5 t6 t7
 subst t3 t4 t5 t6 t7
 cases ok with
 | true =>
   go_wp2_with fail
   refine (HC.out _ hH1 hH2).mono ?_
   rintro e w4 ⟨rfl, hb⟩
   have hX2 := hX.below hb nl
   clear hH1 hH2 x0 x1 y0 y1 HC
   go_wp2
   exact X8.mkN rfl ⟨_, (), rfl, rfl, rfl, hX2, rfl⟩ (Below.bel h0 hb)
 | false =>
   go_wp2_with fail
   refine (HC.out _ hH1 hH2).mono ?_
   rintro e w4 ⟨rfl, hb⟩
   replace hH1 := hH1.below hb nl
   replace hH2 := hH2.below hb nl
   replace x0 := hH1.x0
   replace x1 := hH1.x1
   replace y0 := hH2.x0
   replace y1 := hH2.x1
   go_wp2_with fail
   refine (HC.out _ hH1 hH2).mono ?_
   rintro e w5 ⟨rfl, hb2⟩
   have hB := hb.trans (hb2.mono hb.size)
   clear hH1 hH2 x0 x1 y0 y1 HC
   go_wp2
   exact X8.mkR rfl ⟨_, rfl, rfl, rfl⟩ (Below.bel h0 hB)
theorem rc8 {W0 W : World} {es : List Ev} {V : Option Addr} {vc : Nat} (h0 : Bel W0 W) (hl : es.length ≤ 60) (hX : Row W V (evs es)) (T : Array Value) (hT : T.size = 83) (t3 : T[3]? = some (.slice V es.length vc)) :
 rcC8.wp Tryz.prog (qz (rcQ8 es W.heap.size) W0) ⟨T, []⟩ W := by
 have hOn : OwnE (W.alloc (.cells #[] 33)) W.heap.size (.slice (some ⟨W.heap.size, 0, none⟩) 0 0) [] := OwnE.nil W _ nl
 have hXn := hX.alloc (.cells #[] 33)
 have hBn : Below W.heap.size W (W.alloc (.cells #[] 33)) := (Below.refl _ _).alloc nl _
 simp only [rcC8, Tryz.f3]
 replace hT := exT hT
 iterate 83 (obtain ⟨_, hT⟩ := hT)
 dsimp only [Ex] at hT
 subst hT
 simp only [List.getElem?_toArray, List.getElem?_cons_succ, List.getElem?_cons_zero, Option.some.injEq, Nat.reduceAdd, Nat.zero_add] at t3
 subst t3
 go_wp2_with (at_builtin; refine za5 rfl (.tmp 48) (.tmp 49) rfl W.heap.size (.slice (some ⟨W.heap.size, 0, none⟩) 0 0) [] es rfl hOn V es.length es.length vc rfl rfl (by simp) hXn (by omega) (by simp) ?_; intro A9 c9 w7 hO7 hB7)
 rw [List.nil_append] at hO7
 have hB := hBn.trans hB7
 obtain ⟨_, _, e9, hRw, hbw, _⟩ := hO7.out
 cases e9
 clear hOn hXn hBn hB7 hO7
 go_wp2
 exact qz.mk' rfl ⟨_, A9, c9, rfl, rfl, rfl, hRw, fun b hb => (hbw b hb).1⟩ (Below.bel h0 hB)
theorem rc9 {W0 W : World} {es : List Ev} {A : Option Addr} {c n : Nat} (h0 : Bel W0 W) (hn0 : n ≤ W0.heap.size) (hl : es.length ≤ 60) (hX : Row W A (evs es)) (hn : ∀ b, blk A b -> n ≤ b) (T : Array Value) (hT : T.size = 83) (t8 : T[8]? = some (.slice A es.length c)) :
 rcC9.wp Tryz.prog (zfv (rcQ9 (es.map Xg)) n W0) ⟨T, []⟩ W := by
 simp only [rcC9, Tryz.f3]
 replace hT := exT hT
 iterate 83 (obtain ⟨_, hT⟩ := hT)
 dsimp only [Ex] at hT
 subst hT
 simp only [List.getElem?_toArray, List.getElem?_cons_succ, List.getElem?_cons_zero, Option.some.injEq, Nat.reduceAdd, Nat.zero_add] at t8
 subst t8
 replace hn := Lib.hid hn
 go_wp2
 go_loopw [9] (fun i wr => ∃ k : Nat, k ≤ es.length ∧ i = .int .i64 k ∧ Row wr A (evs (utTo es k)) ∧ wr.os = W.os ∧ wr.output = W.output ∧ W.heap.size ≤ wr.heap.size ∧ Hid (∀ b, b < n -> wr.heap[b]? = W.heap[b]?)) (fun i _ => es.length - (intOf i).toNat)
 case atStart => exact ⟨0, by omega, rfl, hX, rfl, rfl, Nat.le_refl _, fun _ _ => rfl⟩
 case round =>
  obtain ⟨k, hk, rfl, hR, ho, hou, hz, hst⟩ := hrel
  clear hX
  by_cases hlt : k < es.length
  . obtain ⟨x, hx⟩ := zd hlt
    obtain ⟨vb, vo, rfl⟩ : ∃ b o, A = some ⟨b, o, none⟩ := hR.addr (by intro e; have := Xc (utTo es k); rw [e, zog] at this; simp at this; omega)
    have hnb := hn.out vb (zg.2 rfl)
    obtain ⟨⟨m4, g4⟩, hRn, hW⟩ := zo1 hR hx
    have hk1 : (k : Int) < es.length := by omega
    have e1 : IntKind.i64.wrap ((k : Int) + 1) = (k : Int) + 1 := IntWalk.i64_in _ (by omega)
    have ho2 := hW.os.trans ho
    have hou2 := hW.output.trans hou
    have hz2 : W.heap.size ≤ (wr.setCell ⟨vb, vo + k * 5 + 4, none⟩ (.bool false)).heap.size := by rw [hW.size]; exact hz
    have HST := Lib.hid (show ∀ b, b < n -> (wr.setCell ⟨vb, vo + k * 5 + 4, none⟩ (.bool false)).heap[b]? = W.heap[b]? from fun b hb => (hW.block b (by omega)).trans (hst.out b hb))
    clear hx hR hW hst ho hou
    go_wp2
    go_roundw
    (case rel => exact ⟨k + 1, by omega, by go_num, hRn, ho2, hou2, hz2, HST⟩)
    (case measure => simp [intOf]; omega)
  . obtain rfl : k = es.length := by omega
    rw [zp2 es nl] at hR
    go_wp2
    exact zfv.mk' rfl ⟨_, A, c, rfl, rfl, (by rw [List.length_map]; rfl), hR⟩ ⟨ho.trans h0.os, hou.trans h0.output, Nat.le_trans h0.size hz, fun b hb => (hst.out b hb).trans (h0.block b (by omega))⟩
theorem rc13 {W0 W : World} {es : List Ev} {A : Option Addr} {c : Nat} {t : St} (h0 : Bel W0 W) (hr : runR es = (t, true)) (hl : es.length ≤ 60) (hX : Row W A (evs es)) (T : Array Value) (hT : T.size = 83) (t8 : T[8]? = some (.slice A es.length c)) :
 zo7.wp Tryz.prog (qz (zp8 t) W0) ⟨T, []⟩ W := by
 have HC := Lib.hid (show Calls Tryz.prog 6 #[.slice A es.length c] W (qy (t, true) W) from hr ▸ Yp es A c W (by omega) hX)
 simp only [zo7, Tryz.f3]
 replace hT := exT hT
 iterate 83 (obtain ⟨_, hT⟩ := hT)
 dsimp only [Ex] at hT
 subst hT
 simp only [List.getElem?_toArray, List.getElem?_cons_succ, List.getElem?_cons_zero, Option.some.injEq, Nat.reduceAdd, Nat.zero_add] at t8
 subst t8
 go_wp2_with fail
 refine HC.out.mono ?_
 rintro e w2 ⟨A2, c2, D2, d2, rfl, hF2, hD2, _, hb⟩
 dsimp only at hF2 hD2 ⊢
 have hH := Held.new w2 (n := t.flash.length) (c := c2) (m := t.disk.length) (d := d2) hF2.fl0 hD2 rfl rfl
 have hB : Below W.heap.size W (w2.alloc (.cells #[.slice A2 t.flash.length c2, .slice D2 t.disk.length d2] 28)) := hb.alloc hb.size _
 clear hF2 hD2 hb HC
 go_wp2
 exact qz.mk' rfl ⟨_, _, A2, D2, c2, d2, rfl, rfl, rfl, rfl, hH⟩ (Below.bel h0 hB)
end
end Go.Proofs.YtclnogfmmekooaaGreat
