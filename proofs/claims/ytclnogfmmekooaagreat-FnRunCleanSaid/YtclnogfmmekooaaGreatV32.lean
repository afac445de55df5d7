/- Part of the law's proof: its walk, or its row. -/
import Derived.Test.YtclnogfmmekooaaGreatZ1
import Derived.Test.YtclnogfmmekooaaGreatV31
set_option linter.unusedVariables false
set_option linter.unusedSimpArgs false
set_option maxHeartbeats 16000000
set_option maxRecDepth 100000
namespace Go.Proofs.YtclnogfmmekooaaGreat
section
open Go.Conc Go.ConcN Go.ConcR.Gen Go.RowKit
structure Cx (w : World) (b : Nat) (u v : Value) : Prop where
 c0 : w.cell? ⟨b, 0, none⟩ = some u
 c1 : w.cell? ⟨b, 1, none⟩ = some v
theorem Cx.bel {w w' : World} {b : Nat} {u v : Value} (h : Cx w b u v) (k : Bel w w') : Cx w' b u v := ⟨(k.cell (ze h.c0) 0).trans h.c0, (k.cell (ze h.c0) 1).trans h.c1⟩
theorem Row.bel0 {w w' : World} {a : Option Addr} {vs : List Value} (h : Row w a vs) (hb : Bel w w') : Row w' a vs := by
 have : Row { w' with tape := w.tape } a vs := h.below hb.bl nl
 exact this
structure Rw (w : World) (a : Option Addr) (vs : List Value) : Prop where
 row : Row w a vs
theorem Rw.bel {w w' : World} {a : Option Addr} {vs : List Value} (h : Rw w a vs) (hb : Bel w w') : Rw w' a vs := ⟨h.row.bel0 hb⟩
structure Rcc (SB : Nat -> Prop) (b : Nat) (u v : Value) (w : World) : Prop where
 c0 : w.cell? ⟨b, 0, none⟩ = some u
 c1 : w.cell? ⟨b, 1, none⟩ = some v
 nsb : ¬ SB b
 lt : b < w.heap.size
theorem Rcc.tp {SB : Nat -> Prop} {b : Nat} {u v : Value} (w : World) (T : Nat -> Question -> Nat) (d : Nat) (h : Rcc SB b u v w) : Rcc SB b u v (tp0 w T d) := ⟨h.c0, h.c1, h.nsb, h.lt⟩
section
variable {SB A : Nat -> Prop} {w0 w : World} {Post : Value -> World -> Prop} {Gd : Option (Nat × Nat × Nat)}
theorem Cx.rc {b : Nat} {u v : Value} (h : Cx (cutW (good Gd) w) b u v) (co : Co (good Gd) SB A w0 w) (hv : VIn (good Gd) A (.pointer (some ⟨b, 0, none⟩))) : Rcc SB b u v w := by
 have hA : A b := by cases hv with | ptr h => exact h.blk
 exact ⟨Zi h.c0, Zi h.c1, fun x => (co.away b x).1 hA, co.lt hA⟩
theorem Co.wpN {bf : Frame} {a : Act} {c : Go.Code} {k : List Item} {cs : List Frame} (Q : Act -> World -> Prop) (co : Co (good Gd) SB A w0 w) (hbk : bf.kind = .normal) (hc : xn Tryz.prog (good Gd) c = true) (hk : ∀ id, exitTo id k = none)
 (ht : ∀ v ∈ a.tmps, VIn (good Gd) A v) (hd : a.defers = []) (hQ : ∀ a w T d, Q a (tp0 w T d) -> Q a w)
 (h : ∀ T d, c.wp Tryz.prog (zfv Q w0.heap.size (cutW (good Gd) w)) a (tp0 (cutW (good Gd) w) T d))
 (next : ∀ A' a' w', (∀ b, A b -> A' b) -> Co (good Gd) SB A' w0 w' -> (∀ v ∈ a'.tmps, VIn (good Gd) A' v) -> Q a' (cutW (good Gd) w') -> Fine Tryz.prog Post SB (G (bf.at a' k) cs) w') : Fine Tryz.prog Post SB (G (bf.at a (.code c :: k)) cs) w := by
 refine Fine.wp (P := Tryz.prog) (G := good Gd) (A := A) (wR := w) (Q := fun e a w' => e = .normal ∧ Q a w' ∧ BelN w0.heap.size (cutW (good Gd) w) w') (zil Gd) hbk hc hk ht hd co.hin co.away (fun e a w T d h => ⟨h.1, hQ _ _ _ _ h.2.1, ⟨h.2.2.os, h.2.2.output, h.2.2.size, h.2.2.block⟩⟩) (fun T d => ?_) ?_ ?_
 . refine Go.Code.wp_mono (fun e a' w' h => ?_) (h T d)
   obtain ⟨h1, h2, h3, h4⟩ := h
   exact ⟨.inl h1, h1, h3, h4⟩
 . intro A' a' w' ht hk' hh hv hq hdef
   obtain ⟨_, hq1, hb⟩ := hq
   have b1 := hb.os
   have b2 := hb.output
   have b3 := hb.size
   rw [zcd, zcd] at b1
   rw [qk, qk] at b2
   rw [zw, zw] at b3
   exact next A' a' w' hk'.grow ⟨hh, co.away.kept hk', ⟨b1.trans co.bel.os, b2.trans co.bel.output, Nat.le_trans co.bel.size b3, fun b hb' => (ht.same (hb.block b hb')).trans (co.bel.block b hb')⟩⟩ hv hq1
 . intro A' a' w' todo _ _ _ _ hq
   cases hq.1
end
theorem zo5 {es : List Ev} {t : St} (h : runR es = (t, true)) : es.length ≤ 60 := by
 unfold runR at h
 split at h
 . cases h
 . omega
theorem zjb {es : List Ev} {t : St} {ok : Bool} (h : runR es = (t, ok)) : t.flash.length < 1000000000000 ∧ (∀ b ∈ t.flash, b.pages.length < 1000000000000) ∧ t.disk.length < 1000000000000 := by
 unfold runR at h
 split at h
 . cases h
   exact ⟨by decide, fun b hb => (by cases hb), by decide⟩
 . cases h
   have := (Qt es).ok
   exact ⟨by rw [zf this.flash]; omega, zjg this, by rw [this.len]; omega⟩
theorem law_FnRunClean {W : World} (A0 : Option Addr) (bs : List Nat) (c : Nat) (hc : Code W A0 bs c) (hl : Lain W A0) :
 Fine Tryz.prog (fun v w' => v = .bool true ∧ Bel W w') (fun _ => False) (G (Frame.enter Tryz.prog 3 #[.slice A0 bs.length c] .normal) []) W := by
 obtain ⟨Gd, A, co, hv, hC⟩ := zm5 hc hl
 rw [enter_at _ Tryz.func3 rfl]
 walk_nrmf Tryz.f3
 refine z7 rfl (fun w => stepG_seq) ?_
 refine z7 rfl (fun w => stepG_region) ?_
 simp only [sz, Nat.reduceAdd, Nat.zero_add, List.range, List.range.loop]
 refine fo ?_
 walk_nrm
 refine z7 rfl (fun w => stepG_region_end) ?_
 refine z7 rfl (fun w => stepG_seq) ?_
 refine z7 rfl (fun w => stepG_seq) ?_
 refine z7 rfl (fun w => stepG_region) ?_
 simp only [sz, Nat.reduceAdd, Nat.zero_add, List.range, List.range.loop]
 refine fo ?_
 walk_nrm
 refine fo ?_
 walk_nrm
 by_cases hlen : (1048576 : Int) < bs.length
 . clear co hv hC
   refine f_op (v := .bool true) rfl rfl (by k_ne) (fun w => ⟨run_eq_of (fun K hK => by have h9 := hlen; go_simp; exact hK), listed_nil (by have h9 := hlen; simp [go_sem, X2, X3, *])⟩) ?_
   walk_nrm
   refine z7 rfl (fun w => stepG_region_end) ?_
   refine z7 rfl (fun w => stepG_cond (t := true) (by simp [Act.eval])) ?_
   simp only [if_true, Bool.false_eq_true, if_false]
   refine z7 rfl (fun w => stepG_seq) ?_
   refine z7 rfl (fun w => stepG_region) ?_
   simp only [sz, Nat.reduceAdd, Nat.zero_add, List.range, List.range.loop]
   refine fo ?_
   walk_nrm
   refine z7 rfl (fun w => stepG_region_end) ?_
   refine z7 rfl (fun w => stepG_ret') ?_
   refine Fine.fin (A := fun _ => False) (T := fun _ _ => 0) (d := 0) rfl rfl rfl Tryz.func3 (by kernel_rfl) (v := .bool true) (fun w _ => ?_) (fun w _ e he => ?_) (fun T d => ⟨rfl, Bel.tp _ T d⟩)
   . simp [results, Tryz.f3, go_sem, Frame.at]
   . rw [show (results Tryz.f3 _).events Tryz.prog w #[] = #[] by simp [results, Tryz.f3, go_sem, Frame.at]] at he
     simp at he
 . have hlen2 : ¬ (1048576 : Int) < bs.length := hlen
   refine f_op (v := .bool false) rfl rfl (by k_ne) (fun w => ⟨run_eq_of (fun K hK => by have h9 := hlen; go_simp; exact hK), listed_nil (by have h9 := hlen; simp [go_sem, X2, X3, *])⟩) ?_
   walk_nrm
   refine z7 rfl (fun w => stepG_region_end) ?_
   refine z7 rfl (fun w => stepG_cond (t := false) (by simp [Act.eval])) ?_
   simp only [if_true, Bool.false_eq_true, if_false]
   refine z7 rfl (fun w => stepG_skip) ?_
   refine z7 rfl (fun w => stepG_seq) ?_
   refine z7 rfl (fun w => stepG_region) ?_
   simp only [sz, Nat.reduceAdd, Nat.zero_add, List.range, List.range.loop]
   refine fo ?_
   walk_nrm
   refine X1 rfl rfl (by k_ne) rfl Tryz.func5 rfl rfl ?_
   walk_nrm
   refine Co.call co (R := fun v w' => ∃ (V : Option Addr) (vc : Nat) (es : List Ev), v = .slice V es.length vc ∧ es.length ≤ 61 ∧ Row w' V (evs es)) (fun v w T d h => h) (by kernel_rfl) (fun v hx => by simp at hx; subst hx; exact hv) (fun T d => (Yz A0 bs c (tp0 (cutW (good Gd) W) T d) (hC.tp T d)).mono fun e w' ⟨v, es, h1, h2, h3, _, h4⟩ => (by obtain ⟨V, vc, e2, hR, _, _⟩ := h2.out; exact ⟨v, h1, ⟨V, vc, es, e2, h3, hR⟩, h4⟩)) ?_
   clear co
   rintro A v w hA co _ hv_e ⟨V, vc, es, rfl, hes, hX⟩
   have hv_a := hv.mono hA
   clear hA hv
   rw [Frame.finish_at]
   walk_nrm
   refine fo ?_
   walk_nrm
   refine z7 rfl (fun w => stepG_region_end) ?_
   refine z7 rfl (fun w => stepG_seq) ?_
   clear hlen hlen2
   obtain ⟨t, ok, hr⟩ : ∃ t ok, runR es = (t, ok) := ⟨_, _, rfl⟩
   obtain ⟨hf4, hpg0, hdl⟩ := zjb hr
   have hpg := Lib.hid hpg0
   clear hpg0
   refine Co.wp (rcQ4 es V vc t ok) co rfl (by kernel_rfl) (fun _ => rfl) (AllV.arr ?vin) rfl (fun a w T d ⟨T', bx, A, D, c, d', h1, h2, h3, h4, h5, h6, h7⟩ => ⟨T', bx, A, D, c, d', h1, h2, h3, h4, h5, h6, h7.same rfl⟩) (fun T9 d9 => ?lone) ?_
   case vin => repeat' (first | exact AllV.nil | (refine AllV.cons (by first | exact .int _ _ | exact .bool _ | exact VIn.undef | exact hv_e | exact hv_a) ?_))
   case lone =>
    have hp := fun Tx => rc4 (vc := vc) (Bel.tp (cutW (good Gd) w) T9 d9) hr (by omega) (show Row (tp0 (cutW (good Gd) w) T9 d9) V (evs es) from hX) Tx
    simp only [rcC4, Tryz.f3] at hp
    exact hp _ rfl rfl
   clear co
   clear hX
   rintro A _ w hA co hb hvT ⟨T, bx, Ax, Dx, cx, dx, rfl, hT, t3, t4, t5, hX, hH⟩
   clear hA hb
   refine z7 rfl (fun w => stepG_seq) ?_
   refine Co.wp (rcQ5 es V vc t ok) co rfl (by kernel_rfl) (fun _ => rfl) hvT rfl (fun a w T d ⟨T', bx, by0, A, D, A2, D2, c, d', c2, d2, h1, h2, h3, h4, h5, h6, h7, h8, h9, h10⟩ => ⟨T', bx, by0, A, D, A2, D2, c, d', c2, d2, h1, h2, h3, h4, h5, h6, h7, h8, h9.same rfl, h10.same rfl⟩) (fun T9 d9 => ?lone) ?_
   case lone =>
    have hp := fun Tx => rc5 (vc := vc) (Bel.tp (cutW (good Gd) w) T9 d9) hr (by omega) (show Row (tp0 (cutW (good Gd) w) T9 d9) V (evs es) from hX) (hH.same rfl : Held (tp0 (cutW (good Gd) w) T9 d9) bx Ax Dx t.flash.length cx t.disk.length dx t) Tx
    simp only [rcC5, Tryz.f3] at hp
    exact hp _ hT t3 t4 t5
   clear co
   clear hX hH t3 t4 t5 hT
   rintro A _ w hA co hb hvT ⟨T, bx, by0, Ax, Dx, A2, D2, cx, dx, c2, d2, rfl, hT, t3, t4, t5, t6, t7, hX, hH, hH2⟩
   clear hA hb
   refine z7 rfl (fun w => stepG_seq) ?_
   refine Co.wpR (rcQ6 es V vc ok) rcR6 co rfl (by kernel_rfl) (fun _ => rfl) hvT rfl (fun a w T d h => h) (fun a w T d h => h) (fun T9 d9 => ?lone) ?_ ?_
   case lone =>
    have hp := fun Tx => rc6 (vc := vc) (ok := ok) (Bel.tp (cutW (good Gd) w) T9 d9) hf4 hpg.out hdl (show Row (tp0 (cutW (good Gd) w) T9 d9) V (evs es) from hX) (hH.same rfl : Held (tp0 (cutW (good Gd) w) T9 d9) bx Ax Dx t.flash.length cx t.disk.length dx t) (hH2.same rfl : Held (tp0 (cutW (good Gd) w) T9 d9) by0 A2 D2 t.flash.length c2 t.disk.length d2 t) Tx
    simp only [rcC6, Tryz.f3] at hp
    exact hp _ hT t3 t4 t5 t6 t7
   rotate_left
   . clear co hX hH hH2 t3 t4 t5 t6 t7 hT
     rintro A _ w todo hA co hb _ ⟨T, rfl, hT, t2⟩
     clear hA hb
     replace hT := exT hT
     iterate 83 (obtain ⟨_, hT⟩ := hT)
     dsimp only [Ex] at hT
     subst hT
     simp only [List.getElem?_toArray, List.getElem?_cons_succ, List.getElem?_cons_zero, Option.some.injEq] at t2
     subst t2
     refine Fine.fin (A := fun _ => False) (T := fun _ _ => 0) (d := 0) rfl rfl rfl Tryz.func3 (by kernel_rfl) (v := .bool true) (fun w _ => ?_) (fun w _ e he => ?_) (fun T d => ⟨rfl, co.bel.trans (Bel.tp _ T d)⟩)
     . simp [results, Tryz.f3, go_sem, Frame.at]
     . rw [show (results Tryz.f3 _).events Tryz.prog w #[] = #[] by simp [results, Tryz.f3, go_sem, Frame.at]] at he
       simp at he
   clear co
   clear hX hH hH2 t3 t4 t5 t6 t7 hT
   rintro A _ w hA co hb hvT ⟨T, _, rfl, hT, t3, hX, rfl⟩
   clear hA hb
   have h60 : es.length ≤ 60 := zo5 hr
   refine z7 rfl (fun w => stepG_seq) ?_
   have co0 := co
   refine Co.wp (rcQ8 es w.heap.size) co rfl (by kernel_rfl) (fun _ => rfl) hvT rfl (fun a w T d h => h) (fun T9 d9 => ?lone) ?_
   case lone =>
    have hp := fun Tx => rc8 (vc := vc) (W := (tp0 (cutW (good Gd) w) T9 d9)) (Bel.tp (cutW (good Gd) w) T9 d9) h60 (show Row (tp0 (cutW (good Gd) w) T9 d9) V (evs es) from hX) Tx
    simp only [rcC8, Tryz.f3] at hp
    rw [show (tp0 (cutW (good Gd) w) T9 d9).heap.size = w.heap.size from zw ..] at hp
    exact hp _ hT t3
   clear co
   clear hX t3 hT
   have hw0 := co0.bel.size
   rintro A _ w' hA co hb hvT ⟨T, Aw, cw, rfl, hT, t8, hX, hnew⟩
   replace hnew : ∀ b, blk Aw b -> W.heap.size ≤ b := fun b hb => Nat.le_trans hw0 (hnew b hb)
   clear hA hb co0 hw0
   rename World => w2
   refine z7 rfl (fun w => stepG_seq) ?_
   have hn0 : W.heap.size ≤ (cutW (good Gd) w2).heap.size := by rw [zw]; exact co.bel.size
   refine Co.wpN (rcQ9 (es.map Xg)) co rfl (by kernel_rfl) (fun _ => rfl) hvT rfl (fun a w T d h => h) (fun T9 d9 => ?lone) ?_
   case lone =>
    have hp := fun Tx => rc9 (c := cw) (W := (tp0 (cutW (good Gd) w2) T9 d9)) (Bel.tp (cutW (good Gd) w2) T9 d9) hn0 h60 (show Row (tp0 (cutW (good Gd) w2) T9 d9) Aw (evs es) from hX) hnew Tx
    simp only [rcC9, Tryz.f3] at hp
    exact hp _ hT t8
   clear co
   clear hX t8 hT hnew
   rintro A _ w hA co hvT ⟨T, Aw, cw, rfl, hT, t8, hX⟩
   clear hA
   refine z7 rfl (fun w => stepG_seq) ?_
   obtain ⟨t2, et2⟩ : ∃ t2, yo (es.map Xg) = t2 := ⟨_, rfl⟩
   have hlu : (es.map Xg).length ≤ 60 := by rw [List.length_map]; exact h60
   have hr2 : runR (es.map Xg) = (t2, true) := by rw [zo4 hlu, et2]
   refine Co.wp (zp8 t2) co rfl (by kernel_rfl) (fun _ => rfl) hvT rfl (fun a w T d ⟨T', bx, A, D, c, d', h1, h2, h3, h4, h5⟩ => ⟨T', bx, A, D, c, d', h1, h2, h3, h4, h5.same rfl⟩) (fun T9 d9 => ?lone) ?_
   case lone =>
    have hp := fun Tx => rc13 (c := cw) (Bel.tp (cutW (good Gd) w) T9 d9) hr2 hlu (show Row (tp0 (cutW (good Gd) w) T9 d9) Aw (evs (es.map Xg)) from hX) Tx
    simp only [zo7, Tryz.f3] at hp
    exact hp _ hT t8
   clear co
   clear hX t8 hT
   rintro A _ w hA co hb hvT ⟨T, bx, Ax, Dx, cx, dx, rfl, hT, t10, t11, hH⟩
   clear hA hb
   have hev := zm7 (es := es.map Xg) (fun e he => by obtain ⟨x, _, rfl⟩ := List.mem_map.1 he; rfl)
   rw [et2] at hev
   have hok2 := hev.1.flash
   have htn := zmb hev.2
   have hsp := zhg hok2 hev.2
   have hso := xx.2 hev.1
   clear hev et2 hr2
   have hv_p : VIn (good Gd) A (.pointer (some ⟨bx, 0, none⟩)) := hvT _ (Array.mem_of_getElem? t10)
   have hAb : Ina (good Gd) A ⟨bx, 0, none⟩ := by cases hv_p with | ptr h => exact h
   have hv_x := K6 co.hin hAb hH.x0
   have hv_d := K6 co.hin (a := ⟨bx, 1, none⟩) (hAb.up rfl (Nat.zero_le _)) hH.x1
   have hf_x := hH.fl
   have hf_d : Rw (cutW (good Gd) w) Dx (ints t2.disk) := ⟨hH.dk⟩
   have hf_p : Cx (cutW (good Gd) w) bx (.slice Ax t2.flash.length cx) (.slice Dx t2.disk.length dx) := ⟨hH.x0, hH.x1⟩
   clear hH hAb hvT
   replace hT := exT hT
   iterate 83 (obtain ⟨_, hT⟩ := hT)
   dsimp only [Ex] at hT
   subst hT
   simp only [List.getElem?_toArray, List.getElem?_cons_succ, List.getElem?_cons_zero, Option.some.injEq] at t10 t11
   subst t10 t11
   refine z7 rfl (fun w => stepG_seq) ?_
   refine z7 rfl (fun w => stepG_region) ?_
   simp only [sz, Nat.reduceAdd, Nat.zero_add, List.range, List.range.loop]
   refine fo ?_
   walk_nrm
   refine fo ?_
   walk_nrm
   refine fo ?_
   walk_nrm
   have hR := hf_p.rc co hv_p
   refine znz (F := Rcc _ bx (.slice Ax t2.flash.length cx) (.slice Dx t2.disk.length dx)) Rcc.tp hR rfl rfl (by k_ne) (v := .slice Ax t2.flash.length cx) (fun w hw => ⟨run_eq_of (fun K hK => by have h0 := hw.c0; go_simp; exact hK), by have h0 := hw.c0; intro e he; have hm := mem_listed he; simp [go_sem, *] at hm; subst hm; exact ⟨hw.nsb, hw.lt⟩⟩) ?_
   clear hR
   walk_nrm
   refine X1 rfl rfl (by k_ne) rfl Tryz.func9 rfl rfl ?_
   walk_nrm
   refine Co.wLost co hv_x hf_x ?_
   clear co
   intro w SB A hA co hb
   replace hv_x := hv_x.mono hA
   replace hf_x := hf_x.bel hb.cut
   replace hv_p := hv_p.mono hA
   replace hf_p := hf_p.bel hb.cut
   replace hv_d := hv_d.mono hA
   replace hf_d := hf_d.bel hb.cut
   clear hb hA
   rw [Frame.finish_at]
   walk_nrm
   refine f_op (v := .bool true) rfl rfl (by k_ne) (fun w => ⟨run_eq_of (fun K hK => by have h9 := hok2; have h8 := htn; go_simp; exact hK), listed_nil (by have h9 := hok2; have h8 := htn; simp [go_sem, X2, X3, *])⟩) ?_
   walk_nrm
   refine f_op (v := .bool true) rfl rfl (by k_ne) (fun w => ⟨run_eq_of (fun K hK => by go_simp; exact hK), listed_nil (by simp [go_sem, X2, X3, *])⟩) ?_
   walk_nrm
   refine fo ?_
   walk_nrm
   refine fo ?_
   walk_nrm
   have hR := hf_p.rc co hv_p
   refine znz (F := Rcc _ bx (.slice Ax t2.flash.length cx) (.slice Dx t2.disk.length dx)) Rcc.tp hR rfl rfl (by k_ne) (v := .slice Ax t2.flash.length cx) (fun w hw => ⟨run_eq_of (fun K hK => by have h0 := hw.c0; go_simp; exact hK), by have h0 := hw.c0; intro e he; have hm := mem_listed he; simp [go_sem, *] at hm; subst hm; exact ⟨hw.nsb, hw.lt⟩⟩) ?_
   clear hR
   walk_nrm
   refine X1 rfl rfl (by k_ne) rfl Tryz.func10 rfl rfl ?_
   walk_nrm
   refine Co.wSpread co hv_x hf_x ?_
   clear co
   intro w SB A hA co hb
   replace hv_x := hv_x.mono hA
   replace hf_x := hf_x.bel hb.cut
   replace hv_p := hv_p.mono hA
   replace hf_p := hf_p.bel hb.cut
   replace hv_d := hv_d.mono hA
   replace hf_d := hf_d.bel hb.cut
   clear hb hA
   rw [Frame.finish_at]
   walk_nrm
   refine f_op (v := .bool true) rfl rfl (by k_ne) (fun w => ⟨run_eq_of (fun K hK => by have h9 := hok2; have h8 := hsp; go_simp; exact hK), listed_nil (by have h9 := hok2; have h8 := hsp; simp [go_sem, X2, X3, *])⟩) ?_
   walk_nrm
   refine f_op (v := .bool true) rfl rfl (by k_ne) (fun w => ⟨run_eq_of (fun K hK => by go_simp; exact hK), listed_nil (by simp [go_sem, X2, X3, *])⟩) ?_
   walk_nrm
   refine fo ?_
   walk_nrm
   have hR := hf_p.rc co hv_p
   refine znz (F := Rcc _ bx (.slice Ax t2.flash.length cx) (.slice Dx t2.disk.length dx)) Rcc.tp hR rfl rfl (by k_ne) (v := .agg #[.slice Ax t2.flash.length cx, .slice Dx t2.disk.length dx]) (fun w hw => ⟨run_eq_of (fun K hK => by have h0 := hw.c0; have h1 := hw.c1; go_simp; exact hK), by have h0 := hw.c0; have h1 := hw.c1; intro e he; have hm := mem_listed he; simp [go_sem, *] at hm; rcases hm with rfl | rfl <;> exact ⟨hw.nsb, hw.lt⟩⟩) ?_
   clear hR
   walk_nrm
   refine X1 rfl rfl (by k_ne) rfl Tryz.func11 rfl rfl ?_
   walk_nrm
   refine Co.call co (R := fun v _ => v = .bool true) (fun _ _ _ _ h => h) (by kernel_rfl) (fun v hx => by simp at hx; subst hx; exact .agg (fun v hv => by simp at hv; rcases hv with rfl | rfl; exact hv_x; exact hv_d)) (fun T d' => (j8 t2 Ax Dx t2.flash.length t2.disk.length cx dx (tp0 (cutW (good Gd) w) T d') rfl rfl (hf_x.bel (Bel.tp _ T d')) (hf_d.bel (Bel.tp _ T d')).row).mono fun e w' q => ⟨_, (by rw [hso] at q; exact q.1), rfl, q.2⟩) ?_
   clear co
   intro A v w hA co hb _ hv1
   subst hv1
   clear hA hb
   rw [Frame.finish_at]
   walk_nrm
   refine f_op (v := .bool true) rfl rfl (by k_ne) (fun w => ⟨run_eq_of (fun K hK => by go_simp; exact hK), listed_nil (by simp [go_sem, X2, X3, *])⟩) ?_
   walk_nrm
   refine fo ?_
   walk_nrm
   refine z7 rfl (fun w => stepG_region_end) ?_
   refine z7 rfl (fun w => stepG_ret') ?_
   refine Fine.fin (A := fun _ => False) (T := fun _ _ => 0) (d := 0) rfl rfl rfl Tryz.func3 (by kernel_rfl) (v := .bool true) (fun w _ => ?_) (fun w _ e he => ?_) (fun T d => ⟨rfl, co.bel.trans (Bel.tp _ T d)⟩)
   . simp [results, Tryz.f3, go_sem, Frame.at]
   . rw [show (results Tryz.f3 _).events Tryz.prog w #[] = #[] by simp [results, Tryz.f3, go_sem, Frame.at]] at he
     simp at he
end
end Go.Proofs.YtclnogfmmekooaaGreat
