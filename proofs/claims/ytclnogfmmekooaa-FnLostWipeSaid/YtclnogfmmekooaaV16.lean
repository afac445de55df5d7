/- The loop of the law FnLostWipe beside leavers. (Printed by genv16.py.) -/
import Derived.Test.YtclnogfmmekooaaV13
import Derived.Test.YtclnogfmmekooaaV8
namespace Go.Proofs.Ytclnogfmmekooaa
set_option linter.unusedVariables false
set_option linter.unusedSimpArgs false
open Go.Conc Go.ConcN Go.ConcR.Gen Go.RowKit
set_option maxRecDepth 100000
set_option maxHeartbeats 8000000
/-- A block's pages, of a flash that stands, not shunned. -/
structure Pw (SB : Nat → Prop) (g go pb po pc : Nat) (ps : List Pg) (w : World) : Prop where
 slot : w.cell? ⟨g, go, none⟩ = some (.slice (some ⟨pb, po, none⟩) ps.length pc)
 st : ∀ (j : Nat) (p : Pg), ps[j]? = some p → w.cell? ⟨pb, po + j * 5, none⟩ = some (.int .i64 p.state)
 g1 : ¬ SB g
 g2 : g < w.heap.size
 p1 : ¬ SB pb
 p2 : pb < w.heap.size
theorem Pw.tp {SB : Nat → Prop} {g go pb po pc : Nat} {ps : List Pg} (w : World) (T : Nat → Question → Nat) (d : Nat) (h : Pw SB g go pb po pc ps w) : Pw SB g go pb po pc ps (Go.Proofs.Ytclnogfmmekooaa.tp w T d) := ⟨h.slot, h.st, h.g1, h.g2, h.p1, h.p2⟩
theorem Co.pages {Gd : Option (Nat × Nat × Nat)} {SB A : Nat → Prop} {w0 w : World} {g off d k : Nat} {f : List Bk} {b : Bk} (co : Co (good Gd) SB A w0 w) (hv : VIn (good Gd) A (.slice (some ⟨g, off, none⟩) f.length d)) (hf : Fl (cutW (good Gd) w) (some ⟨g, off, none⟩) f) (hok : flashOk f = true) (hb : f[k]? = some b) :
 ∃ pb po pc, Pw SB g (off + k * 2) pb po pc b.pages w := by
 obtain ⟨hs, hf⟩ := hf
 have hp : ∀ b ∈ f, b.pages ≠ [] := fun b hb e => by have := (flashOk_shape hok b hb).1; rw [e] at this; simp at this
 have hin := fblk_in co.hin hv hf (by rintro rfl; simp at hb) hp
 obtain ⟨⟨xa, xc⟩, hx, y0, _, _, _, hR, _⟩ := hf.at_ hb
 dsimp only at y0 hR
 have hp4 := (flashOk_shape hok b (List.mem_of_getElem? hb)).1
 obtain ⟨pb, po, rfl⟩ := hR.addr (pgs_ne (hp b (List.mem_of_getElem? hb)))
 have hg : A g := hin g (.inl rfl)
 have hpb : A pb := hin pb (.inr ⟨k, _, hx, rfl⟩)
 exact ⟨pb, po, xc, cut_cell y0, fun j p h => cut_cell (hR.pg h).1, fun x => (co.away g x).1 hg, co.lt hg, fun x => (co.away pb x).1 hpb, co.lt hpb⟩
theorem arrt94 (T : Array Value) (h : T.size = 94) : ∃ v0 v1 v2 v3 v4 v5 v6 v7 v8 v9 v10 v11 v12 v13 v14 v15 v16 v17 v18 v19 v20 v21 v22 v23 v24 v25 v26 v27 v28 v29 v30 v31 v32 v33 v34 v35 v36 v37 v38 v39 v40 v41 v42 v43 v44 v45 v46 v47 v48 v49 v50 v51 v52 v53 v54 v55 v56 v57 v58 v59 v60 v61 v62 v63 v64 v65 v66 v67 v68 v69 v70 v71 v72 v73 v74 v75 v76 v77 v78 v79 v80 v81 v82 v83 v84 v85 v86 v87 v88 v89 v90 v91 v92 v93, T = #[v0, v1, v2, v3, v4, v5, v6, v7, v8, v9, v10, v11, v12, v13, v14, v15, v16, v17, v18, v19, v20, v21, v22, v23, v24, v25, v26, v27, v28, v29, v30, v31, v32, v33, v34, v35, v36, v37, v38, v39, v40, v41, v42, v43, v44, v45, v46, v47, v48, v49, v50, v51, v52, v53, v54, v55, v56, v57, v58, v59, v60, v61, v62, v63, v64, v65, v66, v67, v68, v69, v70, v71, v72, v73, v74, v75, v76, v77, v78, v79, v80, v81, v82, v83, v84, v85, v86, v87, v88, v89, v90, v91, v92, v93] := by
 obtain ⟨l⟩ := T
 replace h : l.length = 94 := h
 obtain ⟨v0, l0, e0, h⟩ := cons_of_len h
 obtain ⟨v1, l1, e1, h⟩ := cons_of_len h
 obtain ⟨v2, l2, e2, h⟩ := cons_of_len h
 obtain ⟨v3, l3, e3, h⟩ := cons_of_len h
 obtain ⟨v4, l4, e4, h⟩ := cons_of_len h
 obtain ⟨v5, l5, e5, h⟩ := cons_of_len h
 obtain ⟨v6, l6, e6, h⟩ := cons_of_len h
 obtain ⟨v7, l7, e7, h⟩ := cons_of_len h
 obtain ⟨v8, l8, e8, h⟩ := cons_of_len h
 obtain ⟨v9, l9, e9, h⟩ := cons_of_len h
 obtain ⟨v10, l10, e10, h⟩ := cons_of_len h
 obtain ⟨v11, l11, e11, h⟩ := cons_of_len h
 obtain ⟨v12, l12, e12, h⟩ := cons_of_len h
 obtain ⟨v13, l13, e13, h⟩ := cons_of_len h
 obtain ⟨v14, l14, e14, h⟩ := cons_of_len h
 obtain ⟨v15, l15, e15, h⟩ := cons_of_len h
 obtain ⟨v16, l16, e16, h⟩ := cons_of_len h
 obtain ⟨v17, l17, e17, h⟩ := cons_of_len h
 obtain ⟨v18, l18, e18, h⟩ := cons_of_len h
 obtain ⟨v19, l19, e19, h⟩ := cons_of_len h
 obtain ⟨v20, l20, e20, h⟩ := cons_of_len h
 obtain ⟨v21, l21, e21, h⟩ := cons_of_len h
 obtain ⟨v22, l22, e22, h⟩ := cons_of_len h
 obtain ⟨v23, l23, e23, h⟩ := cons_of_len h
 obtain ⟨v24, l24, e24, h⟩ := cons_of_len h
 obtain ⟨v25, l25, e25, h⟩ := cons_of_len h
 obtain ⟨v26, l26, e26, h⟩ := cons_of_len h
 obtain ⟨v27, l27, e27, h⟩ := cons_of_len h
 obtain ⟨v28, l28, e28, h⟩ := cons_of_len h
 obtain ⟨v29, l29, e29, h⟩ := cons_of_len h
 obtain ⟨v30, l30, e30, h⟩ := cons_of_len h
 obtain ⟨v31, l31, e31, h⟩ := cons_of_len h
 obtain ⟨v32, l32, e32, h⟩ := cons_of_len h
 obtain ⟨v33, l33, e33, h⟩ := cons_of_len h
 obtain ⟨v34, l34, e34, h⟩ := cons_of_len h
 obtain ⟨v35, l35, e35, h⟩ := cons_of_len h
 obtain ⟨v36, l36, e36, h⟩ := cons_of_len h
 obtain ⟨v37, l37, e37, h⟩ := cons_of_len h
 obtain ⟨v38, l38, e38, h⟩ := cons_of_len h
 obtain ⟨v39, l39, e39, h⟩ := cons_of_len h
 obtain ⟨v40, l40, e40, h⟩ := cons_of_len h
 obtain ⟨v41, l41, e41, h⟩ := cons_of_len h
 obtain ⟨v42, l42, e42, h⟩ := cons_of_len h
 obtain ⟨v43, l43, e43, h⟩ := cons_of_len h
 obtain ⟨v44, l44, e44, h⟩ := cons_of_len h
 obtain ⟨v45, l45, e45, h⟩ := cons_of_len h
 obtain ⟨v46, l46, e46, h⟩ := cons_of_len h
 obtain ⟨v47, l47, e47, h⟩ := cons_of_len h
 obtain ⟨v48, l48, e48, h⟩ := cons_of_len h
 obtain ⟨v49, l49, e49, h⟩ := cons_of_len h
 obtain ⟨v50, l50, e50, h⟩ := cons_of_len h
 obtain ⟨v51, l51, e51, h⟩ := cons_of_len h
 obtain ⟨v52, l52, e52, h⟩ := cons_of_len h
 obtain ⟨v53, l53, e53, h⟩ := cons_of_len h
 obtain ⟨v54, l54, e54, h⟩ := cons_of_len h
 obtain ⟨v55, l55, e55, h⟩ := cons_of_len h
 obtain ⟨v56, l56, e56, h⟩ := cons_of_len h
 obtain ⟨v57, l57, e57, h⟩ := cons_of_len h
 obtain ⟨v58, l58, e58, h⟩ := cons_of_len h
 obtain ⟨v59, l59, e59, h⟩ := cons_of_len h
 obtain ⟨v60, l60, e60, h⟩ := cons_of_len h
 obtain ⟨v61, l61, e61, h⟩ := cons_of_len h
 obtain ⟨v62, l62, e62, h⟩ := cons_of_len h
 obtain ⟨v63, l63, e63, h⟩ := cons_of_len h
 obtain ⟨v64, l64, e64, h⟩ := cons_of_len h
 obtain ⟨v65, l65, e65, h⟩ := cons_of_len h
 obtain ⟨v66, l66, e66, h⟩ := cons_of_len h
 obtain ⟨v67, l67, e67, h⟩ := cons_of_len h
 obtain ⟨v68, l68, e68, h⟩ := cons_of_len h
 obtain ⟨v69, l69, e69, h⟩ := cons_of_len h
 obtain ⟨v70, l70, e70, h⟩ := cons_of_len h
 obtain ⟨v71, l71, e71, h⟩ := cons_of_len h
 obtain ⟨v72, l72, e72, h⟩ := cons_of_len h
 obtain ⟨v73, l73, e73, h⟩ := cons_of_len h
 obtain ⟨v74, l74, e74, h⟩ := cons_of_len h
 obtain ⟨v75, l75, e75, h⟩ := cons_of_len h
 obtain ⟨v76, l76, e76, h⟩ := cons_of_len h
 obtain ⟨v77, l77, e77, h⟩ := cons_of_len h
 obtain ⟨v78, l78, e78, h⟩ := cons_of_len h
 obtain ⟨v79, l79, e79, h⟩ := cons_of_len h
 obtain ⟨v80, l80, e80, h⟩ := cons_of_len h
 obtain ⟨v81, l81, e81, h⟩ := cons_of_len h
 obtain ⟨v82, l82, e82, h⟩ := cons_of_len h
 obtain ⟨v83, l83, e83, h⟩ := cons_of_len h
 obtain ⟨v84, l84, e84, h⟩ := cons_of_len h
 obtain ⟨v85, l85, e85, h⟩ := cons_of_len h
 obtain ⟨v86, l86, e86, h⟩ := cons_of_len h
 obtain ⟨v87, l87, e87, h⟩ := cons_of_len h
 obtain ⟨v88, l88, e88, h⟩ := cons_of_len h
 obtain ⟨v89, l89, e89, h⟩ := cons_of_len h
 obtain ⟨v90, l90, e90, h⟩ := cons_of_len h
 obtain ⟨v91, l91, e91, h⟩ := cons_of_len h
 obtain ⟨v92, l92, e92, h⟩ := cons_of_len h
 obtain ⟨v93, l93, e93, h⟩ := cons_of_len h
 have e := List.eq_nil_of_length_eq_zero h
 exact ⟨_, _, _, _, _, _, _, _, _, _, _, _, _, _, _, _, _, _, _, _, _, _, _, _, _, _, _, _, _, _, _, _, _, _, _, _, _, _, _, _, _, _, _, _, _, _, _, _, _, _, _, _, _, _, _, _, _, _, _, _, _, _, _, _, _, _, _, _, _, _, _, _, _, _, _, _, _, _, _, _, _, _, _, _, _, _, _, _, _, _, _, _, _, _, by rw [e0, e1, e2, e3, e4, e5, e6, e7, e8, e9, e10, e11, e12, e13, e14, e15, e16, e17, e18, e19, e20, e21, e22, e23, e24, e25, e26, e27, e28, e29, e30, e31, e32, e33, e34, e35, e36, e37, e38, e39, e40, e41, e42, e43, e44, e45, e46, e47, e48, e49, e50, e51, e52, e53, e54, e55, e56, e57, e58, e59, e60, e61, e62, e63, e64, e65, e66, e67, e68, e69, e70, e71, e72, e73, e74, e75, e76, e77, e78, e79, e80, e81, e82, e83, e84, e85, e86, e87, e88, e89, e90, e91, e92, e93, e]⟩
noncomputable def ltL : Go.Code := match Try.f8.body with | some (.seq _ (.seq _ (.seq _ (.seq _ (.seq _ (.seq _ (.seq _ (.seq (.seq _ (.block _ (.loop c))) _)))))))) => c | _ => .skip
noncomputable def ltT : Go.Code := match Try.f8.body with | some (.seq _ (.seq _ (.seq _ (.seq _ (.seq _ (.seq _ (.seq _ (.seq _ c)))))))) => c | _ => .skip
theorem ltIn {SB : Nat → Prop} {w : World} {g off d k pb po pc : Nat} {f : List Bk} {n : Int} {b : Bk} {Post : Value → World → Prop} (hF : Pw SB g (off + k * 2) pb po pc b.pages w) (hp4 : b.pages.length = 4) (hk4 : (k : Int) < (f.length : Int))
 (next : ∀ T : Array Value, T.size = 94 → T[5]? = some (.slice (some ⟨g, off, none⟩) f.length d) → T[6]? = some (.int .i64 n) → T[7]? = some (.int .i64 (k : Int)) → T[8]? = some (.int .i64 ((tornN b.pages : Int))) → Fine Try.prog Post SB (G ((base 8).at ⟨T, []⟩ [.code ltT]) []) w) :
 ∀ (r m : Nat) (T : Array Value), m + r = 4 → T.size = 94 → T[5]? = some (.slice (some ⟨g, off, none⟩) f.length d) → T[6]? = some (.int .i64 n) → T[7]? = some (.int .i64 (k : Int)) → T[8]? = some (.int .i64 ((tornN (b.pages.take m) : Int))) → T[9]? = some (.int .i64 (m : Int)) → Fine Try.prog Post SB (G ((base 8).at ⟨T, []⟩ [.code ltL, .inLoop ltL, .inBlock 0, .code ltT]) []) w := by
 simp only [ltL, ltT, Try.f8] at next ⊢
 intro r
 induction r with
 | zero =>
   intro m T hm hT t5 t6 t7 t8 t9
   replace next := Lib.hid next
   obtain rfl : m = 4 := by omega
   rw [List.take_of_length_le (by omega)] at t8
   replace hp4 := Lib.hid hp4
   obtain ⟨v0, v1, v2, v3, v4, v5, v6, v7, v8, v9, v10, v11, v12, v13, v14, v15, v16, v17, v18, v19, v20, v21, v22, v23, v24, v25, v26, v27, v28, v29, v30, v31, v32, v33, v34, v35, v36, v37, v38, v39, v40, v41, v42, v43, v44, v45, v46, v47, v48, v49, v50, v51, v52, v53, v54, v55, v56, v57, v58, v59, v60, v61, v62, v63, v64, v65, v66, v67, v68, v69, v70, v71, v72, v73, v74, v75, v76, v77, v78, v79, v80, v81, v82, v83, v84, v85, v86, v87, v88, v89, v90, v91, v92, v93, rfl⟩ := arrt94 T hT
   simp only [List.getElem?_toArray, List.getElem?_cons_succ, List.getElem?_cons_zero, Option.some.injEq] at t5 t6 t7 t8 t9
   subst t5 t6 t7 t8 t9
   refine f_ctl rfl (fun w => stepG_seq) ?_
   refine f_ctl rfl (fun w => stepG_seq) ?_
   refine f_ctl rfl (fun w => stepG_region) ?_
   simp only [List.size_toArray, List.length_cons, List.length_nil, Nat.reduceAdd, Nat.zero_add, List.range, List.range.loop]
   refine f_op rfl rfl (by k_ne) (fun w => ⟨run_eq_of (fun K hK => by go_simp; exact hK), listed_nil (by simp [go_sem, ev_min2, ev_max2, *])⟩) ?_
   walk_nrm
   refine f_op (v := .bool false) rfl rfl (by k_ne) (fun w => ⟨run_eq_of (fun K hK => by have hlt : ¬ ((4 : Nat) : Int) < 4 := (by omega); go_simp; exact hK), listed_nil (by have hlt : ¬ ((4 : Nat) : Int) < 4 := (by omega); simp [go_sem, ev_min2, ev_max2, *])⟩) ?_
   walk_nrm
   refine f_ctl rfl (fun w => stepG_region_end) ?_
   refine f_ctl rfl (fun w => stepG_cond (t := false) (by simp [Act.eval])) ?_
   simp only [if_true, Bool.false_eq_true, if_false]
   refine f_ctl rfl (fun w => stepG_exit rfl) ?_
   exact next.out _ rfl rfl rfl rfl rfl
 | succ r ih =>
   intro m T hm hT t5 t6 t7 t8 t9
   clear next
   replace ih := Lib.hid ih
   obtain ⟨p, hp⟩ := get_some (l := b.pages) (k := m) (by omega)
   have hm4 : (m : Int) < 4 := by omega
   have hm5 : (m : Int) < (b.pages.length : Int) := by omega
   have hm1 : IntKind.i64.wrap ((m : Int) + 1) = ((m + 1 : Nat) : Int) := by rw [IntKind.wrap_i64]; omega
   have hle := tornN_le (b.pages.take m)
   have hle2 : (b.pages.take m).length ≤ 4 := by rw [List.length_take]; omega
   have hadd : IntKind.i64.wrap ((tornN (b.pages.take m) : Int) + 1) = (tornN (b.pages.take m) : Int) + 1 := by rw [IntKind.wrap_i64]; omega
   have hst : (tornN (b.pages.take (m + 1)) : Int) = (tornN (b.pages.take m) : Int) + if p.state = 2 then 1 else 0 := by
    rw [List.take_add_one, hp]
    show ((List.countP _ (_ ++ [p]) : Nat) : Int) = _
    rw [List.countP_append, List.countP_singleton]
    unfold tornN
    by_cases e : p.state = 2
    · simp [e]
    · simp [e]
   replace hst := Lib.hid hst
   replace hp4 := Lib.hid hp4
   replace hm := Lib.hid hm
   clear hle hle2
   obtain ⟨v0, v1, v2, v3, v4, v5, v6, v7, v8, v9, v10, v11, v12, v13, v14, v15, v16, v17, v18, v19, v20, v21, v22, v23, v24, v25, v26, v27, v28, v29, v30, v31, v32, v33, v34, v35, v36, v37, v38, v39, v40, v41, v42, v43, v44, v45, v46, v47, v48, v49, v50, v51, v52, v53, v54, v55, v56, v57, v58, v59, v60, v61, v62, v63, v64, v65, v66, v67, v68, v69, v70, v71, v72, v73, v74, v75, v76, v77, v78, v79, v80, v81, v82, v83, v84, v85, v86, v87, v88, v89, v90, v91, v92, v93, rfl⟩ := arrt94 T hT
   simp only [List.getElem?_toArray, List.getElem?_cons_succ, List.getElem?_cons_zero, Option.some.injEq] at t5 t6 t7 t8 t9
   subst t5 t6 t7 t8 t9
   refine f_ctl rfl (fun w => stepG_seq) ?_
   refine f_ctl rfl (fun w => stepG_seq) ?_
   refine f_ctl rfl (fun w => stepG_region) ?_
   simp only [List.size_toArray, List.length_cons, List.length_nil, Nat.reduceAdd, Nat.zero_add, List.range, List.range.loop]
   refine f_op rfl rfl (by k_ne) (fun w => ⟨run_eq_of (fun K hK => by go_simp; exact hK), listed_nil (by simp [go_sem, ev_min2, ev_max2, *])⟩) ?_
   walk_nrm
   refine f_op (v := .bool true) rfl rfl (by k_ne) (fun w => ⟨run_eq_of (fun K hK => by have h1 := hm4; go_simp; exact hK), listed_nil (by have h1 := hm4; simp [go_sem, ev_min2, ev_max2, *])⟩) ?_
   walk_nrm
   refine f_ctl rfl (fun w => stepG_region_end) ?_
   refine f_ctl rfl (fun w => stepG_cond (t := true) (by simp [Act.eval])) ?_
   simp only [if_true, Bool.false_eq_true, if_false]
   refine f_ctl rfl (fun w => stepG_skip) ?_
   refine f_ctl rfl (fun w => stepG_seq) ?_
   refine f_ctl rfl (fun w => stepG_block) ?_
   refine f_ctl rfl (fun w => stepG_seq) ?_
   refine f_ctl rfl (fun w => stepG_region) ?_
   simp only [List.size_toArray, List.length_cons, List.length_nil, Nat.reduceAdd, Nat.zero_add, List.range, List.range.loop]
   refine f_op rfl rfl (by k_ne) (fun w => ⟨run_eq_of (fun K hK => by go_simp; exact hK), listed_nil (by simp [go_sem, ev_min2, ev_max2, *])⟩) ?_
   walk_nrm
   refine f_op rfl rfl (by k_ne) (fun w => ⟨run_eq_of (fun K hK => by go_simp; exact hK), listed_nil (by simp [go_sem, ev_min2, ev_max2, *])⟩) ?_
   walk_nrm
   refine f_op rfl rfl (by k_ne) (fun w => ⟨run_eq_of (fun K hK => by have h1 := hk4; go_simp; exact hK), listed_nil (by have h1 := hk4; simp [go_sem, ev_min2, ev_max2, *])⟩) ?_
   walk_nrm
   refine f_op rfl rfl (by k_ne) (fun w => ⟨run_eq_of (fun K hK => by go_simp; exact hK), listed_nil (by simp [go_sem, ev_min2, ev_max2, *])⟩) ?_
   walk_nrm
   refine f_val (F := Pw SB g (off + k * 2) pb po pc b.pages) Pw.tp hF rfl rfl (by k_ne) (v := .slice (some ⟨pb, po, none⟩) b.pages.length pc) (fun w hw => ⟨run_eq_of (fun K hK => by have h0 := hw.slot; go_simp; exact hK), by have h0 := hw.slot; intro e he; have hm := mem_listed he; simp [go_sem, *] at hm; subst hm; exact ⟨hw.g1, hw.g2⟩⟩) ?_
   walk_nrm
   refine f_op rfl rfl (by k_ne) (fun w => ⟨run_eq_of (fun K hK => by go_simp; exact hK), listed_nil (by simp [go_sem, ev_min2, ev_max2, *])⟩) ?_
   walk_nrm
   refine f_op rfl rfl (by k_ne) (fun w => ⟨run_eq_of (fun K hK => by have h1 := hm5; go_simp; exact hK), listed_nil (by have h1 := hm5; simp [go_sem, ev_min2, ev_max2, *])⟩) ?_
   walk_nrm
   refine f_op rfl rfl (by k_ne) (fun w => ⟨run_eq_of (fun K hK => by go_simp; exact hK), listed_nil (by simp [go_sem, ev_min2, ev_max2, *])⟩) ?_
   walk_nrm
   refine f_val (F := Pw SB g (off + k * 2) pb po pc b.pages) Pw.tp hF rfl rfl (by k_ne) (v := .int .i64 p.state) (fun w hw => ⟨run_eq_of (fun K hK => by have h0 := hw.st _ _ hp; go_simp; exact hK), by have h0 := hw.st _ _ hp; intro e he; have hm := mem_listed he; simp [go_sem, *] at hm; subst hm; exact ⟨hw.p1, hw.p2⟩⟩) ?_
   walk_nrm
   by_cases he : p.state = 2
   · replace hst := Lib.hid (hst.out.trans (by rw [if_pos he]))
     have hq : (p.state == 2) = true := by rw [he]; rfl
     refine f_op (v := .bool true) rfl rfl (by k_ne) (fun w => ⟨run_eq_of (fun K hK => by have h1 := hq; go_simp; exact hK), listed_nil (by have h1 := hq; simp [go_sem, ev_min2, ev_max2, *])⟩) ?_
     walk_nrm
     refine f_ctl rfl (fun w => stepG_region_end) ?_
     refine f_ctl rfl (fun w => stepG_cond (t := true) (by simp [Act.eval])) ?_
     simp only [if_true, Bool.false_eq_true, if_false]
     refine f_ctl rfl (fun w => stepG_region) ?_
     simp only [List.size_toArray, List.length_cons, List.length_nil, Nat.reduceAdd, Nat.zero_add, List.range, List.range.loop]
     refine f_op rfl rfl (by k_ne) (fun w => ⟨run_eq_of (fun K hK => by go_simp; exact hK), listed_nil (by simp [go_sem, ev_min2, ev_max2, *])⟩) ?_
     walk_nrm
     refine f_op (v := .int .i64 ((tornN (b.pages.take m) : Int) + 1)) rfl rfl (by k_ne) (fun w => ⟨run_eq_of (fun K hK => by have h1 := hadd; go_simp; exact hK), listed_nil (by have h1 := hadd; simp [go_sem, ev_min2, ev_max2, *])⟩) ?_
     walk_nrm
     refine f_op rfl rfl (by k_ne) (fun w => ⟨run_eq_of (fun K hK => by go_simp; exact hK), listed_nil (by simp [go_sem, ev_min2, ev_max2, *])⟩) ?_
     walk_nrm
     refine f_ctl rfl (fun w => stepG_region_end) ?_
     refine f_ctl rfl (fun w => stepG_inBlock) ?_
     refine f_ctl rfl (fun w => stepG_region) ?_
     simp only [List.size_toArray, List.length_cons, List.length_nil, Nat.reduceAdd, Nat.zero_add, List.range, List.range.loop]
     refine f_op rfl rfl (by k_ne) (fun w => ⟨run_eq_of (fun K hK => by go_simp; exact hK), listed_nil (by simp [go_sem, ev_min2, ev_max2, *])⟩) ?_
     walk_nrm
     refine f_op (v := .int .i64 ((m + 1 : Nat) : Int)) rfl rfl (by k_ne) (fun w => ⟨run_eq_of (fun K hK => by have h1 := hm1; go_simp; exact hK), listed_nil (by have h1 := hm1; simp [go_sem, ev_min2, ev_max2, *])⟩) ?_
     walk_nrm
     refine f_op rfl rfl (by k_ne) (fun w => ⟨run_eq_of (fun K hK => by go_simp; exact hK), listed_nil (by simp [go_sem, ev_min2, ev_max2, *])⟩) ?_
     walk_nrm
     refine f_ctl rfl (fun w => stepG_region_end) ?_
     refine f_ctl rfl (fun w => stepG_inLoop) ?_
     exact ih.out (m + 1) _ (by have := hm.out; omega) rfl rfl rfl rfl (by rw [hst.out]; rfl) rfl
   · replace hst := Lib.hid (hst.out.trans (by rw [if_neg he, Int.add_zero]))
     have hq : (p.state == 2) = false := by simpa using he
     refine f_op (v := .bool false) rfl rfl (by k_ne) (fun w => ⟨run_eq_of (fun K hK => by have h1 := hq; go_simp; exact hK), listed_nil (by have h1 := hq; simp [go_sem, ev_min2, ev_max2, *])⟩) ?_
     walk_nrm
     refine f_ctl rfl (fun w => stepG_region_end) ?_
     refine f_ctl rfl (fun w => stepG_cond (t := false) (by simp [Act.eval])) ?_
     simp only [if_true, Bool.false_eq_true, if_false]
     refine f_ctl rfl (fun w => stepG_skip) ?_
     refine f_ctl rfl (fun w => stepG_inBlock) ?_
     refine f_ctl rfl (fun w => stepG_region) ?_
     simp only [List.size_toArray, List.length_cons, List.length_nil, Nat.reduceAdd, Nat.zero_add, List.range, List.range.loop]
     refine f_op rfl rfl (by k_ne) (fun w => ⟨run_eq_of (fun K hK => by go_simp; exact hK), listed_nil (by simp [go_sem, ev_min2, ev_max2, *])⟩) ?_
     walk_nrm
     refine f_op (v := .int .i64 ((m + 1 : Nat) : Int)) rfl rfl (by k_ne) (fun w => ⟨run_eq_of (fun K hK => by have h1 := hm1; go_simp; exact hK), listed_nil (by have h1 := hm1; simp [go_sem, ev_min2, ev_max2, *])⟩) ?_
     walk_nrm
     refine f_op rfl rfl (by k_ne) (fun w => ⟨run_eq_of (fun K hK => by go_simp; exact hK), listed_nil (by simp [go_sem, ev_min2, ev_max2, *])⟩) ?_
     walk_nrm
     refine f_ctl rfl (fun w => stepG_region_end) ?_
     refine f_ctl rfl (fun w => stepG_inLoop) ?_
     exact ih.out (m + 1) _ (by have := hm.out; omega) rfl rfl rfl rfl (by rw [hst.out]; rfl) rfl
end Go.Proofs.Ytclnogfmmekooaa
