/- What the laws' walks share: words, plain laws, and the walks of functions, part 2. -/
import Derived.Test.YtclnogfmmekooaaZ1
namespace Go.Proofs.Ytclnogfmmekooaa
set_option linter.unusedVariables false
set_option linter.unusedSimpArgs false
open Go.Conc
section
variable {P : Program} {G : Cfg} {A : Nat → Prop}
theorem fr_checkKey {b : Bool} : ∀ (d : Nat) (t : TypeId) (v : Value), VIn G A v → ∀ {Q : (Nat → Prop) → Unit → Prop}, Q A () → Sem.Fr P G (Instr.checkKey b d t v) A Q
 | 0, _, _, _, _, _ => fr_unsup (by simp)
 | d + 1, t, v, hv, Q, h => by
   unfold Instr.checkKey
   refine fr_bind ?_
   refine fr_underlying fun ty _ => ?_
   split
   · (repeat' (first | (with_reducible exact fr_stuck) | (with_reducible exact fr_panic) | (with_reducible exact fr_boundsPanic) | (with_reducible exact fr_runtimePanic (by simp)) | (with_reducible exact fr_unsup (by simp)) | (with_reducible refine fr_program ?_) | (with_reducible refine fr_mayShare (fun _ => ?_) (fun _ => ?_)) | (with_reducible exact never_unsup) | (with_reducible refine never_bindR fun _ => ?_) | (with_reducible refine fr_shapeB (fun _ => ?_) (ShOk.same (by intros; rfl))) | (with_reducible refine fr_bind ?_) | (with_reducible refine fr_pure ?_) | (with_reducible refine fr_typeInfo fun _ _ => ?_) | (with_reducible refine fr_underlying fun _ _ => ?_) | (with_reducible refine fr_sizeOf fun _ => ?_) | (with_reducible refine fr_isAgg fun _ => ?_) | (with_reducible refine fr_choose fun _ => ?_) | (with_reducible refine fr_map ?_) | (with_reducible refine fr_asIntOf fun _ => ?_) | (with_reducible refine fr_asInt fun _ => ?_) | (with_reducible refine fr_asBool fun _ => ?_)  | (with_reducible refine fr_frozen fun _ => ?_) | (with_reducible refine fr_typeStr fun _ => ?_) | (with_reducible refine fr_elemOf fun _ => ?_) | (with_reducible refine fr_zeroValue (by assumption) (by first | assumption | exact he _ (by assumption)) fun _ _ => ?_) | (with_reducible refine fr_sureAddr (by assumption) fun _ _ => ?_) | (with_reducible refine fr_asAddr (by assumption) fun _ _ => ?_) | (with_reducible refine fr_asAgg (by assumption) fun _ _ => ?_) | (with_reducible refine fr_sliceBound fun _ => ?_) | (with_reducible refine fr_sliceBounds fun _ => ?_) | (with_reducible refine fr_askRoom ?_) | (with_reducible refine fr_byteOf (by assumption) fun _ => ?_) | (with_reducible refine fr_loadVar (by assumption) fun _ _ => ?_) | (with_reducible refine fr_part (by assumption) fun _ _ => ?_) | (with_reducible refine fr_fieldPlace (by assumption) fun _ _ => ?_) | (with_reducible refine fr_lenOf fun _ => ?_) | (with_reducible refine fr_mayShare fun _ => ?_) | (with_reducible refine fr_firstCells (by assumption) fun _ _ => ?_) | (with_reducible refine fr_noRoom ?_) | split | dsimp only))
     all_goals first | exact fr_checkKey d _ _ (iface_in hv) h | skip
   · have hc := agg_in hv
     refine fr_bind (fr_forInR (I := fun _ => True) trivial (fun s _ => fr_pure h) (fun f s Q' _ hd hy' => ?_))
     (repeat' (first | (with_reducible exact fr_stuck) | (with_reducible exact fr_panic) | (with_reducible exact fr_boundsPanic) | (with_reducible exact fr_runtimePanic (by simp)) | (with_reducible exact fr_unsup (by simp)) | (with_reducible refine fr_program ?_) | (with_reducible refine fr_mayShare (fun _ => ?_) (fun _ => ?_)) | (with_reducible exact never_unsup) | (with_reducible refine never_bindR fun _ => ?_) | (with_reducible refine fr_shapeB (fun _ => ?_) (ShOk.same (by intros; rfl))) | (with_reducible refine fr_bind ?_) | (with_reducible refine fr_pure ?_) | (with_reducible refine fr_typeInfo fun _ _ => ?_) | (with_reducible refine fr_underlying fun _ _ => ?_) | (with_reducible refine fr_sizeOf fun _ => ?_) | (with_reducible refine fr_isAgg fun _ => ?_) | (with_reducible refine fr_choose fun _ => ?_) | (with_reducible refine fr_map ?_) | (with_reducible refine fr_asIntOf fun _ => ?_) | (with_reducible refine fr_asInt fun _ => ?_) | (with_reducible refine fr_asBool fun _ => ?_)  | (with_reducible refine fr_frozen fun _ => ?_) | (with_reducible refine fr_typeStr fun _ => ?_) | (with_reducible refine fr_elemOf fun _ => ?_) | (with_reducible refine fr_zeroValue (by assumption) (by first | assumption | exact he _ (by assumption)) fun _ _ => ?_) | (with_reducible refine fr_sureAddr (by assumption) fun _ _ => ?_) | (with_reducible refine fr_asAddr (by assumption) fun _ _ => ?_) | (with_reducible refine fr_asAgg (by assumption) fun _ _ => ?_) | (with_reducible refine fr_sliceBound fun _ => ?_) | (with_reducible refine fr_sliceBounds fun _ => ?_) | (with_reducible refine fr_askRoom ?_) | (with_reducible refine fr_byteOf (by assumption) fun _ => ?_) | (with_reducible refine fr_loadVar (by assumption) fun _ _ => ?_) | (with_reducible refine fr_part (by assumption) fun _ _ => ?_) | (with_reducible refine fr_fieldPlace (by assumption) fun _ _ => ?_) | (with_reducible refine fr_lenOf fun _ => ?_) | (with_reducible refine fr_mayShare fun _ => ?_) | (with_reducible refine fr_firstCells (by assumption) fun _ _ => ?_) | (with_reducible refine fr_noRoom ?_) | split | dsimp only))
     refine fr_checkKey d _ _ (by assumption) ?_
     (repeat' (first | (with_reducible exact fr_stuck) | (with_reducible exact fr_panic) | (with_reducible exact fr_boundsPanic) | (with_reducible exact fr_runtimePanic (by simp)) | (with_reducible exact fr_unsup (by simp)) | (with_reducible refine fr_program ?_) | (with_reducible refine fr_mayShare (fun _ => ?_) (fun _ => ?_)) | (with_reducible exact never_unsup) | (with_reducible refine never_bindR fun _ => ?_) | (with_reducible refine fr_shapeB (fun _ => ?_) (ShOk.same (by intros; rfl))) | (with_reducible refine fr_bind ?_) | (with_reducible refine fr_pure ?_) | (with_reducible refine fr_typeInfo fun _ _ => ?_) | (with_reducible refine fr_underlying fun _ _ => ?_) | (with_reducible refine fr_sizeOf fun _ => ?_) | (with_reducible refine fr_isAgg fun _ => ?_) | (with_reducible refine fr_choose fun _ => ?_) | (with_reducible refine fr_map ?_) | (with_reducible refine fr_asIntOf fun _ => ?_) | (with_reducible refine fr_asInt fun _ => ?_) | (with_reducible refine fr_asBool fun _ => ?_)  | (with_reducible refine fr_frozen fun _ => ?_) | (with_reducible refine fr_typeStr fun _ => ?_) | (with_reducible refine fr_elemOf fun _ => ?_) | (with_reducible refine fr_zeroValue (by assumption) (by first | assumption | exact he _ (by assumption)) fun _ _ => ?_) | (with_reducible refine fr_sureAddr (by assumption) fun _ _ => ?_) | (with_reducible refine fr_asAddr (by assumption) fun _ _ => ?_) | (with_reducible refine fr_asAgg (by assumption) fun _ _ => ?_) | (with_reducible refine fr_sliceBound fun _ => ?_) | (with_reducible refine fr_sliceBounds fun _ => ?_) | (with_reducible refine fr_askRoom ?_) | (with_reducible refine fr_byteOf (by assumption) fun _ => ?_) | (with_reducible refine fr_loadVar (by assumption) fun _ _ => ?_) | (with_reducible refine fr_part (by assumption) fun _ _ => ?_) | (with_reducible refine fr_fieldPlace (by assumption) fun _ _ => ?_) | (with_reducible refine fr_lenOf fun _ => ?_) | (with_reducible refine fr_mayShare fun _ => ?_) | (with_reducible refine fr_firstCells (by assumption) fun _ _ => ?_) | (with_reducible refine fr_noRoom ?_) | split | dsimp only))
     exact hy' _ trivial
   · have hc := agg_in hv
     refine fr_bind (fr_forInA (I := fun _ => True) trivial (fun s _ => fr_pure h) (fun f s Q' _ hd hy' => ?_))
     (repeat' (first | (with_reducible exact fr_stuck) | (with_reducible exact fr_panic) | (with_reducible exact fr_boundsPanic) | (with_reducible exact fr_runtimePanic (by simp)) | (with_reducible exact fr_unsup (by simp)) | (with_reducible refine fr_program ?_) | (with_reducible refine fr_mayShare (fun _ => ?_) (fun _ => ?_)) | (with_reducible exact never_unsup) | (with_reducible refine never_bindR fun _ => ?_) | (with_reducible refine fr_shapeB (fun _ => ?_) (ShOk.same (by intros; rfl))) | (with_reducible refine fr_bind ?_) | (with_reducible refine fr_pure ?_) | (with_reducible refine fr_typeInfo fun _ _ => ?_) | (with_reducible refine fr_underlying fun _ _ => ?_) | (with_reducible refine fr_sizeOf fun _ => ?_) | (with_reducible refine fr_isAgg fun _ => ?_) | (with_reducible refine fr_choose fun _ => ?_) | (with_reducible refine fr_map ?_) | (with_reducible refine fr_asIntOf fun _ => ?_) | (with_reducible refine fr_asInt fun _ => ?_) | (with_reducible refine fr_asBool fun _ => ?_)  | (with_reducible refine fr_frozen fun _ => ?_) | (with_reducible refine fr_typeStr fun _ => ?_) | (with_reducible refine fr_elemOf fun _ => ?_) | (with_reducible refine fr_zeroValue (by assumption) (by first | assumption | exact he _ (by assumption)) fun _ _ => ?_) | (with_reducible refine fr_sureAddr (by assumption) fun _ _ => ?_) | (with_reducible refine fr_asAddr (by assumption) fun _ _ => ?_) | (with_reducible refine fr_asAgg (by assumption) fun _ _ => ?_) | (with_reducible refine fr_sliceBound fun _ => ?_) | (with_reducible refine fr_sliceBounds fun _ => ?_) | (with_reducible refine fr_askRoom ?_) | (with_reducible refine fr_byteOf (by assumption) fun _ => ?_) | (with_reducible refine fr_loadVar (by assumption) fun _ _ => ?_) | (with_reducible refine fr_part (by assumption) fun _ _ => ?_) | (with_reducible refine fr_fieldPlace (by assumption) fun _ _ => ?_) | (with_reducible refine fr_lenOf fun _ => ?_) | (with_reducible refine fr_mayShare fun _ => ?_) | (with_reducible refine fr_firstCells (by assumption) fun _ _ => ?_) | (with_reducible refine fr_noRoom ?_) | split | dsimp only))
     all_goals first | exact hy' _ trivial | refine fr_checkKey d _ _ (by assumption) ?_
     all_goals (repeat' (first | (with_reducible exact fr_stuck) | (with_reducible exact fr_panic) | (with_reducible exact fr_boundsPanic) | (with_reducible exact fr_runtimePanic (by simp)) | (with_reducible exact fr_unsup (by simp)) | (with_reducible refine fr_program ?_) | (with_reducible refine fr_mayShare (fun _ => ?_) (fun _ => ?_)) | (with_reducible exact never_unsup) | (with_reducible refine never_bindR fun _ => ?_) | (with_reducible refine fr_shapeB (fun _ => ?_) (ShOk.same (by intros; rfl))) | (with_reducible refine fr_bind ?_) | (with_reducible refine fr_pure ?_) | (with_reducible refine fr_typeInfo fun _ _ => ?_) | (with_reducible refine fr_underlying fun _ _ => ?_) | (with_reducible refine fr_sizeOf fun _ => ?_) | (with_reducible refine fr_isAgg fun _ => ?_) | (with_reducible refine fr_choose fun _ => ?_) | (with_reducible refine fr_map ?_) | (with_reducible refine fr_asIntOf fun _ => ?_) | (with_reducible refine fr_asInt fun _ => ?_) | (with_reducible refine fr_asBool fun _ => ?_)  | (with_reducible refine fr_frozen fun _ => ?_) | (with_reducible refine fr_typeStr fun _ => ?_) | (with_reducible refine fr_elemOf fun _ => ?_) | (with_reducible refine fr_zeroValue (by assumption) (by first | assumption | exact he _ (by assumption)) fun _ _ => ?_) | (with_reducible refine fr_sureAddr (by assumption) fun _ _ => ?_) | (with_reducible refine fr_asAddr (by assumption) fun _ _ => ?_) | (with_reducible refine fr_asAgg (by assumption) fun _ _ => ?_) | (with_reducible refine fr_sliceBound fun _ => ?_) | (with_reducible refine fr_sliceBounds fun _ => ?_) | (with_reducible refine fr_askRoom ?_) | (with_reducible refine fr_byteOf (by assumption) fun _ => ?_) | (with_reducible refine fr_loadVar (by assumption) fun _ _ => ?_) | (with_reducible refine fr_part (by assumption) fun _ _ => ?_) | (with_reducible refine fr_fieldPlace (by assumption) fun _ _ => ?_) | (with_reducible refine fr_lenOf fun _ => ?_) | (with_reducible refine fr_mayShare fun _ => ?_) | (with_reducible refine fr_firstCells (by assumption) fun _ _ => ?_) | (with_reducible refine fr_noRoom ?_) | split | dsimp only))
     all_goals exact hy' _ trivial
   · exact fr_pure h
   · exact fr_stuck
   · exact fr_stuck
   · exact fr_stuck
   · exact fr_pure h
theorem fr_findAsking {t : TypeId} {k : Value} (h9 : eqOk P 9 t = true) (hk : VIn G A k) : ∀ (es : List MapEntry) (i : Nat), (∀ e ∈ es, VIn G A e.key ∧ VIn G A e.val) → ∀ {Q : (Nat → Prop) → Option (Nat × Value) → Prop}, (∀ x, (∀ p, x = some p → VIn G A p.2) → Q A x) → Sem.Fr P G (Instr.findAsking t k es i) A Q
 | [], i, _, Q, h => fr_pure (h _ (by simp))
 | e :: es, i, he, Q, h => by
   unfold Instr.findAsking
   refine fr_bind (fr_equal h9 hk (he e (by simp)).1 fun b => ?_)
   split
   · exact fr_pure (h _ (by intro p e'; cases e'; exact (he e (by simp)).2))
   · exact fr_findAsking h9 hk es (i + 1) (fun x hx => he x (by simp [hx])) h
theorem findNow_in {d : TypeDesc} {k : Value} : ∀ (es : List MapEntry) (i : Nat), (∀ e ∈ es, VIn G A e.key ∧ VIn G A e.val) → ∀ r, Instr.findNow d k es i = some r → ∀ p, r = some p → VIn G A p.2
 | [], i, _, r, e, p, ep => by simp [Instr.findNow] at e; subst e; cases ep
 | x :: es, i, he, r, e, p, ep => by
   simp only [Instr.findNow] at e
   split at e
   · cases e; cases ep; exact (he x (by simp)).2
   · exact findNow_in es (i + 1) (fun y hy => he y (by simp [hy])) r e p ep
   · cases e
theorem fr_findKey {t : TypeId} {k : Value} (h9 : eqOk P 9 t = true) (hk : VIn G A k) {es : List MapEntry} (he : ∀ e ∈ es, VIn G A e.key ∧ VIn G A e.val) {Q : (Nat → Prop) → Option (Nat × Value) → Prop} (h : ∀ x, (∀ p, x = some p → VIn G A p.2) → Q A x) : Sem.Fr P G (Instr.findKey t k es) A Q := by
 unfold Instr.findKey
 refine fr_bind ?_
 refine fr_underlying fun d _ => ?_
 split
 · rename_i r hr; exact fr_pure (h _ (findNow_in es 0 he r hr))
 · exact fr_findAsking h9 hk es 0 he h
theorem map_in {r : Nat} (h : VIn G A (.map (some r))) : A r := by cases h; assumption
theorem omap_in {r : Nat} {es : Array MapEntry} {c : Nat} (h : OIn P G A r (.map es c)) : ∀ e ∈ es, VIn G A e.key ∧ VIn G A e.val := by cases h; assumption
theorem tup2_in {v : Value} (hv : VIn G A v) (b : Bool) : VIn G A (.tuple #[v, .bool b]) := by
 refine .tuple fun y hy => ?_
 simp only [List.mem_toArray, List.mem_cons, List.not_mem_nil, or_false] at hy
 rcases hy with rfl | rfl
 · exact hv
 · exact .bool _
theorem fr_lookup (hP : Clean1 P G) {t : TypeId} (hkk : ∀ k e, P.underlying t = some (.map k e) → eqOk P 9 k = true) (he : ∀ k e, P.underlying t = some (.map k e) → e < P.types.size) {x k : Value} (hx : VIn G A x) (hk : VIn G A k) {ok : Bool} {Q : (Nat → Prop) → Value → Prop} (h : ∀ v, VIn G A v → Q A v) : Sem.Fr P G (Instr.lookup t x k ok) A Q := by
 unfold Instr.lookup
 refine fr_bind ?_
 refine fr_underlying fun d _ => ?_
 split
 case h_2 => exact fr_stuck
 have h9 := hkk _ _ (by assumption)
 have he := he _ _ (by assumption)
 dsimp only
 split
 · (repeat' (first | (with_reducible exact fr_stuck) | (with_reducible exact fr_panic) | (with_reducible exact fr_boundsPanic) | (with_reducible exact fr_runtimePanic (by simp)) | (with_reducible exact fr_unsup (by simp)) | (with_reducible refine fr_program ?_) | (with_reducible refine fr_mayShare (fun _ => ?_) (fun _ => ?_)) | (with_reducible exact never_unsup) | (with_reducible refine never_bindR fun _ => ?_) | (with_reducible refine fr_shapeB (fun _ => ?_) (ShOk.same (by intros; rfl))) | (with_reducible refine fr_bind ?_) | (with_reducible refine fr_pure ?_) | (with_reducible refine fr_typeInfo fun _ _ => ?_) | (with_reducible refine fr_underlying fun _ _ => ?_) | (with_reducible refine fr_sizeOf fun _ => ?_) | (with_reducible refine fr_isAgg fun _ => ?_) | (with_reducible refine fr_choose fun _ => ?_) | (with_reducible refine fr_map ?_) | (with_reducible refine fr_asIntOf fun _ => ?_) | (with_reducible refine fr_asInt fun _ => ?_) | (with_reducible refine fr_asBool fun _ => ?_)  | (with_reducible refine fr_frozen fun _ => ?_) | (with_reducible refine fr_typeStr fun _ => ?_) | (with_reducible refine fr_elemOf fun _ => ?_) | (with_reducible refine fr_zeroValue (by assumption) (by first | assumption | exact he _ (by assumption)) fun _ _ => ?_) | (with_reducible refine fr_sureAddr (by assumption) fun _ _ => ?_) | (with_reducible refine fr_asAddr (by assumption) fun _ _ => ?_) | (with_reducible refine fr_asAgg (by assumption) fun _ _ => ?_) | (with_reducible refine fr_sliceBound fun _ => ?_) | (with_reducible refine fr_sliceBounds fun _ => ?_) | (with_reducible refine fr_askRoom ?_) | (with_reducible refine fr_byteOf (by assumption) fun _ => ?_) | (with_reducible refine fr_loadVar (by assumption) fun _ _ => ?_) | (with_reducible refine fr_part (by assumption) fun _ _ => ?_) | (with_reducible refine fr_fieldPlace (by assumption) fun _ _ => ?_) | (with_reducible refine fr_lenOf fun _ => ?_) | (with_reducible refine fr_mayShare fun _ => ?_) | (with_reducible refine fr_firstCells (by assumption) fun _ _ => ?_) | (with_reducible refine fr_noRoom ?_) | split | dsimp only))
   all_goals refine fr_checkKey _ _ _ hk ?_
   all_goals (repeat' (first | (with_reducible exact fr_stuck) | (with_reducible exact fr_panic) | (with_reducible exact fr_boundsPanic) | (with_reducible exact fr_runtimePanic (by simp)) | (with_reducible exact fr_unsup (by simp)) | (with_reducible refine fr_program ?_) | (with_reducible refine fr_mayShare (fun _ => ?_) (fun _ => ?_)) | (with_reducible exact never_unsup) | (with_reducible refine never_bindR fun _ => ?_) | (with_reducible refine fr_shapeB (fun _ => ?_) (ShOk.same (by intros; rfl))) | (with_reducible refine fr_bind ?_) | (with_reducible refine fr_pure ?_) | (with_reducible refine fr_typeInfo fun _ _ => ?_) | (with_reducible refine fr_underlying fun _ _ => ?_) | (with_reducible refine fr_sizeOf fun _ => ?_) | (with_reducible refine fr_isAgg fun _ => ?_) | (with_reducible refine fr_choose fun _ => ?_) | (with_reducible refine fr_map ?_) | (with_reducible refine fr_asIntOf fun _ => ?_) | (with_reducible refine fr_asInt fun _ => ?_) | (with_reducible refine fr_asBool fun _ => ?_)  | (with_reducible refine fr_frozen fun _ => ?_) | (with_reducible refine fr_typeStr fun _ => ?_) | (with_reducible refine fr_elemOf fun _ => ?_) | (with_reducible refine fr_zeroValue (by assumption) (by first | assumption | exact he _ (by assumption)) fun _ _ => ?_) | (with_reducible refine fr_sureAddr (by assumption) fun _ _ => ?_) | (with_reducible refine fr_asAddr (by assumption) fun _ _ => ?_) | (with_reducible refine fr_asAgg (by assumption) fun _ _ => ?_) | (with_reducible refine fr_sliceBound fun _ => ?_) | (with_reducible refine fr_sliceBounds fun _ => ?_) | (with_reducible refine fr_askRoom ?_) | (with_reducible refine fr_byteOf (by assumption) fun _ => ?_) | (with_reducible refine fr_loadVar (by assumption) fun _ _ => ?_) | (with_reducible refine fr_part (by assumption) fun _ _ => ?_) | (with_reducible refine fr_fieldPlace (by assumption) fun _ _ => ?_) | (with_reducible refine fr_lenOf fun _ => ?_) | (with_reducible refine fr_mayShare fun _ => ?_) | (with_reducible refine fr_firstCells (by assumption) fun _ _ => ?_) | (with_reducible refine fr_noRoom ?_) | split | dsimp only))
   all_goals refine fr_findKey h9 hk (by simp) fun r hr => ?_
   all_goals (repeat' (first | (with_reducible exact fr_stuck) | (with_reducible exact fr_panic) | (with_reducible exact fr_boundsPanic) | (with_reducible exact fr_runtimePanic (by simp)) | (with_reducible exact fr_unsup (by simp)) | (with_reducible refine fr_program ?_) | (with_reducible refine fr_mayShare (fun _ => ?_) (fun _ => ?_)) | (with_reducible exact never_unsup) | (with_reducible refine never_bindR fun _ => ?_) | (with_reducible refine fr_shapeB (fun _ => ?_) (ShOk.same (by intros; rfl))) | (with_reducible refine fr_bind ?_) | (with_reducible refine fr_pure ?_) | (with_reducible refine fr_typeInfo fun _ _ => ?_) | (with_reducible refine fr_underlying fun _ _ => ?_) | (with_reducible refine fr_sizeOf fun _ => ?_) | (with_reducible refine fr_isAgg fun _ => ?_) | (with_reducible refine fr_choose fun _ => ?_) | (with_reducible refine fr_map ?_) | (with_reducible refine fr_asIntOf fun _ => ?_) | (with_reducible refine fr_asInt fun _ => ?_) | (with_reducible refine fr_asBool fun _ => ?_)  | (with_reducible refine fr_frozen fun _ => ?_) | (with_reducible refine fr_typeStr fun _ => ?_) | (with_reducible refine fr_elemOf fun _ => ?_) | (with_reducible refine fr_zeroValue (by assumption) (by first | assumption | exact he _ (by assumption)) fun _ _ => ?_) | (with_reducible refine fr_sureAddr (by assumption) fun _ _ => ?_) | (with_reducible refine fr_asAddr (by assumption) fun _ _ => ?_) | (with_reducible refine fr_asAgg (by assumption) fun _ _ => ?_) | (with_reducible refine fr_sliceBound fun _ => ?_) | (with_reducible refine fr_sliceBounds fun _ => ?_) | (with_reducible refine fr_askRoom ?_) | (with_reducible refine fr_byteOf (by assumption) fun _ => ?_) | (with_reducible refine fr_loadVar (by assumption) fun _ _ => ?_) | (with_reducible refine fr_part (by assumption) fun _ _ => ?_) | (with_reducible refine fr_fieldPlace (by assumption) fun _ _ => ?_) | (with_reducible refine fr_lenOf fun _ => ?_) | (with_reducible refine fr_mayShare fun _ => ?_) | (with_reducible refine fr_firstCells (by assumption) fun _ _ => ?_) | (with_reducible refine fr_noRoom ?_) | split | dsimp only))
   all_goals (refine h _ ?_; first | exact hr _ rfl | exact tup2_in (hr _ rfl) _ | (rename_i hv; exact tup2_in (hv A) _) | (rename_i hv; exact hv A))
 · refine fr_bind (fr_getObj (map_in hx) fun o ho => ?_)
   split
   case h_2 => exact fr_stuck
   have hes := omap_in ho
   (repeat' (first | (with_reducible exact fr_stuck) | (with_reducible exact fr_panic) | (with_reducible exact fr_boundsPanic) | (with_reducible exact fr_runtimePanic (by simp)) | (with_reducible exact fr_unsup (by simp)) | (with_reducible refine fr_program ?_) | (with_reducible refine fr_mayShare (fun _ => ?_) (fun _ => ?_)) | (with_reducible exact never_unsup) | (with_reducible refine never_bindR fun _ => ?_) | (with_reducible refine fr_shapeB (fun _ => ?_) (ShOk.same (by intros; rfl))) | (with_reducible refine fr_bind ?_) | (with_reducible refine fr_pure ?_) | (with_reducible refine fr_typeInfo fun _ _ => ?_) | (with_reducible refine fr_underlying fun _ _ => ?_) | (with_reducible refine fr_sizeOf fun _ => ?_) | (with_reducible refine fr_isAgg fun _ => ?_) | (with_reducible refine fr_choose fun _ => ?_) | (with_reducible refine fr_map ?_) | (with_reducible refine fr_asIntOf fun _ => ?_) | (with_reducible refine fr_asInt fun _ => ?_) | (with_reducible refine fr_asBool fun _ => ?_)  | (with_reducible refine fr_frozen fun _ => ?_) | (with_reducible refine fr_typeStr fun _ => ?_) | (with_reducible refine fr_elemOf fun _ => ?_) | (with_reducible refine fr_zeroValue (by assumption) (by first | assumption | exact he _ (by assumption)) fun _ _ => ?_) | (with_reducible refine fr_sureAddr (by assumption) fun _ _ => ?_) | (with_reducible refine fr_asAddr (by assumption) fun _ _ => ?_) | (with_reducible refine fr_asAgg (by assumption) fun _ _ => ?_) | (with_reducible refine fr_sliceBound fun _ => ?_) | (with_reducible refine fr_sliceBounds fun _ => ?_) | (with_reducible refine fr_askRoom ?_) | (with_reducible refine fr_byteOf (by assumption) fun _ => ?_) | (with_reducible refine fr_loadVar (by assumption) fun _ _ => ?_) | (with_reducible refine fr_part (by assumption) fun _ _ => ?_) | (with_reducible refine fr_fieldPlace (by assumption) fun _ _ => ?_) | (with_reducible refine fr_lenOf fun _ => ?_) | (with_reducible refine fr_mayShare fun _ => ?_) | (with_reducible refine fr_firstCells (by assumption) fun _ _ => ?_) | (with_reducible refine fr_noRoom ?_) | split | dsimp only))
   all_goals refine fr_checkKey _ _ _ hk ?_
   all_goals (repeat' (first | (with_reducible exact fr_stuck) | (with_reducible exact fr_panic) | (with_reducible exact fr_boundsPanic) | (with_reducible exact fr_runtimePanic (by simp)) | (with_reducible exact fr_unsup (by simp)) | (with_reducible refine fr_program ?_) | (with_reducible refine fr_mayShare (fun _ => ?_) (fun _ => ?_)) | (with_reducible exact never_unsup) | (with_reducible refine never_bindR fun _ => ?_) | (with_reducible refine fr_shapeB (fun _ => ?_) (ShOk.same (by intros; rfl))) | (with_reducible refine fr_bind ?_) | (with_reducible refine fr_pure ?_) | (with_reducible refine fr_typeInfo fun _ _ => ?_) | (with_reducible refine fr_underlying fun _ _ => ?_) | (with_reducible refine fr_sizeOf fun _ => ?_) | (with_reducible refine fr_isAgg fun _ => ?_) | (with_reducible refine fr_choose fun _ => ?_) | (with_reducible refine fr_map ?_) | (with_reducible refine fr_asIntOf fun _ => ?_) | (with_reducible refine fr_asInt fun _ => ?_) | (with_reducible refine fr_asBool fun _ => ?_)  | (with_reducible refine fr_frozen fun _ => ?_) | (with_reducible refine fr_typeStr fun _ => ?_) | (with_reducible refine fr_elemOf fun _ => ?_) | (with_reducible refine fr_zeroValue (by assumption) (by first | assumption | exact he _ (by assumption)) fun _ _ => ?_) | (with_reducible refine fr_sureAddr (by assumption) fun _ _ => ?_) | (with_reducible refine fr_asAddr (by assumption) fun _ _ => ?_) | (with_reducible refine fr_asAgg (by assumption) fun _ _ => ?_) | (with_reducible refine fr_sliceBound fun _ => ?_) | (with_reducible refine fr_sliceBounds fun _ => ?_) | (with_reducible refine fr_askRoom ?_) | (with_reducible refine fr_byteOf (by assumption) fun _ => ?_) | (with_reducible refine fr_loadVar (by assumption) fun _ _ => ?_) | (with_reducible refine fr_part (by assumption) fun _ _ => ?_) | (with_reducible refine fr_fieldPlace (by assumption) fun _ _ => ?_) | (with_reducible refine fr_lenOf fun _ => ?_) | (with_reducible refine fr_mayShare fun _ => ?_) | (with_reducible refine fr_firstCells (by assumption) fun _ _ => ?_) | (with_reducible refine fr_noRoom ?_) | split | dsimp only))
   all_goals refine fr_findKey h9 hk (fun e hx => hes e (Array.mem_toList_iff.1 hx)) fun r hr => ?_
   all_goals (repeat' (first | (with_reducible exact fr_stuck) | (with_reducible exact fr_panic) | (with_reducible exact fr_boundsPanic) | (with_reducible exact fr_runtimePanic (by simp)) | (with_reducible exact fr_unsup (by simp)) | (with_reducible refine fr_program ?_) | (with_reducible refine fr_mayShare (fun _ => ?_) (fun _ => ?_)) | (with_reducible exact never_unsup) | (with_reducible refine never_bindR fun _ => ?_) | (with_reducible refine fr_shapeB (fun _ => ?_) (ShOk.same (by intros; rfl))) | (with_reducible refine fr_bind ?_) | (with_reducible refine fr_pure ?_) | (with_reducible refine fr_typeInfo fun _ _ => ?_) | (with_reducible refine fr_underlying fun _ _ => ?_) | (with_reducible refine fr_sizeOf fun _ => ?_) | (with_reducible refine fr_isAgg fun _ => ?_) | (with_reducible refine fr_choose fun _ => ?_) | (with_reducible refine fr_map ?_) | (with_reducible refine fr_asIntOf fun _ => ?_) | (with_reducible refine fr_asInt fun _ => ?_) | (with_reducible refine fr_asBool fun _ => ?_)  | (with_reducible refine fr_frozen fun _ => ?_) | (with_reducible refine fr_typeStr fun _ => ?_) | (with_reducible refine fr_elemOf fun _ => ?_) | (with_reducible refine fr_zeroValue (by assumption) (by first | assumption | exact he _ (by assumption)) fun _ _ => ?_) | (with_reducible refine fr_sureAddr (by assumption) fun _ _ => ?_) | (with_reducible refine fr_asAddr (by assumption) fun _ _ => ?_) | (with_reducible refine fr_asAgg (by assumption) fun _ _ => ?_) | (with_reducible refine fr_sliceBound fun _ => ?_) | (with_reducible refine fr_sliceBounds fun _ => ?_) | (with_reducible refine fr_askRoom ?_) | (with_reducible refine fr_byteOf (by assumption) fun _ => ?_) | (with_reducible refine fr_loadVar (by assumption) fun _ _ => ?_) | (with_reducible refine fr_part (by assumption) fun _ _ => ?_) | (with_reducible refine fr_fieldPlace (by assumption) fun _ _ => ?_) | (with_reducible refine fr_lenOf fun _ => ?_) | (with_reducible refine fr_mayShare fun _ => ?_) | (with_reducible refine fr_firstCells (by assumption) fun _ _ => ?_) | (with_reducible refine fr_noRoom ?_) | split | dsimp only))
   all_goals (refine h _ ?_; first | exact hr _ rfl | exact tup2_in (hr _ rfl) _ | (rename_i hv; exact tup2_in (hv A) _) | (rename_i hv; exact hv A))
 · exact fr_bind fr_stuck
theorem fr_mapUpdate {t : TypeId} (hkk : ∀ k e, P.underlying t = some (.map k e) → eqOk P 9 k = true) {x k y : Value} (hx : VIn G A x) (hk : VIn G A k) (hy : VIn G A y) {Q : (Nat → Prop) → Unit → Prop} (h : Q A ()) : Sem.Fr P G (Instr.mapUpdate t x k y) A Q := by
 unfold Instr.mapUpdate
 refine fr_bind ?_
 refine fr_underlying fun d _ => ?_
 split
 case h_2 => exact fr_stuck
 have h9 := hkk _ _ (by assumption)
 split
 · exact fr_runtimePanic (by simp)
 · refine fr_bind (fr_getObj (map_in hx) fun o ho => ?_)
   split
   · rename_i es clock
     have he := omap_in ho
     refine fr_bind (fr_checkKey _ _ _ hk ?_)
     refine fr_bind (fr_findKey h9 hk (fun e hx => he e (Array.mem_toList_iff.1 hx)) fun r hr => ?_)
     split
     · rename_i i v
       have hold : ∀ key, (key = k ∨ key = (((es[i]?).map (·.key)).getD k)) → VIn G A key := by
        rintro key (rfl | rfl)
        · exact hk
        · cases hi : es[i]? with
          | none => simpa using hk
          | some e => simpa using (he e (Array.mem_of_getElem? hi)).1
       have fin : ∀ key, VIn G A key → ∀ r, OIn P G A r (.map (es.modify i fun e => { e with key, val := y }) clock) := by
        intro key hkey r
        refine .map fun e hm => ?_
        obtain ⟨j, hj, rfl⟩ := Array.mem_iff_getElem.1 hm
        rw [Array.getElem_modify]
        split
        · exact ⟨hkey, hy⟩
        · exact he _ (Array.getElem_mem _)
       unfold Instr.keyThatStays
       refine fr_bind ?_
       split
       · exact fr_pure (fr_setObj (map_in hx) (fin _ (hold _ (.inl rfl)) _) h)
       · refine fr_bind (fr_choose fun n => fr_pure (fr_setObj (map_in hx) (fin _ ?_ _) h))
         split
         · exact hold _ (.inl rfl)
         · exact hold _ (.inr rfl)
     · refine fr_setObj (map_in hx) (.map fun e hm => ?_) h
       rcases Array.mem_push.1 hm with h1 | rfl
       · exact he e h1
       · exact ⟨hk, hy⟩
   · exact fr_stuck
 · exact fr_stuck
theorem fr_lenOf {x : Value} {Q : (Nat → Prop) → Nat → Prop} (h : ∀ n, Q A n) : Sem.Fr P G (Builtin.lenOf x) A Q := by
 unfold Builtin.lenOf
 (repeat' (first | (with_reducible exact fr_stuck) | (with_reducible exact fr_panic) | (with_reducible exact fr_boundsPanic) | (with_reducible exact fr_runtimePanic (by simp)) | (with_reducible exact fr_unsup (by simp)) | (with_reducible refine fr_program ?_) | (with_reducible refine fr_mayShare (fun _ => ?_) (fun _ => ?_)) | (with_reducible exact never_unsup) | (with_reducible refine never_bindR fun _ => ?_) | (with_reducible refine fr_shapeB (fun _ => ?_) (ShOk.same (by intros; rfl))) | (with_reducible refine fr_bind ?_) | (with_reducible refine fr_pure ?_) | (with_reducible refine fr_typeInfo fun _ _ => ?_) | (with_reducible refine fr_underlying fun _ _ => ?_) | (with_reducible refine fr_sizeOf fun _ => ?_) | (with_reducible refine fr_isAgg fun _ => ?_) | (with_reducible refine fr_choose fun _ => ?_) | (with_reducible refine fr_map ?_) | (with_reducible refine fr_asIntOf fun _ => ?_) | (with_reducible refine fr_asInt fun _ => ?_) | (with_reducible refine fr_asBool fun _ => ?_)  | (with_reducible refine fr_frozen fun _ => ?_) | (with_reducible refine fr_typeStr fun _ => ?_) | (with_reducible refine fr_elemOf fun _ => ?_) | (with_reducible refine fr_zeroValue (by assumption) (by first | assumption | exact he _ (by assumption)) fun _ _ => ?_) | (with_reducible refine fr_sureAddr (by assumption) fun _ _ => ?_) | (with_reducible refine fr_asAddr (by assumption) fun _ _ => ?_) | (with_reducible refine fr_asAgg (by assumption) fun _ _ => ?_) | (with_reducible refine fr_sliceBound fun _ => ?_) | (with_reducible refine fr_sliceBounds fun _ => ?_) | (with_reducible refine fr_askRoom ?_) | (with_reducible refine fr_byteOf (by assumption) fun _ => ?_) | (with_reducible refine fr_loadVar (by assumption) fun _ _ => ?_) | (with_reducible refine fr_part (by assumption) fun _ _ => ?_) | (with_reducible refine fr_fieldPlace (by assumption) fun _ _ => ?_) | (with_reducible refine fr_lenOf fun _ => ?_) | (with_reducible refine fr_mayShare fun _ => ?_) | (with_reducible refine fr_firstCells (by assumption) fun _ _ => ?_) | (with_reducible refine fr_noRoom ?_) | split | dsimp only))
 all_goals exact h _
theorem slice_in {a : Addr} {n c : Nat} (h : VIn G A (.slice (some a) n c)) : Ina G A a := by cases h; assumption
theorem fr_firstCells {s n : Nat} {x : Value} (hx : VIn G A x) {Q : (Nat → Prop) → Array Value → Prop} (h : ∀ cs, (∀ v ∈ cs, VIn G A v) → Q A cs) : Sem.Fr P G (Builtin.firstCells s n x) A Q := by
 unfold Builtin.firstCells
 split
 · exact fr_loadCells (slice_in hx) h
 · exact fr_pure (h _ (by simp))
 · refine fr_pure (h _ fun v hv => ?_)
   obtain ⟨b, _, rfl⟩ := Array.mem_map.1 hv
   exact .int _ _
 · exact fr_stuck
theorem never_unsup {α : Type} {u : Unsupported} : NeverOk P (unsupported u : Sem α) := fun w es x w1 es1 h => by cases h
theorem never_bindR {α β : Type} {s : Sem α} {f : α → Sem β} (h : ∀ a, NeverOk P (f a)) : NeverOk P (s >>= f) := NeverOk.bindR h
theorem fr_mayShare {α : Type} {a b c : Nat} {base : Option Addr} {x : Value} {f : Bool → Sem α} {Q : (Nat → Prop) → α → Prop} (hf : ∀ b, Sem.Fr P G (f b) A Q) (hn : ∀ b, NeverOk P (f b)) : Sem.Fr P G (Builtin.mayShare a b c base x >>= f) A Q := by
 have hh : ∀ {β : Type} (ad : Addr) (m : Nat) (g : Bool → Sem β) (Q' : (Nat → Prop) → β → Prop), (∀ b, Sem.Fr P G (g b) A Q') → (∀ b, NeverOk P (g b)) → Sem.Fr P G (Builtin.holdsCells ad m >>= g) A Q' := by
  intro β ad m g Q' h1 h2
  unfold Builtin.holdsCells
  refine ⟨fun s => ?_, ShOk.never fun s => ?_⟩
  · cases s <;> exact h1 _
  · cases s <;> exact h2 _
 have tail : ∀ there : Bool, Sem.Fr P G ((do
  if !there then return true
  match x with
  | .slice (some b') _ _ => do pure (!(← Builtin.holdsCells b' (c * a)) || base.any (·.block == b'.block))
  | _ => pure false : Sem Bool) >>= f) A Q ∧ NeverOk P ((do
  if !there then return true
  match x with
  | .slice (some b') _ _ => do pure (!(← Builtin.holdsCells b' (c * a)) || base.any (·.block == b'.block))
  | _ => pure false : Sem Bool) >>= f) := by
  intro there
  refine ⟨?_, NeverOk.bindR hn⟩
  cases there with
  | false => exact hf _
  | true =>
    cases x with
    | slice o n k =>
      cases o with
      | none => exact hf _
      | some b' =>
        simp only [Bool.not_true, Bool.false_eq_true, if_false, bind_assoc, pure_bind]
        exact hh b' (c * a) _ Q (fun _ => hf _) (fun _ => hn _)
    | _ => exact hf _
 unfold Builtin.mayShare
 cases base with
 | none => exact (tail true).1
 | some ad =>
   simp only [bind_assoc, pure_bind] at tail ⊢
   refine hh ad _ _ Q (fun r => ?_) (fun r => ?_)
   · exact fr_bind (fr_frozen fun y => (tail _).1)
   · exact NeverOk.bindR fun y => (tail _).2
theorem zeroCells_in {z : Array Value} (hz : ∀ v ∈ z, VIn G A v) (n : Nat) : ∀ v ∈ Builtin.zeroCells z n, VIn G A v := range_map_in hz _ (fun _ => .inr trivial)
theorem app_in {a b : Array Value} (ha : ∀ v ∈ a, VIn G A v) (hb : ∀ v ∈ b, VIn G A v) : ∀ v ∈ a ++ b, VIn G A v := fun v hv => (Array.mem_append.1 hv).elim (ha v) (hb v)
theorem fr_noRoom {Q : (Nat → Prop) → Unit → Prop} (h : Q A ()) : Sem.Fr P G (mark .noRoom) A Q := ⟨rfl, h⟩
theorem fr_append (hP : Clean1 P G) {as : Array TypeId} (has : ∀ st, as[0]? = some st → ∀ e, P.underlying st = some (.slice e) → e < P.types.size) {t : TypeId} {args : Array Value} (ha : ∀ v ∈ args, VIn G A v) {Q : (Nat → Prop) → Value → Prop} (h : ∀ A' v, (∀ b, A b → A' b) → VIn G A' v → Q A' v) : Sem.Fr P G (Builtin.append_ as t args) A Q := by
 have h0 : ∀ v, VIn G A v → Q A v := fun v hv => h A v (fun _ z => z) hv
 have h1 : ∀ r v, VIn G (fun b => A b ∨ b = r) v → Q (fun b => A b ∨ b = r) v := fun r v hv => h _ v (fun _ z => .inl z) hv
 unfold Builtin.append_
 split
 case h_2 => exact fr_stuck
 rename_i sType s x e
 have hs : VIn G A s := ha _ (Array.mem_of_getElem? (congrArg (fun z => z.2.1) e))
 have hx : VIn G A x := ha _ (Array.mem_of_getElem? (congrArg (fun z => z.2.2) e))
 refine fr_bind ?_
 refine fr_underlying fun d hd => ?_
 split
 case h_2 => exact fr_stuck
 have he := has _ (congrArg (fun z => z.1) e) _ hd
 split
 case h_2 => exact fr_stuck
 rename_i base sLen sCap
 have hb : ∀ a, base = some a → Ina G A a := by intro a e'; subst e'; exact slice_in hs
 refine fr_bind ?_
 refine fr_sizeOf fun size => ?_
 extract_lets j1 jp
 have hjp : ∀ z, Sem.Fr P G (jp z) A Q := by
  intro z
  simp -zeta only [jp]
  extract_lets j2
  have hj2 : ∀ n, Sem.Fr P G (j2 n) A Q := by
   intro n
   simp -zeta only [j2]
   extract_lets app need k1 k2 k3
   have happ : ∀ {Q' : (Nat → Prop) → Array Value → Prop}, (∀ cs, (∀ v ∈ cs, VIn G A v) → Q' A cs) → Sem.Fr P G app A Q' := by
    intro Q' h'
    simp only [app]
    split
    · exact fr_firstCells hx h'
    · split
      · exact fr_pure (h' _ (by simp))
      · exact fr_bind (fr_zeroValue hP he fun v hv => fr_pure (h' _ (zeroCells_in (cells_in (hv A)) n)))
   have hk2 : ∀ r, Sem.Fr P G (k2 r) A Q := by
    intro r
    simp only [k2]
    refine fr_bind (fr_choose fun cap => fr_bind (fr_typeInfo fun i _ => fr_bind (fr_askRoom (fr_bind (fr_firstCells hs fun old hold => fr_bind (happ fun new hnew => fr_bind (fr_zeroValue hP he fun v hv => ?_))))))) 
    exact fr_bind (fr_newRow (app_in (app_in hold hnew) (zeroCells_in (cells_in (hv A)) _)) fun r hr => fr_pure (h1 r _ (.slice _ _ (hr.ina _ _))))
   have hk3 : ∀ r, Sem.Fr P G (k3 r) A Q := by
    intro r
    clear_value k2
    simp only [k3, j1]
    (repeat' (first | (with_reducible exact fr_stuck) | (with_reducible exact fr_panic) | (with_reducible exact fr_boundsPanic) | (with_reducible exact fr_runtimePanic (by simp)) | (with_reducible exact fr_unsup (by simp)) | (with_reducible refine fr_program ?_) | (with_reducible refine fr_mayShare (fun _ => ?_) (fun _ => ?_)) | (with_reducible exact never_unsup) | (with_reducible refine never_bindR fun _ => ?_) | (with_reducible refine fr_shapeB (fun _ => ?_) (ShOk.same (by intros; rfl))) | (with_reducible refine fr_bind ?_) | (with_reducible refine fr_pure ?_) | (with_reducible refine fr_typeInfo fun _ _ => ?_) | (with_reducible refine fr_underlying fun _ _ => ?_) | (with_reducible refine fr_sizeOf fun _ => ?_) | (with_reducible refine fr_isAgg fun _ => ?_) | (with_reducible refine fr_choose fun _ => ?_) | (with_reducible refine fr_map ?_) | (with_reducible refine fr_asIntOf fun _ => ?_) | (with_reducible refine fr_asInt fun _ => ?_) | (with_reducible refine fr_asBool fun _ => ?_)  | (with_reducible refine fr_frozen fun _ => ?_) | (with_reducible refine fr_typeStr fun _ => ?_) | (with_reducible refine fr_elemOf fun _ => ?_) | (with_reducible refine fr_zeroValue (by assumption) (by first | assumption | exact he _ (by assumption)) fun _ _ => ?_) | (with_reducible refine fr_sureAddr (by assumption) fun _ _ => ?_) | (with_reducible refine fr_asAddr (by assumption) fun _ _ => ?_) | (with_reducible refine fr_asAgg (by assumption) fun _ _ => ?_) | (with_reducible refine fr_sliceBound fun _ => ?_) | (with_reducible refine fr_sliceBounds fun _ => ?_) | (with_reducible refine fr_askRoom ?_) | (with_reducible refine fr_byteOf (by assumption) fun _ => ?_) | (with_reducible refine fr_loadVar (by assumption) fun _ _ => ?_) | (with_reducible refine fr_part (by assumption) fun _ _ => ?_) | (with_reducible refine fr_fieldPlace (by assumption) fun _ _ => ?_) | (with_reducible refine fr_lenOf fun _ => ?_) | (with_reducible refine fr_mayShare fun _ => ?_) | (with_reducible refine fr_firstCells (by assumption) fun _ _ => ?_) | (with_reducible refine fr_noRoom ?_) | split | dsimp only))
    all_goals exact hk2 _
   split
   · refine fr_bind (happ fun new hnew => ?_)
     simp only [k1]
     split
     · exact fr_bind (fr_storeCells ((hb _ rfl).add _) _ _ (fun v hv => hnew v (Array.mem_toList_iff.1 hv)) (fr_pure (h0 _ (.slice _ _ (hb _ rfl)))))
     · refine fr_pure (h0 _ ?_)
       cases base with
       | none => exact .slice0 _ _
       | some a => exact .slice _ _ (hb _ rfl)
   · refine fr_bind (fr_typeInfo fun i _ => ?_)
     split
     · exact fr_bind (fr_runtimePanic (by simp))
     · exact hk3 ()
  split
  · (repeat' (first | (with_reducible exact fr_stuck) | (with_reducible exact fr_panic) | (with_reducible exact fr_boundsPanic) | (with_reducible exact fr_runtimePanic (by simp)) | (with_reducible exact fr_unsup (by simp)) | (with_reducible refine fr_program ?_) | (with_reducible refine fr_mayShare (fun _ => ?_) (fun _ => ?_)) | (with_reducible exact never_unsup) | (with_reducible refine never_bindR fun _ => ?_) | (with_reducible refine fr_shapeB (fun _ => ?_) (ShOk.same (by intros; rfl))) | (with_reducible refine fr_bind ?_) | (with_reducible refine fr_pure ?_) | (with_reducible refine fr_typeInfo fun _ _ => ?_) | (with_reducible refine fr_underlying fun _ _ => ?_) | (with_reducible refine fr_sizeOf fun _ => ?_) | (with_reducible refine fr_isAgg fun _ => ?_) | (with_reducible refine fr_choose fun _ => ?_) | (with_reducible refine fr_map ?_) | (with_reducible refine fr_asIntOf fun _ => ?_) | (with_reducible refine fr_asInt fun _ => ?_) | (with_reducible refine fr_asBool fun _ => ?_)  | (with_reducible refine fr_frozen fun _ => ?_) | (with_reducible refine fr_typeStr fun _ => ?_) | (with_reducible refine fr_elemOf fun _ => ?_) | (with_reducible refine fr_zeroValue (by assumption) (by first | assumption | exact he _ (by assumption)) fun _ _ => ?_) | (with_reducible refine fr_sureAddr (by assumption) fun _ _ => ?_) | (with_reducible refine fr_asAddr (by assumption) fun _ _ => ?_) | (with_reducible refine fr_asAgg (by assumption) fun _ _ => ?_) | (with_reducible refine fr_sliceBound fun _ => ?_) | (with_reducible refine fr_sliceBounds fun _ => ?_) | (with_reducible refine fr_askRoom ?_) | (with_reducible refine fr_byteOf (by assumption) fun _ => ?_) | (with_reducible refine fr_loadVar (by assumption) fun _ _ => ?_) | (with_reducible refine fr_part (by assumption) fun _ _ => ?_) | (with_reducible refine fr_fieldPlace (by assumption) fun _ _ => ?_) | (with_reducible refine fr_lenOf fun _ => ?_) | (with_reducible refine fr_mayShare fun _ => ?_) | (with_reducible refine fr_firstCells (by assumption) fun _ _ => ?_) | (with_reducible refine fr_noRoom ?_) | split | dsimp only))
    all_goals exact hj2 _
  · exact fr_bind (fr_lenOf fun n => hj2 n)
 split
 · refine fr_bind ?_
   (repeat' (first | (with_reducible exact fr_stuck) | (with_reducible exact fr_panic) | (with_reducible exact fr_boundsPanic) | (with_reducible exact fr_runtimePanic (by simp)) | (with_reducible exact fr_unsup (by simp)) | (with_reducible refine fr_program ?_) | (with_reducible refine fr_mayShare (fun _ => ?_) (fun _ => ?_)) | (with_reducible exact never_unsup) | (with_reducible refine never_bindR fun _ => ?_) | (with_reducible refine fr_shapeB (fun _ => ?_) (ShOk.same (by intros; rfl))) | (with_reducible refine fr_bind ?_) | (with_reducible refine fr_pure ?_) | (with_reducible refine fr_typeInfo fun _ _ => ?_) | (with_reducible refine fr_underlying fun _ _ => ?_) | (with_reducible refine fr_sizeOf fun _ => ?_) | (with_reducible refine fr_isAgg fun _ => ?_) | (with_reducible refine fr_choose fun _ => ?_) | (with_reducible refine fr_map ?_) | (with_reducible refine fr_asIntOf fun _ => ?_) | (with_reducible refine fr_asInt fun _ => ?_) | (with_reducible refine fr_asBool fun _ => ?_)  | (with_reducible refine fr_frozen fun _ => ?_) | (with_reducible refine fr_typeStr fun _ => ?_) | (with_reducible refine fr_elemOf fun _ => ?_) | (with_reducible refine fr_zeroValue (by assumption) (by first | assumption | exact he _ (by assumption)) fun _ _ => ?_) | (with_reducible refine fr_sureAddr (by assumption) fun _ _ => ?_) | (with_reducible refine fr_asAddr (by assumption) fun _ _ => ?_) | (with_reducible refine fr_asAgg (by assumption) fun _ _ => ?_) | (with_reducible refine fr_sliceBound fun _ => ?_) | (with_reducible refine fr_sliceBounds fun _ => ?_) | (with_reducible refine fr_askRoom ?_) | (with_reducible refine fr_byteOf (by assumption) fun _ => ?_) | (with_reducible refine fr_loadVar (by assumption) fun _ _ => ?_) | (with_reducible refine fr_part (by assumption) fun _ _ => ?_) | (with_reducible refine fr_fieldPlace (by assumption) fun _ _ => ?_) | (with_reducible refine fr_lenOf fun _ => ?_) | (with_reducible refine fr_mayShare fun _ => ?_) | (with_reducible refine fr_firstCells (by assumption) fun _ _ => ?_) | (with_reducible refine fr_noRoom ?_) | split | dsimp only))
   all_goals exact hjp _
 · exact fr_bind (fr_pure (hjp _))
theorem fr_copy {as : Array TypeId} {t : TypeId} {args : Array Value} (ha : ∀ v ∈ args, VIn G A v) {Q : (Nat → Prop) → Value → Prop} (h : ∀ v, VIn G A v → Q A v) : Sem.Fr P G (Builtin.copy_ as t args) A Q := by
 unfold Builtin.copy_
 split
 case h_2 => exact fr_stuck
 rename_i dType d x e
 have hd : VIn G A d := ha _ (Array.mem_of_getElem? (congrArg (fun z => z.2.1) e))
 have hx : VIn G A x := ha _ (Array.mem_of_getElem? (congrArg (fun z => z.2.2) e))
 (repeat' (first | (with_reducible exact fr_stuck) | (with_reducible exact fr_panic) | (with_reducible exact fr_boundsPanic) | (with_reducible exact fr_runtimePanic (by simp)) | (with_reducible exact fr_unsup (by simp)) | (with_reducible refine fr_program ?_) | (with_reducible refine fr_mayShare (fun _ => ?_) (fun _ => ?_)) | (with_reducible exact never_unsup) | (with_reducible refine never_bindR fun _ => ?_) | (with_reducible refine fr_shapeB (fun _ => ?_) (ShOk.same (by intros; rfl))) | (with_reducible refine fr_bind ?_) | (with_reducible refine fr_pure ?_) | (with_reducible refine fr_typeInfo fun _ _ => ?_) | (with_reducible refine fr_underlying fun _ _ => ?_) | (with_reducible refine fr_sizeOf fun _ => ?_) | (with_reducible refine fr_isAgg fun _ => ?_) | (with_reducible refine fr_choose fun _ => ?_) | (with_reducible refine fr_map ?_) | (with_reducible refine fr_asIntOf fun _ => ?_) | (with_reducible refine fr_asInt fun _ => ?_) | (with_reducible refine fr_asBool fun _ => ?_)  | (with_reducible refine fr_frozen fun _ => ?_) | (with_reducible refine fr_typeStr fun _ => ?_) | (with_reducible refine fr_elemOf fun _ => ?_) | (with_reducible refine fr_zeroValue (by assumption) (by first | assumption | exact he _ (by assumption)) fun _ _ => ?_) | (with_reducible refine fr_sureAddr (by assumption) fun _ _ => ?_) | (with_reducible refine fr_asAddr (by assumption) fun _ _ => ?_) | (with_reducible refine fr_asAgg (by assumption) fun _ _ => ?_) | (with_reducible refine fr_sliceBound fun _ => ?_) | (with_reducible refine fr_sliceBounds fun _ => ?_) | (with_reducible refine fr_askRoom ?_) | (with_reducible refine fr_byteOf (by assumption) fun _ => ?_) | (with_reducible refine fr_loadVar (by assumption) fun _ _ => ?_) | (with_reducible refine fr_part (by assumption) fun _ _ => ?_) | (with_reducible refine fr_fieldPlace (by assumption) fun _ _ => ?_) | (with_reducible refine fr_lenOf fun _ => ?_) | (with_reducible refine fr_mayShare fun _ => ?_) | (with_reducible refine fr_firstCells (by assumption) fun _ _ => ?_) | (with_reducible refine fr_noRoom ?_) | split | dsimp only))
 all_goals first
  | exact h _ (.int _ _)
  | (refine fr_storeCells (slice_in hd) _ _ (fun v hv => (by assumption : ∀ v ∈ _, VIn G A v) v (Array.mem_toList_iff.1 hv)) ?_)
 all_goals (repeat' (first | (with_reducible exact fr_stuck) | (with_reducible exact fr_panic) | (with_reducible exact fr_boundsPanic) | (with_reducible exact fr_runtimePanic (by simp)) | (with_reducible exact fr_unsup (by simp)) | (with_reducible refine fr_program ?_) | (with_reducible refine fr_mayShare (fun _ => ?_) (fun _ => ?_)) | (with_reducible exact never_unsup) | (with_reducible refine never_bindR fun _ => ?_) | (with_reducible refine fr_shapeB (fun _ => ?_) (ShOk.same (by intros; rfl))) | (with_reducible refine fr_bind ?_) | (with_reducible refine fr_pure ?_) | (with_reducible refine fr_typeInfo fun _ _ => ?_) | (with_reducible refine fr_underlying fun _ _ => ?_) | (with_reducible refine fr_sizeOf fun _ => ?_) | (with_reducible refine fr_isAgg fun _ => ?_) | (with_reducible refine fr_choose fun _ => ?_) | (with_reducible refine fr_map ?_) | (with_reducible refine fr_asIntOf fun _ => ?_) | (with_reducible refine fr_asInt fun _ => ?_) | (with_reducible refine fr_asBool fun _ => ?_)  | (with_reducible refine fr_frozen fun _ => ?_) | (with_reducible refine fr_typeStr fun _ => ?_) | (with_reducible refine fr_elemOf fun _ => ?_) | (with_reducible refine fr_zeroValue (by assumption) (by first | assumption | exact he _ (by assumption)) fun _ _ => ?_) | (with_reducible refine fr_sureAddr (by assumption) fun _ _ => ?_) | (with_reducible refine fr_asAddr (by assumption) fun _ _ => ?_) | (with_reducible refine fr_asAgg (by assumption) fun _ _ => ?_) | (with_reducible refine fr_sliceBound fun _ => ?_) | (with_reducible refine fr_sliceBounds fun _ => ?_) | (with_reducible refine fr_askRoom ?_) | (with_reducible refine fr_byteOf (by assumption) fun _ => ?_) | (with_reducible refine fr_loadVar (by assumption) fun _ _ => ?_) | (with_reducible refine fr_part (by assumption) fun _ _ => ?_) | (with_reducible refine fr_fieldPlace (by assumption) fun _ _ => ?_) | (with_reducible refine fr_lenOf fun _ => ?_) | (with_reducible refine fr_mayShare fun _ => ?_) | (with_reducible refine fr_firstCells (by assumption) fun _ _ => ?_) | (with_reducible refine fr_noRoom ?_) | split | dsimp only))
 all_goals exact h _ (.int _ _)
theorem fr_len {as : Array TypeId} {t : TypeId} {args : Array Value} (ha : ∀ v ∈ args, VIn G A v) {Q : (Nat → Prop) → Value → Prop} (h : ∀ v, VIn G A v → Q A v) : Sem.Fr P G (Builtin.len_ as t args) A Q := by
 unfold Builtin.len_
 split
 case h_2 => exact fr_stuck
 rename_i x y e
 have hx : VIn G A y := ha _ (Array.mem_of_getElem? (congrArg (fun z => z.2) e))
 refine fr_bind ?_
 refine fr_underlying fun d _ => ?_
 split
 all_goals try exact fr_pure (h _ (.int _ _))
 · (repeat' (first | (with_reducible exact fr_stuck) | (with_reducible exact fr_panic) | (with_reducible exact fr_boundsPanic) | (with_reducible exact fr_runtimePanic (by simp)) | (with_reducible exact fr_unsup (by simp)) | (with_reducible refine fr_program ?_) | (with_reducible refine fr_mayShare (fun _ => ?_) (fun _ => ?_)) | (with_reducible exact never_unsup) | (with_reducible refine never_bindR fun _ => ?_) | (with_reducible refine fr_shapeB (fun _ => ?_) (ShOk.same (by intros; rfl))) | (with_reducible refine fr_bind ?_) | (with_reducible refine fr_pure ?_) | (with_reducible refine fr_typeInfo fun _ _ => ?_) | (with_reducible refine fr_underlying fun _ _ => ?_) | (with_reducible refine fr_sizeOf fun _ => ?_) | (with_reducible refine fr_isAgg fun _ => ?_) | (with_reducible refine fr_choose fun _ => ?_) | (with_reducible refine fr_map ?_) | (with_reducible refine fr_asIntOf fun _ => ?_) | (with_reducible refine fr_asInt fun _ => ?_) | (with_reducible refine fr_asBool fun _ => ?_)  | (with_reducible refine fr_frozen fun _ => ?_) | (with_reducible refine fr_typeStr fun _ => ?_) | (with_reducible refine fr_elemOf fun _ => ?_) | (with_reducible refine fr_zeroValue (by assumption) (by first | assumption | exact he _ (by assumption)) fun _ _ => ?_) | (with_reducible refine fr_sureAddr (by assumption) fun _ _ => ?_) | (with_reducible refine fr_asAddr (by assumption) fun _ _ => ?_) | (with_reducible refine fr_asAgg (by assumption) fun _ _ => ?_) | (with_reducible refine fr_sliceBound fun _ => ?_) | (with_reducible refine fr_sliceBounds fun _ => ?_) | (with_reducible refine fr_askRoom ?_) | (with_reducible refine fr_byteOf (by assumption) fun _ => ?_) | (with_reducible refine fr_loadVar (by assumption) fun _ _ => ?_) | (with_reducible refine fr_part (by assumption) fun _ _ => ?_) | (with_reducible refine fr_fieldPlace (by assumption) fun _ _ => ?_) | (with_reducible refine fr_lenOf fun _ => ?_) | (with_reducible refine fr_mayShare fun _ => ?_) | (with_reducible refine fr_firstCells (by assumption) fun _ _ => ?_) | (with_reducible refine fr_noRoom ?_) | split | dsimp only))
   all_goals exact h _ (.int _ _)
 · refine fr_bind (fr_getObj (map_in hx) fun o ho => ?_)
   split
   · exact fr_pure (h _ (.int _ _))
   · exact fr_stuck
 · cases hx
 · exact fr_stuck
theorem fr_max2 {x y : Value} {Q : (Nat → Prop) → Value → Prop} (h : ∀ v, VIn G A v → Q A v) : Sem.Fr P G (Builtin.max2 x y) A Q := by
 unfold Builtin.max2 Op.stringOp
 (repeat' (first | (with_reducible exact fr_stuck) | (with_reducible exact fr_panic) | (with_reducible exact fr_boundsPanic) | (with_reducible exact fr_runtimePanic (by simp)) | (with_reducible exact fr_unsup (by simp)) | (with_reducible refine fr_program ?_) | (with_reducible refine fr_mayShare (fun _ => ?_) (fun _ => ?_)) | (with_reducible exact never_unsup) | (with_reducible refine never_bindR fun _ => ?_) | (with_reducible refine fr_shapeB (fun _ => ?_) (ShOk.same (by intros; rfl))) | (with_reducible refine fr_bind ?_) | (with_reducible refine fr_pure ?_) | (with_reducible refine fr_typeInfo fun _ _ => ?_) | (with_reducible refine fr_underlying fun _ _ => ?_) | (with_reducible refine fr_sizeOf fun _ => ?_) | (with_reducible refine fr_isAgg fun _ => ?_) | (with_reducible refine fr_choose fun _ => ?_) | (with_reducible refine fr_map ?_) | (with_reducible refine fr_asIntOf fun _ => ?_) | (with_reducible refine fr_asInt fun _ => ?_) | (with_reducible refine fr_asBool fun _ => ?_)  | (with_reducible refine fr_frozen fun _ => ?_) | (with_reducible refine fr_typeStr fun _ => ?_) | (with_reducible refine fr_elemOf fun _ => ?_) | (with_reducible refine fr_zeroValue (by assumption) (by first | assumption | exact he _ (by assumption)) fun _ _ => ?_) | (with_reducible refine fr_sureAddr (by assumption) fun _ _ => ?_) | (with_reducible refine fr_asAddr (by assumption) fun _ _ => ?_) | (with_reducible refine fr_asAgg (by assumption) fun _ _ => ?_) | (with_reducible refine fr_sliceBound fun _ => ?_) | (with_reducible refine fr_sliceBounds fun _ => ?_) | (with_reducible refine fr_askRoom ?_) | (with_reducible refine fr_byteOf (by assumption) fun _ => ?_) | (with_reducible refine fr_loadVar (by assumption) fun _ _ => ?_) | (with_reducible refine fr_part (by assumption) fun _ _ => ?_) | (with_reducible refine fr_fieldPlace (by assumption) fun _ _ => ?_) | (with_reducible refine fr_lenOf fun _ => ?_) | (with_reducible refine fr_mayShare fun _ => ?_) | (with_reducible refine fr_firstCells (by assumption) fun _ _ => ?_) | (with_reducible refine fr_noRoom ?_) | split | dsimp only))
 all_goals first | exact h _ (.int _ _) | exact h _ (.float _ _) | exact h _ (.string _)
theorem fr_min2 {x y : Value} {Q : (Nat → Prop) → Value → Prop} (h : ∀ v, VIn G A v → Q A v) : Sem.Fr P G (Builtin.min2 x y) A Q := by
 unfold Builtin.min2 Op.stringOp
 (repeat' (first | (with_reducible exact fr_stuck) | (with_reducible exact fr_panic) | (with_reducible exact fr_boundsPanic) | (with_reducible exact fr_runtimePanic (by simp)) | (with_reducible exact fr_unsup (by simp)) | (with_reducible refine fr_program ?_) | (with_reducible refine fr_mayShare (fun _ => ?_) (fun _ => ?_)) | (with_reducible exact never_unsup) | (with_reducible refine never_bindR fun _ => ?_) | (with_reducible refine fr_shapeB (fun _ => ?_) (ShOk.same (by intros; rfl))) | (with_reducible refine fr_bind ?_) | (with_reducible refine fr_pure ?_) | (with_reducible refine fr_typeInfo fun _ _ => ?_) | (with_reducible refine fr_underlying fun _ _ => ?_) | (with_reducible refine fr_sizeOf fun _ => ?_) | (with_reducible refine fr_isAgg fun _ => ?_) | (with_reducible refine fr_choose fun _ => ?_) | (with_reducible refine fr_map ?_) | (with_reducible refine fr_asIntOf fun _ => ?_) | (with_reducible refine fr_asInt fun _ => ?_) | (with_reducible refine fr_asBool fun _ => ?_)  | (with_reducible refine fr_frozen fun _ => ?_) | (with_reducible refine fr_typeStr fun _ => ?_) | (with_reducible refine fr_elemOf fun _ => ?_) | (with_reducible refine fr_zeroValue (by assumption) (by first | assumption | exact he _ (by assumption)) fun _ _ => ?_) | (with_reducible refine fr_sureAddr (by assumption) fun _ _ => ?_) | (with_reducible refine fr_asAddr (by assumption) fun _ _ => ?_) | (with_reducible refine fr_asAgg (by assumption) fun _ _ => ?_) | (with_reducible refine fr_sliceBound fun _ => ?_) | (with_reducible refine fr_sliceBounds fun _ => ?_) | (with_reducible refine fr_askRoom ?_) | (with_reducible refine fr_byteOf (by assumption) fun _ => ?_) | (with_reducible refine fr_loadVar (by assumption) fun _ _ => ?_) | (with_reducible refine fr_part (by assumption) fun _ _ => ?_) | (with_reducible refine fr_fieldPlace (by assumption) fun _ _ => ?_) | (with_reducible refine fr_lenOf fun _ => ?_) | (with_reducible refine fr_mayShare fun _ => ?_) | (with_reducible refine fr_firstCells (by assumption) fun _ _ => ?_) | (with_reducible refine fr_noRoom ?_) | split | dsimp only))
 all_goals first | exact h _ (.int _ _) | exact h _ (.float _ _) | exact h _ (.string _)
theorem fr_foldlM {f : Value → Value → Sem Value} (hf : ∀ x y {Q : (Nat → Prop) → Value → Prop}, (∀ v, VIn G A v → Q A v) → Sem.Fr P G (f x y) A Q) {Q : (Nat → Prop) → Value → Prop} (h : ∀ v, VIn G A v → Q A v) :
 ∀ (l : List Value) (x : Value), VIn G A x → Sem.Fr P G (l.foldlM f x) A Q
 | [], x, hx => fr_pure (h x hx)
 | y :: l, x, hx => fr_bind (hf x y fun v hv => fr_foldlM hf h l v hv)
theorem fr_max {as : Array TypeId} {t : TypeId} {args : Array Value} (ha : ∀ v ∈ args, VIn G A v) {Q : (Nat → Prop) → Value → Prop} (h : ∀ v, VIn G A v → Q A v) : Sem.Fr P G (Builtin.max_ as t args) A Q := by
 unfold Builtin.max_
 split
 · exact fr_stuck
 · rename_i x l e
   exact fr_foldlM (fun x y {Q} h => fr_max2 h) h l x (ha x (by rw [← Array.mem_toList_iff, e]; simp))
theorem fr_min {as : Array TypeId} {t : TypeId} {args : Array Value} (ha : ∀ v ∈ args, VIn G A v) {Q : (Nat → Prop) → Value → Prop} (h : ∀ v, VIn G A v → Q A v) : Sem.Fr P G (Builtin.min_ as t args) A Q := by
 unfold Builtin.min_
 split
 · exact fr_stuck
 · rename_i x l e
   exact fr_foldlM (fun x y {Q} h => fr_min2 h) h l x (ha x (by rw [← Array.mem_toList_iff, e]; simp))
end
end Go.Proofs.Ytclnogfmmekooaa
namespace Go.Proofs.Ytclnogfmmekooaa
set_option linter.unusedVariables false
set_option linter.unusedSimpArgs false
open Go.Conc
section
variable {P : Program} {G : Cfg} {A : Nat → Prop}
theorem fr_callFunc (hP : Clean1 P G) {f : FuncId} (hf : G f = true) {args : Array Value} (ha : ∀ v ∈ args, VIn G A v) {Q : (Nat → Prop) → Next → Prop} (h : ∀ A' n, (∀ b, A b → A' b) → NIn P G A' n → Q A' n) : Sem.Fr P G (callFunc f args) A Q := by
 obtain ⟨fn, c, h1, h2, _, h4⟩ := hP.func f hf
 unfold callFunc
 refine fr_program ?_
 rw [h1]
 simp only [h4, h2, Option.isNone_some, Bool.false_eq_true, if_false]
 exact fr_pure (h A _ (fun _ z => z) ⟨hf, ha⟩)
theorem setp_in {ts : Array Value} (hts : ∀ v ∈ ts, VIn G A v) : ∀ (l : List (Tmp × Value)), (∀ p ∈ l, VIn G A p.2) → ∀ v ∈ l.foldl (fun tmps (p : Tmp × Value) => tmps.setIfInBounds p.1 p.2) ts, VIn G A v := by
 intro l
 induction l generalizing ts with
 | nil => exact fun _ => hts
 | cons p l ih =>
   intro hl
   rw [List.foldl_cons]
   refine ih (fun v hv => ?_) fun q hq => hl q (by simp [hq])
   rcases Array.mem_or_eq_of_mem_setIfInBounds hv with h1 | h1
   · exact hts v h1
   · rw [h1]; exact hl p (by simp)
theorem fr_getLoop {l : Nat} (hl : A l) {Q : (Nat → Prop) → Loop → Prop} (h : ∀ r, OIn P G A l (.loop r) → Q A r) : Sem.Fr P G (Instr.getLoop l) A Q := by
 unfold Instr.getLoop
 refine fr_bind (fr_getObj hl fun o ho => ?_)
 split
 · exact fr_pure (h _ ho)
 · exact fr_stuck
theorem loop_in {l : Nat} {r : Loop} (h : OIn P G A l (.loop r)) : (∀ v ∈ r.tmps, VIn G A v) ∧ codeOk P G r.assign = true ∧ codeOk P G r.body = true ∧ (∀ c, r.pending = some c → codeOk P G c = true) ∧ A r.defers := by
 cases h; exact ⟨by assumption, by assumption, by assumption, by assumption, by assumption⟩
theorem fr_yield {l : Nat} (hl : A l) {args : Array Value} (ha : ∀ v ∈ args, VIn G A v) {Q : (Nat → Prop) → Next → Prop} (h : ∀ A' n, (∀ b, A b → A' b) → NIn P G A' n → Q A' n) : Sem.Fr P G (Instr.yield l args) A Q := by
 unfold Instr.yield
 refine fr_bind (fr_getLoop hl fun r hr => ?_)
 obtain ⟨h1, h2, h3, _, _⟩ := loop_in hr
 split
 · exact fr_bind fr_stuck
 · refine fr_pure (h A _ (fun _ z => z) ⟨hl, ?_, h2, h3⟩)
   rw [← Array.foldl_toList]
   refine setp_in h1 _ fun p hp => ?_
   exact ha _ (Array.of_mem_zip (Array.mem_toList_iff.1 hp)).2
/-- Whom a clean call calls. -/
def TIn (P : Program) (G : Cfg) (A : Nat → Prop) : Target → Prop
 | .fn (.func f) captured => G f = true ∧ ∀ v ∈ captured, VIn G A v
 | .fn (.yield l) captured => A l ∧ ∀ v ∈ captured, VIn G A v
 | .builtin .append as _ _ => ∀ st, as[0]? = some st → ∀ e, P.underlying st = some (.slice e) → e < P.types.size
 | .builtin .copy _ _ _ | .builtin .len _ _ _ | .builtin .max _ _ _ | .builtin .min _ _ _ => True
 | .nil => True
 | _ => False
theorem fr_val {s : Sem Value} {Q : (Nat → Prop) → Next → Prop} (h : ∀ A' n, (∀ b, A b → A' b) → NIn P G A' n → Q A' n) (hs : Sem.Fr P G s A (fun A' v => (∀ b, A b → A' b) ∧ VIn G A' v)) : Sem.Fr P G (do pure (.value (← s)) : Sem Next) A Q :=
 fr_bind (hs.mono fun A' v hA hv => fr_pure (h A' _ hv.1 hv.2))
theorem fr_unit {s : Sem Unit} {Q : (Nat → Prop) → Next → Prop} (h : ∀ A' n, (∀ b, A b → A' b) → NIn P G A' n → Q A' n) (hs : Sem.Fr P G s A (fun A' _ => ∀ b, A b → A' b)) : Sem.Fr P G (do s; pure .skip : Sem Next) A Q :=
 fr_bind (hs.mono fun A' v hA hv => fr_pure (h A' _ hv trivial))
theorem fr_invoke (hP : Clean1 P G) {t : Target} (ht : TIn P G A t) {args : Array Value} (ha : ∀ v ∈ args, VIn G A v) {Q : (Nat → Prop) → Next → Prop} (h : ∀ A' n, (∀ b, A b → A' b) → NIn P G A' n → Q A' n) : Sem.Fr P G (invoke t args) A Q := by
 unfold invoke
 split
 · exact fr_runtimePanic (by simp)
 · rename_i b as ty cs
   unfold builtin
   cases b <;> first | exact ht.elim | skip
   · exact fr_val h (fr_append hP ht ha fun A' v hA hv => ⟨hA, hv⟩)
   · exact fr_val h (fr_copy ha fun v hv => ⟨fun _ z => z, hv⟩)
   · exact fr_val h (fr_len ha fun v hv => ⟨fun _ z => z, hv⟩)
   · exact fr_val h (fr_max ha fun v hv => ⟨fun _ z => z, hv⟩)
   · exact fr_val h (fr_min ha fun v hv => ⟨fun _ z => z, hv⟩)
 · exact fr_callFunc hP ht.1 (fun v hv => (Array.mem_append.1 hv).elim (ha v) (ht.2 v)) h
 · exact ht.elim
 · exact ht.elim
 · exact ht.elim
 · exact fr_yield ht.1 ha h
 · exact ht.elim
 · exact ht.elim
theorem fr_ofValue {f : Value} (hf : VIn G A f) {args : Array Value} (ha : ∀ v ∈ args, VIn G A v) {Q : (Nat → Prop) → Deferred → Prop} (h : ∀ d, TIn P G A d.target → (∀ v ∈ d.args, VIn G A v) → Q A d) : Sem.Fr P G (Deferred.ofValue f args) A Q := by
 unfold Deferred.ofValue
 split
 · cases hf with
   | func hg h1 h2 => exact fr_pure (h _ ⟨hg, h2⟩ fun v hv => (Array.mem_append.1 hv).elim (h1 v) (ha v))
   | yield hl h1 h2 => exact fr_pure (h _ ⟨hl, h2⟩ fun v hv => (Array.mem_append.1 hv).elim (h1 v) (ha v))
 · exact fr_pure (h _ trivial ha)
 · exact fr_stuck
theorem mem_map_in {ρ : Operand → Value} (hρ : ∀ x, operOk G x = true → VIn G A (ρ x)) {xs : Array Operand} (hx : xs.all (operOk G) = true) : ∀ v ∈ xs.map ρ, VIn G A v := by
 intro v hv
 obtain ⟨x, hm, rfl⟩ := Array.mem_map.1 hv
 exact hρ x (Array.all_eq_true'.1 hx x hm)
theorem fr_call (hP : Clean1 P G) {ρ : Operand → Value} (hρ : ∀ x, operOk G x = true → VIn G A (ρ x)) {c : Call} {t : TypeId} (hc : opOk P G (.call c) = true) {Q : (Nat → Prop) → Next → Prop} (h : ∀ A' n, (∀ b, A b → A' b) → NIn P G A' n → Q A' n) :
 Sem.Fr P G (do let d ← resolve ρ c t; invoke d.target d.args : Sem Next) A Q := by
 simp only [opOk, Op.operands, Call.operands, Bool.and_eq_true] at hc
 obtain ⟨h1, h2⟩ := hc
 rw [Array.all_append, Bool.and_eq_true] at h2
 have ha := mem_map_in hρ h2.2
 unfold resolve
 cases hcal : c.callee with
 | value f =>
   rw [hcal] at h2
   have hf : VIn G A (ρ f) := hρ f (by simpa using h2.1)
   exact fr_bind (fr_ofValue hf ha fun d hd hda => fr_invoke hP hd hda h)
 | invoke r m => rw [hcal] at h1; simp at h1
 | builtin b =>
   rw [hcal] at h1
   refine fr_bind (fr_pure (fr_invoke hP ?_ ha h))
   cases b <;> first | trivial | (simp at h1; done) | skip
   intro st hst e he
   simp only [hst] at h1
   unfold elOk at h1
   rw [he] at h1
   simpa [tyOk] using h1
theorem elOk_slice {t : TypeId} (h : elOk P t = true) : ∀ e, P.underlying t = some (.slice e) → e < P.types.size := by
 intro e he
 unfold elOk at h
 rw [he] at h
 simpa [tyOk] using h
theorem elOk_map {t : TypeId} (h : elOk P t = true) : ∀ k e, P.underlying t = some (.map k e) → e < P.types.size := by
 intro k e he
 unfold elOk at h
 rw [he] at h
 simpa [tyOk] using h
theorem keyOk_map {t : TypeId} (h : keyOk P t = true) : ∀ k e, P.underlying t = some (.map k e) → eqOk P 9 k = true := by
 intro k e he
 unfold keyOk at h
 rw [he] at h
 exact h
theorem fr_nilCheck {v : Value} (hv : VIn G A v) {Q : (Nat → Prop) → Next → Prop} (h : ∀ A' n, (∀ b, A b → A' b) → NIn P G A' n → Q A' n) :
 Sem.Fr P G (match v with
 | .pointer none | .nilIface | .nilFunc => runtimePanic .nilDeref
 | .func (.method name) first captured =>
   match (first[0]? : Option Value) with
   | some .nilIface => runtimePanic .nilDeref
   | some (.iface t w) => do
     if (← nilAhead ((← program).types.size + Made.depth) t w name) != some false then
      unsupported (.noEntry "op/nilCheck.the method's receiver behind this interface value is a nil pointer, or cannot be seen to be none, and the arguments act or may panic (ledger 612)")
     pure (.value (.func (.method name) first captured))
   | _ => pure (.value (.func (.method name) first captured))
 | x => pure (.value x) : Sem Next) A Q := by
 split
 · exact fr_runtimePanic (by simp)
 · exact fr_runtimePanic (by simp)
 · exact fr_runtimePanic (by simp)
 · cases hv
 · exact fr_pure (h A _ (fun _ z => z) hv)
/-- ████ EVERY OPERATION OF CLEAN CODE. ████ -/
theorem fr_execOp (hP : Clean1 P G) {ρ : Operand → Value} (hρ : ∀ x, operOk G x = true → VIn G A (ρ x)) (hnil : ∀ x, isNil x = true → ρ x = .nilIface) {o : Oper} (ho : opOk P G o.op = true) : Sem.Fr P G (execOp ρ o) A (fun A' n => (∀ b, A b → A' b) ∧ NIn P G A' n) := by
 have H : ∀ A' n, (∀ b, A b → A' b) → NIn P G A' n → (∀ b, A b → A' b) ∧ NIn P G A' n := fun _ _ h1 h2 => ⟨h1, h2⟩
 have h0 : ∀ v, VIn G A v → (∀ b, A b → A b) ∧ VIn G A v := fun v hv => ⟨fun _ z => z, hv⟩
 have hn : ∀ (r : Nat) v, VIn G (fun b => A b ∨ b = r) v → (∀ b, A b → A b ∨ b = r) ∧ VIn G (fun b => A b ∨ b = r) v := fun r v hv => ⟨fun _ z => .inl z, hv⟩
 unfold execOp
 cases hop : o.op <;> rw [hop] at ho <;> simp only
 case move x => exact fr_pure ⟨fun _ z => z, hρ x (by simpa [opOk, Op.operands] using ho)⟩
 case assign x => exact fr_pure ⟨fun _ z => z, hρ x (by simpa [opOk, Op.operands] using ho)⟩
 case pick c a b =>
  simp [opOk, Op.operands] at ho
  refine fr_bind (fr_asBool fun t => fr_pure ⟨fun _ z => z, ?_⟩)
  show VIn G A _
  split
  · exact hρ a ho.2.1
  · exact hρ b ho.2.2
 case alloc e => exact fr_val H (fr_alloc hP (by simpa [opOk, tyOk, Op.operands] using ho) fun r hr => hn r _ (.ptr (hr.ina _ _)))
 case box e x => exact fr_val H (fr_box (hρ x (by simpa [opOk, Op.operands] using ho)) fun r hr => hn r _ (.ptr (hr.ina _ _)))
 case build t ps =>
  simp [opOk, Op.operands, tyOk] at ho
  refine fr_val H (fr_build hP ho.1 (fun p hp => ?_) h0)
  obtain ⟨q, hq, rfl⟩ := Array.mem_map.1 hp
  obtain ⟨i, hi, rfl⟩ := Array.mem_iff_getElem.1 hq
  exact hρ _ (ho.2 i hi)
 case buildSlice t n ps =>
  simp [opOk, Op.operands] at ho
  refine fr_val H (fr_buildSlice hP (elOk_slice ho.1) (fun p hp => ?_) fun r v _ hv => hn r v hv)
  obtain ⟨q, hq, rfl⟩ := Array.mem_map.1 hp
  obtain ⟨i, hi, rfl⟩ := Array.mem_iff_getElem.1 hq
  exact hρ _ (ho.2 i hi)
 case load t a => exact fr_val H (fr_loadAt (hρ a (by simpa [opOk, Op.operands] using ho)) h0)
 case store t a x =>
  simp [opOk, Op.operands] at ho
  exact fr_unit H (fr_storeAt (hρ a ho.1) (hρ x ho.2) fun _ z => z)
 case nilCheck x => exact fr_nilCheck (hρ x (by simpa [opOk, Op.operands] using ho)) H
 case binOp op t x y u =>
  simp only [opOk, Op.operands, Bool.and_eq_true] at ho
  obtain ⟨⟨hu, he⟩, ho⟩ := ho
  replace ho : operOk G x = true ∧ operOk G y = true := by simpa using ho
  exact fr_val H (fr_bind (fr_eqGuard (hρ x ho.1) (hρ y ho.2) (fr_binOp (by simpa using hu) (fun e => by
   rw [e] at he
   simp only [Bool.not_true, Bool.false_or, Bool.or_eq_true] at he
   exact he.imp id fun h => h.imp (fun h => hnil x h) fun h => hnil y h) (hρ x ho.1) (hρ y ho.2) fun A' v hA hv => ⟨hA, hv⟩)))
 case unOp op t x => exact fr_val H (fr_unary (hρ x (by simpa [opOk, Op.operands] using ho)) h0)
 case convert s d x =>
  simp only [opOk, Op.operands, Bool.and_eq_true] at ho
  exact fr_val H (fr_convert ho.1.1 ho.1.2 (hρ x (by simpa using ho.2)) h0)
 case makeInterface t x => exact fr_val H (fr_makeInterface (hρ x (by simpa [opOk, Op.operands] using ho)) h0)
 case makeFunc fn a b =>
  cases fn <;> simp [opOk, Op.operands] at ho
  refine fr_val H (fr_pure (h0 _ (.func ho.1 ?_ ?_)))
  · intro v hv
    obtain ⟨x, hx, rfl⟩ := Array.mem_map.1 hv
    obtain ⟨i, hi, rfl⟩ := Array.mem_iff_getElem.1 hx
    exact hρ _ (ho.2.1 i hi)
  · intro v hv
    obtain ⟨x, hx, rfl⟩ := Array.mem_map.1 hv
    obtain ⟨i, hi, rfl⟩ := Array.mem_iff_getElem.1 hx
    exact hρ _ (ho.2.2 i hi)
 case makeMap t r => exact fr_val H (fr_makeMap fun r _ => hn r _ (.map (.inr rfl)))
 case makeSlice t l c =>
  simp [opOk, Op.operands] at ho
  exact fr_val H (fr_makeSlice hP (elOk_slice ho.1) fun r v _ hv => hn r v hv)
 case slice t x l h m =>
  simp [opOk, Op.operands] at ho
  exact fr_val H (fr_sliceAt (hρ x ho.1.1) h0)
 case fieldAddr s x f => exact fr_val H (fr_fieldAt (hρ x (by simpa [opOk, Op.operands] using ho)) h0)
 case field s x f => exact fr_val H (fr_field (hρ x (by simpa [opOk, Op.operands] using ho)) h0)
 case indexAddr t x i =>
  simp [opOk, Op.operands] at ho
  exact fr_val H (fr_indexAt (hρ x ho.1) h0)
 case lookup t x i ok =>
  simp [opOk, Op.operands] at ho
  exact fr_val H (fr_lookup hP (keyOk_map ho.1.2) (elOk_map ho.1.1) (hρ x ho.2.1) (hρ i ho.2.2) h0)
 case mapUpdate t m k x =>
  simp [opOk, Op.operands] at ho
  exact fr_unit H (fr_mapUpdate (keyOk_map ho.1) (hρ m ho.2.1) (hρ k ho.2.2.1) (hρ x ho.2.2.2) fun _ z => z)
 case extract t i => exact fr_val H (fr_extract (hρ t (by simpa [opOk, Op.operands] using ho)) h0)
 case call c => exact fr_call hP hρ ho H
 all_goals simp [opOk] at ho
end
end Go.Proofs.Ytclnogfmmekooaa
namespace Go.Proofs.Ytclnogfmmekooaa
set_option linter.unusedVariables false
set_option linter.unusedSimpArgs false
open Go.Conc
def itemIn (P : Program) (G : Cfg) (A : Nat → Prop) : Item → Prop
 | .code c | .inLoop c => codeOk P G c = true
 | .inBlock _ | .beginRound => True
 | .inRegion ops _ => (ops.all fun o => opOk P G o.op) = true
 | .inRangeFunc l | .endRangeFunc l => A l
 | _ => False
structure FrIn (P : Program) (G : Cfg) (A : Nat → Prop) (fr : Frame) : Prop where
 tmps : ∀ v ∈ fr.tmps, VIn G A v
 todo : ∀ x ∈ fr.todo, itemIn P G A x
 defers : ∀ d ∈ fr.defers, ∃ r, d = { target := .collected r, args := #[] } ∧ A r
 kind : fr.kind = .normal
 round : ∀ l, fr.roundOf = some l → A l
theorem itemIn.mono {P : Program} {G : Cfg} {A A' : Nat → Prop} (h : ∀ b, A b → A' b) {x : Item} (hx : itemIn P G A x) : itemIn P G A' x := by
 cases x <;> simp only [itemIn] at * <;> first | exact hx | exact h _ hx
theorem FrIn.mono {P : Program} {G : Cfg} {A A' : Nat → Prop} (h : ∀ b, A b → A' b) {fr : Frame} (hf : FrIn P G A fr) : FrIn P G A' fr :=
 ⟨fun v hv => (hf.tmps v hv).mono h, fun x hx => (hf.todo x hx).mono h, fun d hd => let ⟨r, e, hr⟩ := hf.defers d hd; ⟨r, e, h _ hr⟩, hf.kind, fun l hl => h _ (hf.round l hl)⟩
/-- The last frame of a stack goes on behind its own items with 'k'. -/
def addK (k : List Item) : List Frame → List Frame
 | [] => []
 | [f] => [{ f with todo := f.todo ++ k }]
 | f :: g :: r => f :: addK k (g :: r)
def gor (fr : Frame) (cs : List Frame) : Goroutine := { frame := fr, callers := cs, status := .running, dying := none }
/-- The stack 'st' on top of 'cs'. -/
def onTop (k : List Item) (cs : List Frame) (fr : Frame) : List Frame → Goroutine
 | [] => gor { fr with todo := fr.todo ++ k } cs
 | g :: r => gor fr (addK k (g :: r) ++ cs)
/-- A stack within the set: the frames below the top one run. -/
structure StIn (P : Program) (G : Cfg) (A : Nat → Prop) (fr : Frame) (inner : List Frame) : Prop where
 top : FrIn P G A fr
 rest : ∀ f ∈ inner, FrIn P G A f ∧ f.mode = .run
theorem StIn.mono {P : Program} {G : Cfg} {A A' : Nat → Prop} (h : ∀ b, A b → A' b) {fr : Frame} {inner : List Frame} (hf : StIn P G A fr inner) : StIn P G A' fr inner :=
 ⟨hf.top.mono h, fun f hm => ⟨(hf.rest f hm).1.mono h, (hf.rest f hm).2⟩⟩
section
variable {P : Program} {G : Cfg} {A : Nat → Prop}
theorem eval_in {fr : Frame} (h : FrIn P G A fr) : ∀ x, operOk G x = true → VIn G A (fr.eval x) := by
 intro x hx
 cases x with
 | tmp t =>
   show VIn G A (fr.tmps.getD t undef)
   rw [Array.getD_eq_getD_getElem?]
   cases ht : fr.tmps[t]? with
   | none => exact .tuple (by simp)
   | some v => exact h.tmps v (Array.mem_of_getElem? ht)
 | const v => exact .of_plain hx
 | global g => simp [operOk] at hx
 | func f => exact .func hx (by simp) (by simp)
theorem FrIn.todo' {fr : Frame} (h : FrIn P G A fr) {k : List Item} (hk : ∀ x ∈ k, itemIn P G A x) : FrIn P G A { fr with todo := k } := ⟨h.tmps, hk, h.defers, h.kind, h.round⟩
theorem FrIn.finish {fr : Frame} (h : FrIn P G A fr) {v : Value} (hv : VIn G A v) : FrIn P G A (fr.finish v) := by
 unfold Frame.finish
 split
 · rename_i ops i rest k e
   refine ⟨fun x hx => ?_, fun x hx => ?_, h.defers, h.kind, h.round⟩
   · split at hx
     · rcases Array.mem_or_eq_of_mem_setIfInBounds hx with h1 | h1
       · exact h.tmps x h1
       · exact h1 ▸ hv
     · exact h.tmps x hx
   · have h0 := h.todo
     rw [e] at h0
     rcases List.mem_cons.1 hx with rfl | hx
     · exact h0 (.inRegion ops (i :: rest)) (by simp)
     · exact h0 x (by simp [hx])
 · rename_i l k e
   have h0 := h.todo
   rw [e] at h0
   exact h.todo' fun x hx => (List.mem_cons.1 hx).elim (fun e => e ▸ h0 (.inRangeFunc l) (by simp)) fun hx => h0 x (by simp [hx])
 · rename_i k e
   have h0 := h.todo
   rw [e] at h0
   exact h.todo' fun x hx => h0 x (by simp [hx])
 · rename_i d wr re sv k e
   have h0 := h.todo
   rw [e] at h0
   exact (h0 (.call d wr re sv) (by simp)).elim
 · rename_i row args k e
   have h0 := h.todo
   rw [e] at h0
   exact (h0 (.extern row args) (by simp)).elim
 · exact h
/-- What waits behind a frame's items does not matter to 'finish', but where nothing of its own is left. -/
theorem finish_add {fr : Frame} (h : fr.todo ≠ []) (k : List Item) (v : Value) : ({ fr with todo := fr.todo ++ k } : Frame).finish v = { fr.finish v with todo := (fr.finish v).todo ++ k } := by
 cases ht : fr.todo with
 | nil => exact absurd ht h
 | cons x l =>
   cases x with
   | inRegion ops td => cases td <;> simp [Frame.finish, ht]
   | _ => simp [Frame.finish, ht]
theorem enter_in (hP : Clean1 P G) {f : FuncId} (hf : G f = true) {args : Array Value} (ha : ∀ v ∈ args, VIn G A v) : FrIn P G A (Frame.enter P f args .normal) := by
 obtain ⟨fn, c, h1, h2, h3, _⟩ := hP.func f hf
 refine ⟨fun v hv => ?_, fun x hx => ?_, fun d hd => (by cases hd), rfl, fun l hl => (by cases hl)⟩
 · simp only [Frame.enter] at hv
   rcases Array.mem_append.1 hv with hv | hv
   · exact ha v hv
   · rw [(Array.mem_replicate.1 hv).2]; exact .tuple (by simp)
 · simp only [Frame.enter, h1, Option.bind_some, h2, Option.getD_some, List.mem_singleton] at hx
   subst hx
   exact h3
theorem exitTo_in {id : Nat} : ∀ {k k' : List Item}, (∀ x ∈ k, itemIn P G A x) → exitTo id k = some k' → ∀ x ∈ k', itemIn P G A x
 | [], _, _, e => by simp [exitTo] at e
 | y :: k, k', h, e => by
   have hk : ∀ x ∈ k, itemIn P G A x := fun x hx => h x (by simp [hx])
   cases y with
   | inBlock id' =>
     simp only [exitTo] at e
     split at e
     · cases e; exact hk
     · exact exitTo_in hk e
   | _ => exact exitTo_in hk (by simpa only [exitTo] using e)
theorem exitTo_app {id : Nat} : ∀ {k k' : List Item} (t : List Item), exitTo id k = some k' → exitTo id (k ++ t) = some (k' ++ t)
 | [], _, _, e => by simp [exitTo] at e
 | y :: k, k', t, e => by
   cases y with
   | inBlock id' =>
     simp only [exitTo, List.cons_append] at e ⊢
     split at e
     · rename_i hc; cases e; simp [hc]
     · rename_i hc; simp only [hc, if_false, Bool.false_eq_true]; exact exitTo_app t e
   | _ => exact exitTo_app (k := k) t (by simpa only [exitTo] using e)
theorem exitTo_none {id : Nat} {t : List Item} (ht : exitTo id t = none) : ∀ {k : List Item}, exitTo id k = none → exitTo id (k ++ t) = none
 | [], _ => ht
 | y :: k, e => by
   cases y with
   | inBlock id' =>
     simp only [exitTo, List.cons_append] at e ⊢
     split at e
     · cases e
     · rename_i hc; simp only [hc, if_false, Bool.false_eq_true]; exact exitTo_none ht e
   | _ => exact exitTo_none (k := k) ht (by simpa only [exitTo] using e)
end
end Go.Proofs.Ytclnogfmmekooaa
namespace Go.Proofs.Ytclnogfmmekooaa
set_option linter.unusedVariables false
set_option linter.unusedSimpArgs false
open Go.Conc
def cutO (h : Nat) : Obj → Obj
 | .cells cs t fr => .cells (cs.extract 0 h) t fr
 | o => o
def cutW (G : Cfg) (w : World) : World := match G.dead with
 | some (c, _, h) => { w with heap := w.heap.modify c (cutO h) }
 | none => w
section
variable {P : Program} {G : Cfg} {w : World}
theorem cutW_none (h : G.dead = none) (w : World) : cutW G w = w := by unfold cutW; rw [h]
theorem cutW_some {c l h : Nat} (e : G.dead = some (c, l, h)) (w : World) : cutW G w = { w with heap := w.heap.modify c (cutO h) } := by unfold cutW; rw [e]
theorem cut_size (G : Cfg) (w : World) : (cutW G w).heap.size = w.heap.size := by unfold cutW; split <;> simp
theorem cut_drawn (G : Cfg) (w : World) : (cutW G w).drawn = w.drawn := by unfold cutW; split <;> rfl
theorem cut_tape (G : Cfg) (w : World) : (cutW G w).tape = w.tape := by unfold cutW; split <;> rfl
theorem cut_os (G : Cfg) (w : World) : (cutW G w).os = w.os := by unfold cutW; split <;> rfl
theorem cut_output (G : Cfg) (w : World) : (cutW G w).output = w.output := by unfold cutW; split <;> rfl
theorem cut_tp (G : Cfg) (w : World) (T : Nat → Question → Nat) (d : Nat) : cutW G { w with tape := T, drawn := d } = { cutW G w with tape := T, drawn := d } := by unfold cutW; split <;> rfl
/-- A block behind the cut. -/
theorem cut_get (G : Cfg) (w : World) (r : Nat) : (cutW G w).heap[r]? = w.heap[r]? ∨ ∃ cs t fr h, w.heap[r]? = some (.cells cs t fr) ∧ (cutW G w).heap[r]? = some (.cells (cs.extract 0 h) t fr) := by
 unfold cutW
 split
 · rename_i c l h e
   show (w.heap.modify c (cutO h))[r]? = _ ∨ ∃ cs t fr h', _ ∧ (w.heap.modify c (cutO h))[r]? = _
   rw [Array.getElem?_modify]
   split
   · cases ho : w.heap[r]? with
     | none => exact .inl rfl
     | some o => cases o <;> first | exact .inl rfl | exact .inr ⟨_, _, _, h, rfl, rfl⟩
   · exact .inl rfl
 · exact .inl rfl
theorem cut_other (G : Cfg) (w : World) {r : Nat} (h : ∀ c l hi, G.dead = some (c, l, hi) → r ≠ c) : (cutW G w).heap[r]? = w.heap[r]? := by
 unfold cutW
 split
 · rename_i c l hi e
   show (w.heap.modify c (cutO hi))[r]? = _
   rw [Array.getElem?_modify, if_neg (fun x => h c l hi e x.symm)]
 · rfl
theorem cut_cell {a : Addr} {v : Value} (h : (cutW G w).cell? a = some v) : w.cell? a = some v := by
 unfold World.cell? at h ⊢
 rcases cut_get G w a.block with e | ⟨cs, t, fr, hi, e1, e2⟩
 · rw [e] at h; exact h
 · rw [e2] at h
   rw [e1]
   simp only at h ⊢
   split at h
   · cases h
   · rename_i hs
     rw [if_neg hs]
     rw [Array.getElem?_extract] at h
     split at h
     · simpa using h
     · cases h
theorem cut_frozen (a : Addr) : (cutW G w).frozen? a = w.frozen? a := by
 unfold World.frozen?
 rcases cut_get G w a.block with e | ⟨cs, t, fr, hi, e1, e2⟩
 · rw [e]
 · rw [e1, e2]
theorem cut_shape (r : Nat) : ((cutW G w).shape? r = none ∧ w.shape? r = none) ∨ ∃ t n n', n ≤ n' ∧ (cutW G w).shape? r = some (t, n) ∧ w.shape? r = some (t, n') := by
 unfold World.shape?
 rcases cut_get G w r with e | ⟨cs, t, fr, hi, e1, e2⟩
 · rw [e]
   cases ho : w.heap[r]? with
   | none => exact .inl ⟨rfl, rfl⟩
   | some o => cases o <;> first | exact .inl ⟨rfl, rfl⟩ | exact .inr ⟨_, _, _, Nat.le_refl _, rfl, rfl⟩
 · rw [e1, e2]
   exact .inr ⟨_, _, _, by simp; omega, rfl, rfl⟩
theorem modify_comm {α : Type} (xs : Array α) (i j : Nat) (f g : α → α) (h : ∀ x, f (g x) = g (f x)) : (xs.modify i f).modify j g = (xs.modify j g).modify i f := by
 apply Array.ext_getElem?
 intro k
 simp only [Array.getElem?_modify]
 by_cases h1 : i = k <;> by_cases h2 : j = k <;> simp [h1, h2]
 cases xs[k]? with
 | none => rfl
 | some x => simp [h]
theorem cut_setCell (a : Addr) (v : Value) : cutW G (w.setCell a v) = (cutW G w).setCell a v := by
 unfold cutW
 split
 · rename_i c l h e
   unfold World.setCell
   simp only
   congr 1
   refine modify_comm _ _ _ _ _ fun x => ?_
   cases x <;> first | rfl | skip
   simp only [cutO]
   split
   · rfl
   · congr 1
     apply Array.ext_getElem?
     intro k
     simp only [Array.getElem?_setIfInBounds, Array.getElem?_extract, Array.size_extract, Array.size_setIfInBounds]
     split <;> split <;> (try split) <;> (try rfl) <;> (first | omega | simp_all) <;> omega
 · rfl
theorem cut_freeze (a : Addr) (n : Nat) : cutW G (w.freeze a n) = (cutW G w).freeze a n := by
 unfold cutW
 split
 · unfold World.freeze
   split
   · rfl
   · simp only
     congr 1
     refine modify_comm _ _ _ _ _ fun x => ?_
     cases x <;> rfl
 · rfl
theorem cut_push (hd : ∀ c l h, G.dead = some (c, l, h) → c < w.heap.size) (o : Obj) : cutW G { w with heap := w.heap.push o } = { cutW G w with heap := (cutW G w).heap.push o } := by
 unfold cutW
 split
 · rename_i c l h e
   have := hd c l h e
   simp only
   congr 1
   apply Array.ext_getElem?
   intro k
   simp only [Array.getElem?_modify, Array.getElem?_push, Array.size_modify]
   by_cases h1 : c = k
   · subst h1; simp [Nat.ne_of_lt this]
   · by_cases h2 : k = w.heap.size
     · subst h2; simp [h1]
     · simp [h1, h2]
 · rfl
theorem cut_set (r : Nat) (o : Obj) (hr : ∀ cs t fr, (cutW G w).heap[r]? ≠ some (.cells cs t fr)) (ho : ∀ cs t fr, o ≠ .cells cs t fr) : cutW G { w with heap := w.heap.setIfInBounds r o } = { cutW G w with heap := (cutW G w).heap.setIfInBounds r o } := by
 unfold cutW
 split
 · rename_i c l h e
   simp only
   congr 1
   apply Array.ext_getElem?
   intro k
   simp only [Array.getElem?_modify, Array.getElem?_setIfInBounds, Array.size_modify]
   have e2 : cutO h o = o := by cases o <;> first | rfl | exact absurd rfl (ho _ _ _)
   by_cases h1 : c = k <;> by_cases h2 : r = k <;> simp [h1, h2, e2]
 · rfl
theorem cut_there (h : ∀ c l hi, G.dead = some (c, l, hi) → c < (cutW G w).heap.size) : ∀ c l hi, G.dead = some (c, l, hi) → c < w.heap.size := fun c l hi e => by have := h c l hi e; rwa [cut_size] at this
end
/-- The dead block's cells behind what is known stand. -/
def Tail (G : Cfg) (w w' : World) : Prop := ∀ c l h, G.dead = some (c, l, h) → ∀ cs t fr, w.heap[c]? = some (.cells cs t fr) → ∃ cs' fr', w'.heap[c]? = some (.cells cs' t fr') ∧ cs'.size = cs.size ∧ ∀ j, h ≤ j → cs'[j]? = cs[j]?
theorem Tail.refl (G : Cfg) (w : World) : Tail G w w := fun c l h e cs t fr ho => ⟨cs, fr, ho, rfl, fun _ _ => rfl⟩
theorem Tail.trans {G : Cfg} {a b c : World} (h : Tail G a b) (k : Tail G b c) : Tail G a c := fun x l hi e cs t fr ho => by
 obtain ⟨cs1, fr1, h1, h2, h3⟩ := h x l hi e cs t fr ho
 obtain ⟨cs2, fr2, k1, k2, k3⟩ := k x l hi e cs1 t fr1 h1
 exact ⟨cs2, fr2, k1, k2.trans h2, fun j hj => (k3 j hj).trans (h3 j hj)⟩
theorem Tail.of_heap {G : Cfg} {w w' : World} (h : ∀ c l hi, G.dead = some (c, l, hi) → w'.heap[c]? = w.heap[c]?) : Tail G w w' := fun c l hi e cs t fr ho => ⟨cs, fr, (h c l hi e).trans ho, rfl, fun _ _ => rfl⟩
theorem Tail.setCell {G : Cfg} {w : World} {a : Addr} {x : Value} (v : Value) (h : (cutW G w).cell? a = some x) : Tail G w (w.setCell a v) := by
 intro c l hi e cs t fr ho
 by_cases hb : a.block = c
 · have hlt : a.spot.isSome = false ∧ a.off < hi := by
    unfold World.cell? at h
    rw [cutW_some e] at h
    simp only [hb] at h
    rw [Array.getElem?_modify, if_pos rfl, ho] at h
    simp only [Option.map_some, cutO] at h
    split at h
    · cases h
    · rename_i hs
      refine ⟨by simpa using hs, ?_⟩
      rw [Array.getElem?_extract] at h
      split at h
      · rename_i hlt; simp at hlt; omega
      · cases h
   refine ⟨cs.setIfInBounds a.off v, fr, ?_, by simp, fun j hj => ?_⟩
   · show (w.heap.modify a.block _)[c]? = _
     rw [Array.getElem?_modify, if_pos hb, ho]
     simp [hlt.1]
   · rw [Array.getElem?_setIfInBounds_ne (by omega)]
 · refine ⟨cs, fr, ?_, rfl, fun _ _ => rfl⟩
   show (w.heap.modify a.block _)[c]? = _
   rw [Array.getElem?_modify, if_neg hb, ho]
theorem Tail.freeze {G : Cfg} {w : World} (a : Addr) (n : Nat) : Tail G w (w.freeze a n) := by
 intro c l hi e cs t fr ho
 unfold World.freeze
 split
 · exact ⟨cs, fr, ho, rfl, fun _ _ => rfl⟩
 · show ∃ cs' fr', (w.heap.modify a.block _)[c]? = _ ∧ _
   rw [Array.getElem?_modify]
   split
   · rw [ho]
     exact ⟨cs, _, rfl, rfl, fun _ _ => rfl⟩
   · exact ⟨cs, fr, ho, rfl, fun _ _ => rfl⟩
/-- Where both agree the block stands. -/
theorem Tail.same {G : Cfg} {w w' : World} (h : Tail G w w') {r : Nat} (hc : (cutW G w').heap[r]? = (cutW G w).heap[r]?) : w'.heap[r]? = w.heap[r]? := by
 cases hd : G.dead with
 | none => rwa [cutW_none hd, cutW_none hd] at hc
 | some x =>
   obtain ⟨c, l, hi⟩ := x
   by_cases hr : r = c
   · subst hr
     rw [cutW_some hd, cutW_some hd] at hc
     simp only [Array.getElem?_modify, if_true] at hc
     cases ho : w.heap[r]? with
     | none =>
       rw [ho] at hc
       cases ho' : w'.heap[r]? with
       | none => rfl
       | some o => rw [ho'] at hc; cases hc
     | some o =>
       rw [ho] at hc
       by_cases hcs : ∃ cs t fr, o = .cells cs t fr
       · obtain ⟨cs, t, fr, rfl⟩ := hcs
         obtain ⟨cs', fr', h1, h2, h3⟩ := h r l hi hd cs t fr ho
         rw [h1] at hc ⊢
         simp only [Option.map_some, cutO, Option.some.injEq, Obj.cells.injEq] at hc
         obtain ⟨e1, _, e3⟩ := hc
         subst e3
         congr 2
         apply Array.ext_getElem?
         intro j
         rcases Nat.lt_or_ge j hi with hlt | hge
         · have := congrArg (·[j]?) e1
           simp only [Array.getElem?_extract] at this
           by_cases hj : j < cs.size
           · rw [if_pos (by omega), if_pos (by omega)] at this
             simpa using this
           · rw [Array.getElem?_eq_none (by omega), Array.getElem?_eq_none (by omega)]
         · exact h3 j hge
       · cases ho' : w'.heap[r]? with
         | none => rw [ho'] at hc; cases hc
         | some o' =>
           rw [ho'] at hc
           simp only [Option.map_some, Option.some.injEq] at hc
           have e1 : cutO hi o = o := by cases o <;> first | rfl | exact absurd ⟨_, _, _, rfl⟩ hcs
           rw [e1] at hc
           have e2 : cutO hi o' = o' := by
            cases o' <;> first | rfl | (simp only [cutO] at hc; exact absurd ⟨_, _, _, hc.symm⟩ hcs)
           rw [e2] at hc
           rw [hc]
   · have h1 := cut_other G w (r := r) (fun c' l' hi' e => by rw [hd] at e; cases e; exact hr)
     have h2 := cut_other G w' (r := r) (fun c' l' hi' e => by rw [hd] at e; cases e; exact hr)
     rwa [h1, h2] at hc
/-- ████ WHAT COMES WELL TO ITS END IN THE CUT WORLD COMES TO THE SAME IN THE WORLD. ████ -/
theorem Sem.Fr.cut {P : Program} {G : Cfg} {α : Type} {s : Sem α} {Q : (Nat → Prop) → α → Prop} : ∀ {A : Nat → Prop} {w : World} {es : Array Event}, Sem.Fr P G s A Q → HIn P G A (cutW G w) →
 ∀ x w1 es1, s.runT P (cutW G w) es = (.ok x w1, es1) → ∃ w', s.runT P w es = (.ok x w', es1) ∧ cutW G w' = w1 ∧ Tail G w w' := by
 induction s with
 | pure a =>
   intro A w es h hw x w1 es1 hr
   simp only [Sem.runT, Prod.mk.injEq, Result.ok.injEq] at hr
   obtain ⟨⟨rfl, rfl⟩, rfl⟩ := hr
   exact ⟨w, rfl, rfl, .refl G w⟩
 | load m a k ih =>
   intro A w es h hw x w1 es1 hr
   cases hc : (cutW G w).cell? a with
   | some v =>
     simp only [Sem.runT, hc] at hr
     simp only [Sem.runT, cut_cell hc]
     exact ih v (h.2 v (cell_in hw h.1 hc)) hw x w1 es1 hr
   | none =>
     obtain ⟨s, hs⟩ := far_no hw h.1.blk (m == .atomic)
     simp only [Sem.runT, hc, hs] at hr
     cases hr
 | store m a v k ih =>
   intro A w es h hw x w1 es1 hr
   have key : ∀ w : World, (match w.cell? a with
    | some _ =>
      if w.frozen? a then (Result.halt (.unsupported (.unsafePointer "a write to bytes that a string shares")) w, es)
      else k.runT P (w.setCell a v) (es.push ⟨.cell a, true, m == .atomic⟩)
    | none => match w.farStore P a v (m == .atomic) with
      | .ok (w, touched) => k.runT P w (es ++ touched.toArray.map (⟨.cell ·, true, m == .atomic⟩))
      | .error h => (Result.halt h w, es)) = (Sem.store m a v k).runT P w es ∨ (∀ w : World, (Sem.store m a v k).runT P w es = (.halt (.stuck "store: not the value of one cell") w, es)) := by
    intro w
    cases v <;> first | exact .inl rfl | exact .inr fun _ => rfl
   rcases key (cutW G w) with k1 | k1
   · rcases key w with k2 | k2
     · rw [← k1] at hr
       rw [← k2]
       cases hc : (cutW G w).cell? a with
       | some x' =>
         rw [hc] at hr
         simp only at hr
         rw [cut_cell hc]
         simp only
         rw [cut_frozen] at hr
         by_cases hf : w.frozen? a = true
         · simp only [hf, if_true] at hr; cases hr
         · simp only [hf, if_false, Bool.false_eq_true] at hr ⊢
           rw [← cut_setCell] at hr
           obtain ⟨w', g1, g2, g3⟩ := ih (w := w.setCell a v) h.2.2 (by rw [cut_setCell]; exact hw.setCell a h.2.1) x w1 es1 hr
           exact ⟨w', g1, g2, (Tail.setCell v hc).trans g3⟩
       | none =>
         obtain ⟨s, hs⟩ := farS_no hw h.1 v (m == .atomic)
         rw [hc] at hr
         simp only [hs] at hr
         cases hr
     · rw [k2] at hr; cases hr
   · rw [k1] at hr; cases hr
 | new o k ih =>
   intro A w es h hw x w1 es1 hr
   have hd := cut_there hw.there
   have e := cut_push hd o
   simp only [Sem.runT] at hr ⊢
   rw [cut_size] at hr
   rw [← e] at hr
   have hp := hw.push h.1
   rw [← e, cut_size] at hp
   obtain ⟨w', g1, g2, g3⟩ := ih w.heap.size (w := { w with heap := w.heap.push o }) (h.2 _ ⟨fun y => Nat.lt_irrefl _ (by have := hw.lt y; rwa [cut_size] at this), hw.zero _ (by rw [cut_size]; exact Nat.le_refl _)⟩) hp x w1 es1 hr
   exact ⟨w', g1, g2, (Tail.of_heap fun c l hi e => getElem?_push_old _ _ (hd c l hi e)).trans g3⟩
 | shape r k ih =>
   intro A w es h hw x w1 es1 hr
   simp only [Sem.runT] at hr ⊢
   rcases cut_shape (G := G) (w := w) r with ⟨e1, e2⟩ | ⟨t, n, n', hn, e1, e2⟩
   · rw [e1] at hr
     rw [e2]
     exact ih _ (h.1 _) hw x w1 es1 hr
   · rw [e1] at hr
     rw [e2]
     obtain ⟨w', h1, h2⟩ := ih _ (h.1 _) hw x w1 es1 hr
     exact ⟨w', h.2 t n n' hn _ _ _ _ _ h1, h2⟩
 | freeze a n k ih =>
   intro A w es h hw x w1 es1 hr
   simp only [Sem.runT] at hr ⊢
   rw [← cut_freeze] at hr
   obtain ⟨w', g1, g2, g3⟩ := ih (w := w.freeze a n) h.2 (by rw [cut_freeze]; exact hw.freeze a n) x w1 es1 hr
   exact ⟨w', g1, g2, (Tail.freeze a n).trans g3⟩
 | frozen a k ih =>
   intro A w es h hw x w1 es1 hr
   simp only [Sem.runT] at hr ⊢
   rw [cut_frozen] at hr
   exact ih _ (h _) hw x w1 es1 hr
 | getObj r k ih =>
   intro A w es h hw x w1 es1 hr
   obtain ⟨o, ho, hin⟩ := hw.obj r h.1
   have hreal : (∀ c e f, o ≠ .cells c e f) → w.heap[r]? = some o := by
    intro hn
    rcases cut_get G w r with e | ⟨cs, t, fr, hi, e1, e2⟩
    · rw [e] at ho; exact ho
    · rw [e2] at ho; cases ho; exact absurd rfl (hn _ _ _)
   simp only [Sem.runT, ho] at hr
   cases hin with
   | cells hc => cases hr
   | map hm => simp only [Sem.runT, hreal (by simp)]; exact ih _ (h.2 _ (.map hm)) hw x w1 es1 hr
   | loop h1 h2 h3 h4 h5 => simp only [Sem.runT, hreal (by simp)]; exact ih _ (h.2 _ (.loop h1 h2 h3 h4 h5)) hw x w1 es1 hr
   | deferred hd => simp only [Sem.runT, hreal (by simp)]; exact ih _ (h.2 _ (.deferred hd)) hw x w1 es1 hr
   | number ha => simp only [Sem.runT, hreal (by simp)]; exact ih _ (h.2 _ (.number ha)) hw x w1 es1 hr
 | setObj r o k ih =>
   intro A w es h hw x w1 es1 hr
   obtain ⟨y, hy, hin⟩ := hw.obj r h.1
   have hreal : (∀ c e f, y ≠ .cells c e f) → w.heap[r]? = some y := by
    intro hn
    rcases cut_get G w r with e | ⟨cs, t, fr, hi, e1, e2⟩
    · rw [e] at hy; exact hy
    · rw [e2] at hy; cases hy; exact absurd rfl (hn _ _ _)
   have hne : (∀ c e f, y ≠ .cells c e f) → ∀ cs t fr, (cutW G w).heap[r]? ≠ some (.cells cs t fr) := by
    intro hn cs t fr e
    rw [hy] at e; cases e; exact hn _ _ _ rfl
   · have ho := h.2.2.1
     simp only [Sem.runT, hy] at hr
     have fin : (∀ c e f, y ≠ .cells c e f) → k.runT P { cutW G w with heap := (cutW G w).heap.setIfInBounds r o } (es.push ⟨.obj r, true, o.isChan⟩) = (.ok x w1, es1) → ∃ w', (Sem.setObj r o k).runT P w es = (.ok x w', es1) ∧ cutW G w' = w1 ∧ Tail G w w' := by
      intro hn hr
      have e := cut_set (G := G) (w := w) r o (hne hn) ho
      rw [← e] at hr
      have hp := hw.set (r := r) h.2.1
      rw [← e] at hp
      obtain ⟨w', h1, h2, h3⟩ := ih (w := { w with heap := w.heap.setIfInBounds r o }) h.2.2.2 hp x w1 es1 hr
      have hyr := hreal hn
      refine ⟨w', ?_, h2, Tail.trans (fun c l hi e cs t fr ho => ?_) h3⟩
      rotate_left
      · by_cases hrc : r = c
        · subst hrc; rw [hyr] at ho; cases ho; exact absurd rfl (hn _ _ _)
        · exact ⟨cs, fr, by show (w.heap.setIfInBounds r o)[c]? = _; rw [Array.getElem?_setIfInBounds_ne hrc]; exact ho, rfl, fun _ _ => rfl⟩
      cases y <;> first | exact absurd rfl (hn _ _ _) | (simp only [Sem.runT, hyr]; exact h1)
     cases hin with
     | cells hc => cases hr
     | map _ => exact fin (by simp) hr
     | loop _ _ _ _ _ => exact fin (by simp) hr
     | deferred _ => exact fin (by simp) hr
     | number _ => exact fin (by simp) hr
 | choose q k ih =>
   intro A w es h hw x w1 es1 hr
   simp only [Sem.runT] at hr ⊢
   by_cases hq : q.forced = true
   · simp only [hq, if_true] at hr ⊢
     exact ih _ (h _) hw x w1 es1 hr
   · simp only [hq, if_false, Bool.false_eq_true] at hr ⊢
     have hr' : (k (q.cut ((cutW G w).tape (cutW G w).drawn q))).runT P { cutW G w with drawn := (cutW G w).drawn + 1 } es = (.ok x w1, es1) := hr
     have e : cutW G { w with drawn := w.drawn + 1 } = { cutW G w with drawn := (cutW G w).drawn + 1 } := by unfold cutW; split <;> rfl
     rw [← e, cut_drawn, cut_tape] at hr'
     clear hr
     have hr := hr'
     exact ih _ (w := { w with drawn := w.drawn + 1 }) (h _) (by rw [e]; exact hw.drew _) x w1 es1 hr
 | sys c k ih => exact fun h _ => h.elim
 | program k ih => exact fun {A w es} h hw x w1 es1 hr => ih P h hw x w1 es1 hr
 | mark m k ih => exact fun {A w es} h hw x w1 es1 hr => ih h.2 hw x w1 es1 hr
 | halt h =>
   intro A w es _ hw x w1 es1 hr
   cases hr
end Go.Proofs.Ytclnogfmmekooaa
namespace Go.Proofs.Ytclnogfmmekooaa
set_option linter.unusedVariables false
set_option linter.unusedSimpArgs false
open Go.Conc
def Sub (es es' : Array Event) : Prop := ∀ e ∈ es', e ∈ es
theorem seen_sub (P : Program) (fn : FuncId) (es : Array Event) : Sub es (seen P fn es) := by
 intro e he
 dsimp only [seen] at he
 rw [← Array.foldl_toList] at he
 have key : ∀ (f : Bool × Array Event → Event → Bool × Array Event), (∀ x y, ∀ z ∈ (f x y).2, z ∈ x.2 ∨ z = y) → ∀ (l : List Event) (x : Bool × Array Event), ∀ z ∈ (l.foldl f x).2, z ∈ x.2 ∨ z ∈ l := by
  intro f hf l
  induction l with
  | nil => exact fun x z hz => .inl hz
  | cons y l ih =>
    intro x z hz
    rcases ih _ z hz with h | h
    · rcases hf x y z h with h | rfl
      · exact .inl h
      · exact .inr List.mem_cons_self
    · exact .inr (List.mem_cons_of_mem _ h)
 have hf : ∀ (x : Bool × Array Event) (y : Event), ∀ z ∈ ((fun (q, kept) e => match e.loc with
  | .mark (.extern f) => ((P.funcs[f]?).any (·.norace), kept)
  | _ => (q, if q && !e.sync then kept else kept.push e) : Bool × Array Event → Event → Bool × Array Event) x y).2, z ∈ x.2 ∨ z = y := by
  rintro ⟨q, kept⟩ y z hz
  dsimp only at hz
  split at hz
  · exact .inl hz
  · dsimp only at hz
    split at hz
    · exact .inl hz
    · exact Array.mem_push.1 hz
 rcases key _ hf es.toList _ e he with h | h
 · simp at h
 · exact Array.mem_toList_iff.1 h
theorem stepG_unw {P : Program} {main : Bool} {fr : Frame} (cs : List Frame) (w : World) (h : fr.mode = .returning) : stepG P main (gor fr cs) w = unwind P main fr cs none w := by
 simp [stepG, gor, h]
/-- What an operation's outcome makes of the frame. -/
def upon (P : Program) (fr : Frame) (inner : List Frame) : Next → Frame × List Frame
 | .value v => (fr.finish v, inner)
 | .skip => (fr.finish undef, inner)
 | .enter f args => (Frame.enter P f args .normal, fr :: inner)
 | .round l f tmps a b => (Frame.round l f tmps a b .normal, fr :: inner)
 | _ => (fr, inner)
/-- One of the four outcomes of a clean operation. -/
def Shaped : Next → Prop
 | .value _ | .skip | .enter .. | .round .. => True
 | _ => False
def uponG (P : Program) (fr : Frame) (cs : List Frame) : Next → Goroutine
 | .value v => gor (fr.finish v) cs
 | .skip => gor (fr.finish undef) cs
 | .enter f args => gor (Frame.enter P f args .normal) (fr :: cs)
 | .round l f tmps a b => gor (Frame.round l f tmps a b .normal) (fr :: cs)
 | _ => gor fr cs
theorem apply_ok {P : Program} {fr : Frame} {cs : List Frame} {s : Sem Next} {w w' : World} {n : Next} (hk : fr.kind = .normal) (ht : ∀ d wr re sv k, fr.todo ≠ .call d wr re sv :: k) (hr : s.run P w = .ok n w')
 (hn : Shaped n) : ∃ es', stepG.apply P true fr cs none s w = .go (uponG P fr cs n) w' es' ∧ Sub (s.runT P w #[]).2 es' := by
 have hk' : (fr.kind == CallKind.early) = false := by rw [hk]; rfl
 have hkind : (match fr.todo with | .call _ true _ _ :: _ => CallKind.wrapped | _ => CallKind.normal) = .normal := by
  split
  · rename_i e; exact absurd e (ht _ _ _ _ _)
  · rfl
 refine ⟨seen P fr.fn (s.events P w #[]), ?_, by rw [Sem.runT_eq]; exact seen_sub _ _ _⟩
 unfold stepG.apply
 simp only [Sem.runT_eq, hr, if_true, hk', hkind, Bool.false_eq_true, if_false]
 cases n <;> first | exact hn.elim | (simp [GStep.after, uponG, gor]; done) | skip
 simp only [GStep.after, uponG, gor, Array.append_empty]
 congr 2
 congr 1
theorem apply_panic {P : Program} {fr : Frame} {cs : List Frame} {s : Sem Next} {w w' : World} {v : Value} (hk : fr.kind = .normal) (hr : s.run P w = .halt (.panic v) w') :
 ∃ es', stepG.apply P true fr cs none s w = .go (gor (fr.raise [{ v, recovered := false }]) cs) w' es' ∧ Sub (s.runT P w #[]).2 es' := by
 have hk' : (fr.kind == CallKind.early) = false := by rw [hk]; rfl
 refine ⟨seen P fr.fn (s.events P w #[]), ?_, by rw [Sem.runT_eq]; exact seen_sub _ _ _⟩
 unfold stepG.apply
 simp [Sem.runT_eq, hr, hk', GStep.after, gor]
theorem apply_ended {P : Program} {fr : Frame} {cs : List Frame} {s : Sem Next} {w w' : World} {h : Halt} (ho : haltOk h) (hp : ∀ v, h ≠ .panic v) (hr : s.run P w = .halt h w') :
 ∃ o w'' es', stepG.apply P true fr cs none s w = .ended o w'' es' := by
 unfold stepG.apply
 cases h with
 | panic v => exact absurd rfl (hp v)
 | stuck why => simp [Sem.runT_eq, hr, GStep.after]
 | unsupported u => cases u <;> first | exact ho.elim | simp [Sem.runT_eq, hr, GStep.after]
 | _ => exact ho.elim
section
variable {P : Program} {G : Cfg} {A : Nat → Prop}
/-- The invariant of a stack: .. every waiting frame stands at what it waits for; the last one is no round of a range over a function. -/
structure St2 (P : Program) (G : Cfg) (A : Nat → Prop) (fr : Frame) (inner : List Frame) : Prop where
 st : StIn P G A fr inner
 wait : ∀ f ∈ inner, f.todo ≠ []
 last : ∀ f, (fr :: inner).getLast? = some f → f.roundOf = none
theorem St2.mono {A' : Nat → Prop} (h : ∀ b, A b → A' b) {fr : Frame} {inner : List Frame} (hf : St2 P G A fr inner) : St2 P G A' fr inner := ⟨hf.st.mono h, hf.wait, hf.last⟩
/-- The step leaves the top frame panicking. -/
def PanicTo (P : Program) (G : Cfg) (A : Nat → Prop) (k : List Item) (cs : List Frame) (inner : List Frame) (w' : World) (g : GStep) : Prop :=
 ∃ A' fr' ch es', g = .go (onTop k cs fr' inner) w' es' ∧ fr'.mode = .panicking ch ∧ (∀ b, A b → A' b) ∧ HIn P G A' w' ∧ St2 P G A' fr' inner
/-- The step in a world of which the cut one is known. -/
def RealStep (P : Program) (G : Cfg) (A : Nat → Prop) (s : Sem (Frame × List Frame)) (k : List Item) (cs : List Frame) (fr : Frame) (inner : List Frame) : Prop :=
 ∀ w x w1, HIn P G A (cutW G w) → s.run P (cutW G w) = .ok x w1 → ∃ w' es', (cutW G w' = w1 ∧ Tail G w w') ∧ stepG P true (onTop k cs fr inner) w = .go (onTop k cs x.1 x.2) w' es' ∧ Sub (s.runT P (cutW G w) #[]).2 es'
/-- The step is a piece of semantics within the set. -/
def Turns (P : Program) (G : Cfg) (A : Nat → Prop) (fr : Frame) (inner : List Frame) : Prop :=
 ∃ s : Sem (Frame × List Frame), Sem.Fr P G s A (fun A' x => (∀ b, A b → A' b) ∧ St2 P G A' x.1 x.2) ∧ (∀ k cs w, HIn P G A w → (∀ id, exitTo id k = none) →
   match s.run P w with
   | .ok x w' => ∃ es', stepG P true (onTop k cs fr inner) w = .go (onTop k cs x.1 x.2) w' es' ∧ Sub (s.runT P w #[]).2 es'
   | .halt h w' => PanicTo P G A k cs inner w' (stepG P true (onTop k cs fr inner) w) ∨ ∃ o w'' es', stepG P true (onTop k cs fr inner) w = .ended o w'' es') ∧
   ∀ k cs, (∀ id, exitTo id k = none) → RealStep P G A s k cs fr inner
theorem turns_mk {fr : Frame} {inner : List Frame} (s : Sem (Frame × List Frame)) (hfr : Sem.Fr P G s A (fun A' x => (∀ b, A b → A' b) ∧ St2 P G A' x.1 x.2))
 (h : ∀ k cs w, (∀ id, exitTo id k = none) → match s.run P w with
 | .ok x w' => ∃ es', stepG P true (onTop k cs fr inner) w = .go (onTop k cs x.1 x.2) w' es' ∧ Sub (s.runT P w #[]).2 es'
 | .halt _ w' => HIn P G A w → PanicTo P G A k cs inner w' (stepG P true (onTop k cs fr inner) w) ∨ ∃ o w'' es', stepG P true (onTop k cs fr inner) w = .ended o w'' es') : Turns P G A fr inner := by
 refine ⟨s, hfr, fun k cs w hw hk => ?_, fun k cs hk w x w1 hw hr => ?_⟩
 · have := h k cs w hk
   cases hr : s.run P w with
   | ok x w' => rw [hr] at this; exact this
   | halt x w' => rw [hr] at this; exact this hw
 · obtain ⟨w', e1, e2⟩ := Sem.Fr.cut (es := #[]) hfr hw x w1 _ (by rw [Sem.runT_eq, hr])
   have e3 : s.run P w = .ok x w' := by rw [Sem.runT_eq] at e1; exact congrArg Prod.fst e1
   have := h k cs w hk
   rw [e3] at this
   obtain ⟨es', g1, g2⟩ := this
   refine ⟨w', es', e2, g1, fun e he => ?_⟩
   have := g2 e he
   rw [e1] at this
   rw [Sem.runT_eq]
   exact this
theorem onTop_eq (k : List Item) (cs : List Frame) (fr : Frame) (inner : List Frame) : ∃ kk cc, (∀ f : Frame, onTop k cs f inner = gor { f with todo := f.todo ++ kk } cc) ∧ ((∀ id, exitTo id k = none) → ∀ id, exitTo id kk = none) ∧ (∀ f : Frame, addK k (f :: inner) ++ cs = { f with todo := f.todo ++ kk } :: cc) := by
 cases inner with
 | nil => exact ⟨k, cs, fun f => rfl, fun h => h, fun f => rfl⟩
 | cons g r => exact ⟨[], addK k (g :: r) ++ cs, fun f => by simp [onTop], fun _ id => rfl, fun f => by simp [addK]⟩
theorem addK_ne {k : List Item} {f : Frame} {r : List Frame} : addK k (f :: r) ≠ [] := by
 cases r <;> simp [addK]
/-- A silent move: the top frame is turned. -/
theorem turns_top {fr : Frame} {inner : List Frame} (fr' : Frame) (h : St2 P G A fr' inner)
 (hs : ∀ kk cc w, (∀ id, exitTo id kk = none) → stepG P true (gor { fr with todo := fr.todo ++ kk } cc) w = .go (gor { fr' with todo := fr'.todo ++ kk } cc) w) : Turns P G A fr inner := by
 refine turns_mk (pure (fr', inner)) (fr_pure ⟨fun _ z => z, h⟩) fun k cs w hk => ?_
 obtain ⟨kk, cc, h1, h2, _⟩ := onTop_eq k cs fr inner
 refine ⟨#[], ?_, fun e he => by simp at he⟩
 rw [h1, h1]
 exact hs kk cc w (h2 hk)
theorem turns_lost {fr : Frame} {inner : List Frame} (hs : ∀ kk cc w, (∀ id, exitTo id kk = none) → ∃ o w'' es', stepG P true (gor { fr with todo := fr.todo ++ kk } cc) w = .ended o w'' es') : Turns P G A fr inner := by
 refine turns_mk (stuck "") trivial fun k cs w hk _ => .inr ?_
 obtain ⟨kk, cc, h1, h2, _⟩ := onTop_eq k cs fr inner
 rw [h1]
 exact hs kk cc w (h2 hk)
theorem getLast_top {fr fr' : Frame} {inner : List Frame} (hr : fr'.roundOf = fr.roundOf) (h : ∀ f, (fr :: inner).getLast? = some f → f.roundOf = none) : ∀ f, (fr' :: inner).getLast? = some f → f.roundOf = none := by
 intro f hf
 cases inner with
 | nil => simp at hf; subst hf; rw [hr]; exact h fr (by simp)
 | cons g r => exact h f (by simpa using hf)
theorem getLast_push {fr fr' : Frame} {inner : List Frame} (h : ∀ f, (fr :: inner).getLast? = some f → f.roundOf = none) : ∀ f, (fr' :: fr :: inner).getLast? = some f → f.roundOf = none := fun f hf => h f (by simpa using hf)
theorem finish_round (fr : Frame) (v : Value) : (fr.finish v).roundOf = fr.roundOf := by unfold Frame.finish; split <;> rfl
theorem St2.top' {fr fr' : Frame} {inner : List Frame} (h : St2 P G A fr inner) (h' : FrIn P G A fr') (hr : fr'.roundOf = fr.roundOf) : St2 P G A fr' inner :=
 ⟨⟨h', h.st.rest⟩, h.wait, getLast_top hr h.last⟩
theorem round_in {l : Nat} {f : FuncId} {tmps : Array Value} {a b : Code} (hl : A l) (ht : ∀ v ∈ tmps, VIn G A v) (ha : codeOk P G a = true) (hb : codeOk P G b = true) : FrIn P G A (Frame.round l f tmps a b .normal) := by
 refine ⟨ht, fun x hx => ?_, fun d hd => (by cases hd), rfl, fun l' e => by cases e; exact hl⟩
 simp only [Frame.round, List.mem_cons, List.not_mem_nil, or_false] at hx
 rcases hx with rfl | rfl | rfl
 · exact ha
 · trivial
 · exact hb
theorem upon_in (hP : Clean1 P G) {fr : Frame} {inner : List Frame} (h : St2 P G A fr inner) (hm : fr.mode = .run) (ht : fr.todo ≠ []) {A' : Nat → Prop} (hA : ∀ b, A b → A' b) {n : Next} (hn : NIn P G A' n) : St2 P G A' (upon P fr inner n).1 (upon P fr inner n).2 := by
 have h' := h.mono hA
 cases n <;> first | exact hn.elim | skip
 · exact h'.top' (h'.st.top.finish hn) (finish_round _ _)
 · exact h'.top' (h'.st.top.finish (.tuple (by simp))) (finish_round _ _)
 · refine ⟨⟨enter_in hP hn.1 hn.2, fun f hf => ?_⟩, fun f hf => ?_, getLast_push h'.last⟩
   · rcases List.mem_cons.1 hf with rfl | hf
     · exact ⟨h'.st.top, hm⟩
     · exact h'.st.rest f hf
   · rcases List.mem_cons.1 hf with rfl | hf
     · exact ht
     · exact h'.wait f hf
 · refine ⟨⟨round_in hn.1 hn.2.1 hn.2.2.1 hn.2.2.2, fun f hf => ?_⟩, fun f hf => ?_, getLast_push h'.last⟩
   · rcases List.mem_cons.1 hf with rfl | hf
     · exact ⟨h'.st.top, hm⟩
     · exact h'.st.rest f hf
   · rcases List.mem_cons.1 hf with rfl | hf
     · exact ht
     · exact h'.wait f hf
end
end Go.Proofs.Ytclnogfmmekooaa
namespace Go.Proofs.Ytclnogfmmekooaa
set_option linter.unusedVariables false
set_option linter.unusedSimpArgs false
open Go.Conc
section
variable {P : Program} {G : Cfg} {A : Nat → Prop}
/-- Back to the frame that waits. -/
theorem ret_in {fr c : Frame} {r : List Frame} (h : St2 P G A fr (c :: r)) {A' : Nat → Prop} (hA : ∀ b, A b → A' b) {v : Value} (hv : VIn G A' v) : St2 P G A' (c.finish v) r := by
 have h' := h.mono hA
 have hc := h'.st.rest c (by simp)
 refine ⟨⟨hc.1.finish hv, fun f hf => h'.st.rest f (by simp [hf])⟩, fun f hf => h'.wait f (by simp [hf]), getLast_top (finish_round c v) fun f hf => h'.last f (by simpa using hf)⟩
theorem addK_finish {k : List Item} {cs : List Frame} {c : Frame} {r : List Frame} (hc : c.todo ≠ []) (v : Value) : ∃ c' r', addK k (c :: r) ++ cs = c' :: r' ∧ gor (c'.finish v) r' = onTop k cs (c.finish v) r := by
 obtain ⟨kk, cc, h1, _, h3⟩ := onTop_eq k cs c r
 refine ⟨_, _, h3 c, ?_⟩
 rw [h1, finish_add hc]
theorem doReturn_gor {fr c : Frame} {r : List Frame} {v : Value} {w : World} (hk : fr.kind = .normal) : doReturn P true fr (c :: r) none v w = .go (gor (c.finish v) r) w := by
 simp [doReturn, hk, gor]
/-- A round's end. -/
theorem turns_endRound {fr c : Frame} {r : List Frame} {l : Nat} (h : St2 P G A fr (c :: r)) (hl : fr.roundOf = some l) (jump : Option Code) (hj : ∀ x, jump = some x → codeOk P G x = true)
 (hs : ∀ k cs w, stepG P true (onTop k cs fr (c :: r)) w = GStep.after (seen P fr.fn ((Instr.endRound l jump).runT P w #[]).2) (match ((Instr.endRound l jump).runT P w #[]).1 with
     | .ok v w => doReturn P true fr (addK k (c :: r) ++ cs) none v w
     | .halt _ w => .ended (.stuck "range over a function: no such loop" (fr.pos P)) w)) : Turns P G A fr (c :: r) := by
 have hA := h.st.top.round l hl
 refine turns_mk (do let v ← Instr.endRound l jump; pure (c.finish v, r)) ?_ fun k cs w hk => ?_
 · refine fr_bind ?_
   unfold Instr.endRound
   refine fr_bind (fr_getLoop hA fun x hx => ?_)
   obtain ⟨h1, h2, h3, _, h5⟩ := loop_in hx
   refine fr_bind (fr_setObj hA (.loop h1 h2 h3 hj h5) (fr_pure (fr_pure ⟨fun _ z => z, ret_in h (fun _ z => z) (.bool _)⟩)))
 · have hw := h.wait c (by simp)
   rw [Sem.run_bind]
   rw [hs, Sem.runT_eq]
   cases hr : (Instr.endRound l jump).run P w with
   | ok v w' =>
     obtain ⟨c', r', e1, e2⟩ := addK_finish (k := k) (cs := cs) (r := r) hw v
     refine ⟨seen P fr.fn ((Instr.endRound l jump).events P w #[]), ?_, ?_⟩
     · simp only [e1]
       rw [doReturn_gor h.st.top.kind, e2]
       simp [GStep.after]
     · intro e he
       have := seen_sub _ _ _ e he
       rw [Sem.runT_eq]
       show e ∈ Sem.events P (Instr.endRound l jump >>= fun v => pure (c.finish v, r)) w #[]
       rw [Sem.events_bind, hr]
       exact this
   | halt x w' => exact fun _ => .inr ⟨_, _, _, rfl⟩
theorem leave_ret {fr : Frame} {inner : List Frame} (h : St2 P G A fr inner) (hr : fr.roundOf = none) (hs : ∀ kk cc w, (∀ id, exitTo id kk = none) → stepG P true (gor { fr with todo := fr.todo ++ kk } cc) w = .go (gor { fr with todo := fr.todo ++ kk, mode := .returning } cc) w) : Turns P G A fr inner :=
 turns_top { fr with mode := .returning } (h.top' ⟨h.st.top.tmps, h.st.top.todo, h.st.top.defers, h.st.top.kind, h.st.top.round⟩ rfl) hs
theorem turns_todo {fr : Frame} {inner : List Frame} (h : St2 P G A fr inner) (todo : List Item) (hi : ∀ x ∈ todo, itemIn P G A x)
 (hs : ∀ kk cc w, (∀ id, exitTo id kk = none) → stepG P true (gor { fr with todo := fr.todo ++ kk } cc) w = .go (gor { fr with todo := todo ++ kk } cc) w) : Turns P G A fr inner :=
 turns_top { fr with todo := todo } (h.top' (h.st.top.todo' hi) rfl) hs
theorem bind_run {α β : Type} {s : Sem α} {f : α → Sem β} {w w1 : World} {a : α} (h : s.run P w = .ok a w1) : (s >>= f).run P w = (f a).run P w1 := by rw [Sem.run_bind, h]; rfl
theorem bind_halt {α β : Type} {s : Sem α} {f : α → Sem β} {w w1 : World} {x : Halt} (h : s.run P w = .halt x w1) : (s >>= f).run P w = .halt x w1 := by rw [Sem.run_bind, h]; rfl
theorem bind_ev {α β : Type} {s : Sem α} {f : α → Sem β} {w w1 : World} {a : α} (h : s.run P w = .ok a w1) : ((s >>= f).runT P w #[]).2 = (s.runT P w #[]).2 ++ ((f a).runT P w1 #[]).2 := by
 simp only [Sem.runT_eq]
 rw [Sem.events_bind, h]
 show Sem.events P (f a) w1 _ = _
 rw [Sem.events_acc]
theorem pure_ev {α : Type} (a : α) (w : World) : ((pure a : Sem α).runT P w #[]).2 = #[] := rfl
theorem raise_in {fr : Frame} (h : FrIn P G A fr) (ch : List PanicEntry) : FrIn P G A (fr.raise ch) := by
 unfold Frame.raise
 split <;> exact ⟨h.tmps, h.todo, h.defers, h.kind, h.round⟩
/-- What 'apply' does to a clean frame, where the piece comes well to its end. -/
theorem apply_go {fr : Frame} {inner : List Frame} (h : St2 P G A fr inner) (ht : fr.todo ≠ []) {s : Sem Next} {w w' : World} {n : Next} (hsh : Shaped n) (hr : s.run P w = .ok n w')
 (k : List Item) (cs : List Frame) {kk : List Item} {cc : List Frame} (h1 : ∀ f : Frame, onTop k cs f inner = gor { f with todo := f.todo ++ kk } cc) (h3 : ∀ f : Frame, addK k (f :: inner) ++ cs = { f with todo := f.todo ++ kk } :: cc) :
 ∃ es', stepG.apply P true { fr with todo := fr.todo ++ kk } cc none s w = .go (onTop k cs (upon P fr inner n).1 (upon P fr inner n).2) w' es' ∧ Sub (s.runT P w #[]).2 es' := by
 have hk' : ({ fr with todo := fr.todo ++ kk } : Frame).kind = .normal := h.st.top.kind
 have hcall : ∀ d wr re sv q, ({ fr with todo := fr.todo ++ kk } : Frame).todo ≠ .call d wr re sv :: q := by
  intro d wr re sv q e
  cases hft : fr.todo with
  | nil => exact ht hft
  | cons x l =>
    simp only [hft, List.cons_append, List.cons.injEq] at e
    have := h.st.top.todo x (by simp [hft])
    rw [e.1] at this
    exact this
 obtain ⟨es', e1, e2⟩ := apply_ok (cs := cc) hk' hcall hr hsh
 refine ⟨es', ?_, e2⟩
 rw [e1]
 cases n <;> first | exact hsh.elim | skip
 · simp only [uponG, upon]; rw [h1, finish_add ht]
 · simp only [uponG, upon]; rw [h1, finish_add ht]
 · simp only [uponG, upon, onTop]; rw [h3]
 · simp only [uponG, upon, onTop]; rw [h3]
theorem shaped_of {A' : Nat → Prop} {n : Next} (h : NIn P G A' n) : Shaped n := by cases n <;> first | trivial | exact h
/-- What 'apply' does to a clean frame. -/
theorem apply_core (hP : Clean1 P G) {fr : Frame} {inner : List Frame} (h : St2 P G A fr inner) (ht : fr.todo ≠ []) {s : Sem Next} (hs : Sem.Fr P G s A (fun A' n => (∀ b, A b → A' b) ∧ NIn P G A' n))
 {w : World} (hw : HIn P G A w) (k : List Item) (cs : List Frame) {kk : List Item} {cc : List Frame} (h1 : ∀ f : Frame, onTop k cs f inner = gor { f with todo := f.todo ++ kk } cc) (h3 : ∀ f : Frame, addK k (f :: inner) ++ cs = { f with todo := f.todo ++ kk } :: cc) :
 match s.run P w with
 | .ok n w' => ∃ es', stepG.apply P true { fr with todo := fr.todo ++ kk } cc none s w = .go (onTop k cs (upon P fr inner n).1 (upon P fr inner n).2) w' es' ∧ Sub (s.runT P w #[]).2 es'
 | .halt x w' => PanicTo P G A k cs inner w' (stepG.apply P true { fr with todo := fr.todo ++ kk } cc none s w) ∨ ∃ o w'' es', stepG.apply P true { fr with todo := fr.todo ++ kk } cc none s w = .ended o w'' es' := by
 have hk' : ({ fr with todo := fr.todo ++ kk } : Frame).kind = .normal := h.st.top.kind
 have hcall : ∀ d wr re sv q, ({ fr with todo := fr.todo ++ kk } : Frame).todo ≠ .call d wr re sv :: q := by
  intro d wr re sv q e
  cases hft : fr.todo with
  | nil => exact ht hft
  | cons x l =>
    simp only [hft, List.cons_append, List.cons.injEq] at e
    have := h.st.top.todo x (by simp [hft])
    rw [e.1] at this
    exact this
 have hrun := Sem.Fr.run (es := #[]) hs hw
 rw [Sem.runT_eq] at hrun
 cases hr : s.run P w with
 | ok n w' =>
   rw [hr] at hrun
   obtain ⟨A', _, _, ⟨_, hn⟩, _⟩ := hrun
   have hsh : Shaped n := by cases n <;> first | trivial | exact hn
   obtain ⟨es', e1, e2⟩ := apply_ok (cs := cc) hk' hcall hr hsh
   refine ⟨es', ?_, e2⟩
   rw [e1]
   cases n <;> first | exact hsh.elim | skip
   · simp only [uponG, upon]; rw [h1, finish_add ht]
   · simp only [uponG, upon]; rw [h1, finish_add ht]
   · simp only [uponG, upon, onTop]; rw [h3]
   · simp only [uponG, upon, onTop]; rw [h3]
 | halt x w' =>
   rw [hr] at hrun
   obtain ⟨ho, A', hkept, hw', _⟩ := hrun
   by_cases hp : ∃ v, x = .panic v
   · obtain ⟨v, rfl⟩ := hp
     obtain ⟨es', e1, e2⟩ := apply_panic (cs := cc) hk' hr
     have hmode : ∃ ch, (fr.raise [{ v, recovered := false }]).mode = .panicking ch := by cases hmo : fr.mode <;> exact ⟨_, by simp [Frame.raise, hmo]; rfl⟩
     obtain ⟨ch, hch⟩ := hmode
     refine .inl ⟨A', fr.raise [{ v, recovered := false }], ch, es', ?_, hch, hkept.grow, hw', (h.mono hkept.grow).top' (raise_in (h.st.top.mono hkept.grow) _) (by cases hmo : fr.mode <;> simp [Frame.raise, hmo])⟩
     rw [e1, h1]
     cases hmo : fr.mode <;> simp [Frame.raise, hmo]
   · obtain ⟨o, w'', es', e1⟩ := apply_ended (fr := { fr with todo := fr.todo ++ kk }) (cs := cc) ho (fun v e => hp ⟨v, e⟩) hr
     exact .inr ⟨o, w'', es', e1⟩
/-- A step by 'apply'. -/
theorem turns_apply (hP : Clean1 P G) {fr : Frame} {inner : List Frame} (h : St2 P G A fr inner) (hm : fr.mode = .run) (ht : fr.todo ≠ []) {s : Sem Next} (hs : Sem.Fr P G s A (fun A' n => (∀ b, A b → A' b) ∧ NIn P G A' n))
 (he : ∀ kk cc w, stepG P true (gor { fr with todo := fr.todo ++ kk } cc) w = stepG.apply P true { fr with todo := fr.todo ++ kk } cc none s w) : Turns P G A fr inner := by
 refine ⟨s >>= fun n => pure (upon P fr inner n), fr_bind (hs.mono fun A' n _ hn => fr_pure ⟨hn.1, upon_in hP h hm ht hn.1 hn.2⟩), fun k cs w hw hk => ?_, fun k cs hk w x w1 hw hr0 => ?_⟩
 rotate_left
 · obtain ⟨kk, cc, h1, h2, h3⟩ := onTop_eq k cs fr inner
   cases hr : s.run P (cutW G w) with
   | ok n w1' =>
     rw [bind_run hr] at hr0
     cases hr0
     obtain ⟨w', e1, e2⟩ := Sem.Fr.cut (es := #[]) hs hw n _ _ (by rw [Sem.runT_eq, hr])
     have e3 : s.run P w = .ok n w' := by rw [Sem.runT_eq] at e1; exact congrArg Prod.fst e1
     have hrun := Sem.Fr.run (es := #[]) hs hw
     rw [Sem.runT_eq, hr] at hrun
     obtain ⟨A', _, _, ⟨_, hn⟩, _⟩ := hrun
     obtain ⟨es', g1, g2⟩ := apply_go h ht (shaped_of hn) e3 k cs h1 h3
     refine ⟨w', es', e2, by rw [h1, he, g1], fun e hx => ?_⟩
     rw [bind_ev hr, pure_ev, Array.append_empty]
     have := g2 e hx
     rw [e1] at this
     rw [Sem.runT_eq]
     exact this
   | halt y w1' => rw [bind_halt hr] at hr0; cases hr0
 obtain ⟨kk, cc, h1, h2, h3⟩ := onTop_eq k cs fr inner
 have hc := apply_core hP h ht hs hw k cs h1 h3
 cases hr : s.run P w with
 | ok n w' =>
   rw [hr] at hc
   obtain ⟨es', e1, e2⟩ := hc
   rw [bind_run hr]
   refine ⟨es', by rw [h1, he, e1], fun e hx => ?_⟩
   rw [bind_ev hr, pure_ev, Array.append_empty]
   exact e2 e hx
 | halt x w' =>
   rw [hr] at hc
   rw [bind_halt hr]
   rw [h1 fr, he]
   exact hc
/-- A step by an entry of its own, and then by 'apply' (a range over a function). -/
theorem turns_two (hP : Clean1 P G) {fr : Frame} {inner : List Frame} {α : Type} {t : Sem α} (fr2 : α → Frame) (s2 : α → Sem Next) (hne : ∀ x, (fr2 x).todo ≠ []) (hm : ∀ x, (fr2 x).mode = .run)
 (hs : Sem.Fr P G t A (fun A' x => (∀ b, A b → A' b) ∧ St2 P G A' (fr2 x) inner ∧ Sem.Fr P G (s2 x) A' (fun A'' n => (∀ b, A' b → A'' b) ∧ NIn P G A'' n)))
 (he : ∀ kk cc w, stepG P true (gor { fr with todo := fr.todo ++ kk } cc) w = GStep.after (seen P fr.fn (t.runT P w #[]).2) (match (t.runT P w #[]).1 with
  | .ok x w => stepG.apply P true { fr2 x with todo := (fr2 x).todo ++ kk } cc none (s2 x) w
  | .halt _ w => .ended (.stuck "range over a function: no such loop" (({ fr with todo := fr.todo ++ kk } : Frame).pos P)) w)) : Turns P G A fr inner := by
 refine ⟨t >>= fun x => s2 x >>= fun n => pure (upon P (fr2 x) inner n), fr_bind (hs.mono fun A' x _ hx => fr_bind (hx.2.2.mono fun A'' n _ hn => fr_pure ⟨fun b hb => hn.1 b (hx.1 b hb), upon_in hP hx.2.1 (hm x) (hne x) hn.1 hn.2⟩)), fun k cs w hw hk => ?_, fun k cs hk w x w1 hw hr0 => ?_⟩
 rotate_left
 · obtain ⟨kk, cc, h1, h2, h3⟩ := onTop_eq k cs fr inner
   cases hr : t.run P (cutW G w) with
   | ok y wy =>
     rw [bind_run hr] at hr0
     obtain ⟨wy', e1, e2⟩ := Sem.Fr.cut (es := #[]) hs hw y wy _ (by rw [Sem.runT_eq, hr])
     have e3 : t.run P w = .ok y wy' := by rw [Sem.runT_eq] at e1; exact congrArg Prod.fst e1
     have hrun := Sem.Fr.run (es := #[]) hs hw
     rw [Sem.runT_eq, hr] at hrun
     obtain ⟨A1, _, hw1, ⟨_, hst, hs2⟩, _⟩ := hrun
     rw [← e2.1] at hw1 hr0
     cases hr2 : (s2 y).run P (cutW G wy') with
     | ok n wn =>
       rw [bind_run hr2] at hr0
       cases hr0
       obtain ⟨w', f1, f2⟩ := Sem.Fr.cut (es := #[]) hs2 hw1 n _ _ (by rw [Sem.runT_eq, hr2])
       have f3 : (s2 y).run P wy' = .ok n w' := by rw [Sem.runT_eq] at f1; exact congrArg Prod.fst f1
       have hrun := Sem.Fr.run (es := #[]) hs2 hw1
       rw [Sem.runT_eq, hr2] at hrun
       obtain ⟨A', _, _, ⟨_, hn⟩, _⟩ := hrun
       obtain ⟨es', g1, g2⟩ := apply_go hst (hne y) (shaped_of hn) f3 k cs h1 h3
       refine ⟨w', seen P fr.fn (t.events P w #[]) ++ es', ⟨f2.1, e2.2.trans f2.2⟩, ?_, fun e hx => ?_⟩
       · rw [h1 fr, he, Sem.runT_eq, e3]
         simp only [g1]
         rfl
       · rw [bind_ev hr, ← e2.1, bind_ev hr2, pure_ev, Array.append_empty]
         rcases Array.mem_append.1 hx with hx | hx
         · have h9 := seen_sub _ _ _ e hx
           have : t.events P w #[] = (t.runT P (cutW G w) #[]).2 := by
            have := congrArg Prod.snd e1
            rw [Sem.runT_eq] at this
            rw [Sem.runT_eq]
            exact this
           rw [this] at h9
           exact Array.mem_append.2 (.inl h9)
         · have h9 := g2 e hx
           rw [f1] at h9
           refine Array.mem_append.2 (.inr ?_)
           rw [Sem.runT_eq]
           exact h9
     | halt z wn => rw [bind_halt hr2] at hr0; cases hr0
   | halt y wy => rw [bind_halt hr] at hr0; cases hr0
 obtain ⟨kk, cc, h1, h2, h3⟩ := onTop_eq k cs fr inner
 have hrun := Sem.Fr.run (es := #[]) hs hw
 rw [h1 fr, he, Sem.runT_eq]
 rw [Sem.runT_eq] at hrun
 cases hr : t.run P w with
 | ok x w1 =>
   rw [hr] at hrun
   obtain ⟨A1, hk1, hw1, ⟨hA1, hst, hs2⟩, _⟩ := hrun
   have hc := apply_core hP hst (hne x) hs2 hw1 k cs h1 h3
   rw [bind_run hr]
   cases hr2 : (s2 x).run P w1 with
   | ok n w' =>
     rw [hr2] at hc
     obtain ⟨es', e1, e2⟩ := hc
     rw [bind_run hr2]
     refine ⟨seen P fr.fn (t.events P w #[]) ++ es', by simp only [e1]; rfl, fun e hx => ?_⟩
     rw [bind_ev hr, bind_ev hr2, pure_ev, Array.append_empty]
     rcases Array.mem_append.1 hx with hx | hx
     · exact Array.mem_append.2 (.inl (by rw [Sem.runT_eq]; exact seen_sub _ _ _ e hx))
     · exact Array.mem_append.2 (.inr (e2 e hx))
   | halt y w' =>
     rw [hr2] at hc
     rw [bind_halt hr2]
     rcases hc with ⟨A', fr', ch, es', e1, e2, e3, e4, e5⟩ | ⟨o, w'', es', e1⟩
     · exact .inl ⟨A', fr', ch, _, by simp only [e1]; rfl, e2, fun b hb => e3 b (hA1 b hb), e4, e5⟩
     · exact .inr ⟨o, w'', _, by simp only [e1]; rfl⟩
 | halt y w' =>
   rw [bind_halt hr]
   exact .inr ⟨_, _, _, rfl⟩
end
end Go.Proofs.Ytclnogfmmekooaa
namespace Go.Proofs.Ytclnogfmmekooaa
set_option linter.unusedVariables false
set_option linter.unusedSimpArgs false
open Go.Conc
section
variable {P : Program} {G : Cfg} {A : Nat → Prop}
/-- The end of a frame's own items: of a function's, or of a round's of a range over a function. -/
def leaveG (P : Program) (fr : Frame) (cc : List Frame) (jump : Option Code) (isRet : Bool) (w : World) : GStep :=
 match fr.roundOf with
 | none => if isRet then .go (gor { fr with mode := .returning } cc) w else .ended (.stuck "exit, goto: no such block or label" (fr.pos P)) w
 | some l => GStep.after (seen P fr.fn ((Instr.endRound l jump).runT P w #[]).2) (match ((Instr.endRound l jump).runT P w #[]).1 with
   | .ok v w => doReturn P true fr cc none v w
   | .halt _ w => .ended (.stuck "range over a function: no such loop" (fr.pos P)) w)
theorem leaveG_lost {fr : Frame} (hr : fr.roundOf = none) (cc : List Frame) (jump : Option Code) (w : World) : leaveG P fr cc jump false w = .ended (.stuck "exit, goto: no such block or label" (fr.pos P)) w := by simp [leaveG, hr]
theorem turns_leave {fr : Frame} {inner : List Frame} (h : St2 P G A fr inner) (hne : fr.todo ≠ [] ∨ inner ≠ []) (jump : Option Code) (isRet : Bool) (hj : ∀ x, jump = some x → codeOk P G x = true)
 (hs : ∀ kk cc w, (∀ id, exitTo id kk = none) → (fr.todo = [] → kk = []) → stepG P true (gor { fr with todo := fr.todo ++ kk } cc) w = leaveG P { fr with todo := fr.todo ++ kk } cc jump isRet w) : Turns P G A fr inner := by
 have hs0 : ∀ cc w, stepG P true (gor fr cc) w = leaveG P fr cc jump isRet w := fun cc w => by
  have := hs [] cc w (fun _ => rfl) (fun _ => rfl)
  simpa only [List.append_nil] using this
 have hret : FrIn P G A { fr with mode := .returning } := ⟨h.st.top.tmps, h.st.top.todo, h.st.top.defers, h.st.top.kind, h.st.top.round⟩
 cases hr : fr.roundOf with
 | none =>
   cases isRet with
   | true =>
     cases inner with
     | nil =>
       refine leave_ret h hr fun kk cc w hk => ?_
       rw [hs kk cc w hk (fun e => absurd e (hne.resolve_right (by simp)))]
       simp [leaveG, hr]
     | cons c r =>
       refine turns_mk (pure ({ fr with mode := .returning }, c :: r)) (fr_pure ⟨fun _ z => z, h.top' hret rfl⟩) fun k cs w hk => ⟨#[], ?_, fun e he => by simp at he⟩
       show stepG P true (gor fr (addK k (c :: r) ++ cs)) w = _
       rw [hs0]
       simp [leaveG, hr, onTop]
   | false =>
     cases inner with
     | nil =>
       refine turns_lost fun kk cc w hk => ?_
       rw [hs kk cc w hk (fun e => absurd e (hne.resolve_right (by simp)))]
       exact ⟨_, _, _, leaveG_lost (fr := { fr with todo := fr.todo ++ kk }) hr _ _ _⟩
     | cons c r =>
       refine turns_mk (stuck "") trivial fun k cs w hk _ => .inr ?_
       show ∃ o w'' es', stepG P true (gor fr (addK k (c :: r) ++ cs)) w = .ended o w'' es'
       rw [hs0]
       exact ⟨_, _, _, leaveG_lost hr _ _ _⟩
 | some l =>
   cases inner with
   | nil => exact absurd (h.last fr (by simp)) (by rw [hr]; simp)
   | cons c r =>
     refine turns_endRound h hr jump hj fun k cs w => ?_
     show stepG P true (gor fr (addK k (c :: r) ++ cs)) w = _
     rw [hs0]
     unfold leaveG
     rw [hr]
     all_goals rfl
theorem fr_enterLoop {fn : FuncId} {tmps : Array Value} {ps : Array Tmp} {a b : Code} {ro : Option Nat} (ht : ∀ v ∈ tmps, VIn G A v) (ha : codeOk P G a = true) (hb : codeOk P G b = true) (hro : ∀ l, ro = some l → A l)
 {Q : (Nat → Prop) → Nat × List Deferred → Prop} (h : ∀ (A' : Nat → Prop) l ds, (∀ b, A b → A' b) → A' l → (∀ d ∈ ds, ∃ r, d = { target := .collected r, args := #[] } ∧ A' r) → Q A' (l, ds)) : Sem.Fr P G (Instr.enterLoop fn tmps ps a b ro) A Q := by
 unfold Instr.enterLoop
 cases ro with
 | some l =>
   refine fr_bind (fr_getLoop (hro l rfl) fun x hx => ?_)
   obtain ⟨h1, h2, h3, h4, h5⟩ := loop_in hx
   refine fr_bind (fr_pure ?_)
   refine fr_bind (fr_new (fun _ => .loop ht ha hb (fun c e => by cases e) h5) fun r hr => fr_pure (h _ _ _ (fun _ z => .inl z) (.inr rfl) (fun d hd => by cases hd)))
 | none =>
   refine fr_bind (fr_new (fun _ => .deferred (fun ds e => by cases e; rfl)) fun r hr => ?_)
   refine fr_bind (fr_pure ?_)
   refine fr_bind (fr_new (fun _ => .loop (fun v hv => (ht v hv).mono fun _ z => .inl z) ha hb (fun c e => by cases e) (.inr rfl)) fun q hq => fr_pure (h _ _ _ (fun _ z => .inl (.inl z)) (.inr rfl) ?_))
   intro d hd
   simp only [List.mem_singleton] at hd
   exact ⟨r, hd, .inl (.inr rfl)⟩
/-- ████ EVERY STEP OF A CLEAN FRAME THAT RUNS. ████ -/
theorem turns_run (hP : Clean1 P G) {fr : Frame} {inner : List Frame} (h : St2 P G A fr inner) (hm : fr.mode = .run) (hne : fr.todo ≠ [] ∨ inner ≠ []) : Turns P G A fr inner := by
 obtain ⟨fn, tmps, todo, defers, mode, kind, ro⟩ := fr
 simp only at hm
 subst hm
 have hi := h.st.top.todo
 cases todo with
 | nil =>
   refine turns_leave h hne none true (fun x e => by cases e) fun kk cc w hk hkk => ?_
   rw [hkk rfl]
   cases ro <;> rfl
 | cons x l =>
   have hx : itemIn P G A x := hi x (by simp)
   have hl : ∀ y ∈ l, itemIn P G A y := fun y hy => hi y (by simp [hy])
   have hcons : ∀ y, itemIn P G A y → ∀ z ∈ y :: l, itemIn P G A z := fun y hy z hz => (List.mem_cons.1 hz).elim (fun e => e ▸ hy) (hl z)
   cases x with
   | code c =>
     cases c with
     | skip => exact turns_todo h l hl fun kk cc w _ => rfl
     | region id ops draw =>
       cases draw with
       | false => exact turns_todo h (.inRegion ops (List.range ops.size) :: l) (hcons _ hx) fun kk cc w _ => rfl
       | true =>
         refine turns_mk (choose (.order fn id) >>= fun t => pure ({ fn := fn, tmps := tmps, todo := .inRegion ops (Region.schedule (P.follows .mixedOrders) ops t) :: l, defers := defers, mode := .run, kind := kind, roundOf := ro }, inner)) (fr_bind (fr_choose fun t => fr_pure ⟨fun _ z => z, h.top' (h.st.top.todo' (hcons _ hx)) rfl⟩)) fun k cs w hk => ?_
         obtain ⟨kk, cc, h1, h2, _⟩ := onTop_eq k cs { fn := fn, tmps := tmps, todo := .code (.region id ops true) :: l, defers := defers, mode := .run, kind := kind, roundOf := ro } inner
         refine ⟨#[], ?_, fun e he => by simp at he⟩
         rw [h1, h1]
         simp [stepG, stepG.exec, gor, choose, Sem.run, Question.forced, Sem.runT]
     | seq a b =>
       have hab : codeOk P G a = true ∧ codeOk P G b = true := by simpa [itemIn, codeOk] using hx
       exact turns_todo h (.code a :: .code b :: l) (fun z hz => (List.mem_cons.1 hz).elim (fun e => e ▸ hab.1) (hcons (.code b) hab.2 z)) fun kk cc w _ => rfl
     | cond c a b =>
       have hab : operOk G c = true ∧ codeOk P G a = true ∧ codeOk P G b = true := by simpa [itemIn, codeOk] using hx
       by_cases hb : ∃ t, ({ fn := fn, tmps := tmps, todo := .code (.cond c a b) :: l, defers := defers, mode := .run, kind := kind, roundOf := ro } : Frame).eval c = .bool t
       · obtain ⟨t, hb⟩ := hb
         refine turns_todo h (.code (if t then a else b) :: l) (hcons (.code (if t then a else b)) (by cases t; exact hab.2.2; exact hab.2.1)) fun kk cc w _ => ?_
         have ev : ({ fn := fn, tmps := tmps, todo := .code (.cond c a b) :: (l ++ kk), defers := defers, mode := .run, kind := kind, roundOf := ro } : Frame).eval c = .bool t := by cases c <;> exact hb
         simp [stepG, stepG.exec, gor, ev]
       · refine turns_lost fun kk cc w _ => ?_
         have ev : ({ fn := fn, tmps := tmps, todo := .code (.cond c a b) :: (l ++ kk), defers := defers, mode := .run, kind := kind, roundOf := ro } : Frame).eval c = ({ fn := fn, tmps := tmps, todo := .code (.cond c a b) :: l, defers := defers, mode := .run, kind := kind, roundOf := ro } : Frame).eval c := by cases c <;> rfl
         simp only [stepG, stepG.exec, gor, List.cons_append, ev]
         split
         · rename_i t e; exact absurd ⟨t, e⟩ hb
         · exact ⟨_, _, _, rfl⟩
     | block id b => exact turns_todo h (.code b :: .inBlock id :: l) (fun z hz => (List.mem_cons.1 hz).elim (fun e => e ▸ hx) (hcons (.inBlock id) trivial z)) fun kk cc w _ => rfl
     | loop b => exact turns_todo h (.code b :: .inLoop b :: l) (fun z hz => (List.mem_cons.1 hz).elim (fun e => e ▸ hx) (hcons (.inLoop b) hx z)) fun kk cc w _ => rfl
     | rangeFunc f ps a b =>
       have hab : operOk G f = true ∧ codeOk P G a = true ∧ codeOk P G b = true := by simpa [itemIn, codeOk] using hx
       refine turns_two hP (t := Instr.enterLoop fn tmps ps a b ro) (fun x => { fn := fn, tmps := tmps, todo := .inRangeFunc x.1 :: l, defers := x.2 ++ defers, mode := .run, kind := kind, roundOf := ro })
        (fun x => do let d ← resolve ({ fn := fn, tmps := tmps, todo := .inRangeFunc x.1 :: l, defers := x.2 ++ defers, mode := .run, kind := kind, roundOf := ro } : Frame).eval { callee := .value f, args := #[.const (.func (.yield x.1) #[] #[])], argTypes := #[] } 0; invoke d.target d.args) (fun _ => by simp) (fun _ => rfl) ?_ ?_
       · refine fr_enterLoop h.st.top.tmps hab.2.1 hab.2.2 h.st.top.round fun A' q ds hA hq hds => ⟨hA, ?_, ?_⟩
         · refine (h.mono hA).top' ⟨(h.st.top.mono hA).tmps, fun z hz => (List.mem_cons.1 hz).elim (fun e => e ▸ hq) fun hz => (hl z hz).mono hA, fun d hd => ?_, h.st.top.kind, (h.st.top.mono hA).round⟩ rfl
           exact (List.mem_append.1 hd).elim (hds d) ((h.st.top.mono hA).defers d)
         · have hfr : FrIn P G A' { fn := fn, tmps := tmps, todo := .inRangeFunc q :: l, defers := ds ++ defers, mode := .run, kind := kind, roundOf := ro } := ⟨(h.st.top.mono hA).tmps, fun z hz => (List.mem_cons.1 hz).elim (fun e => e ▸ hq) fun hz => (hl z hz).mono hA, fun d hd => (List.mem_append.1 hd).elim (hds d) ((h.st.top.mono hA).defers d), h.st.top.kind, (h.st.top.mono hA).round⟩
           unfold resolve
           refine fr_bind (fr_ofValue (eval_in hfr f hab.1) (fun v hv => ?_) fun d hd hda => fr_invoke hP hd hda fun A'' n h1 h2 => ⟨h1, h2⟩)
           simp only [List.map_toArray, List.map_cons, List.map_nil, List.mem_toArray, List.mem_cons, List.not_mem_nil, or_false] at hv
           subst hv
           exact .yield hq (by simp) (by simp)
       · intro kk cc w
         show GStep.after _ _ = _
         congr 1
         cases (Sem.runT P (Instr.enterLoop fn tmps ps a b ro) w #[]).1 with
         | ok x w' => obtain ⟨x1, x2⟩ := x; rfl
         | halt y w' => rfl
     | exit id =>
       cases he : exitTo id l with
       | some k' => exact turns_todo h k' (exitTo_in hl he) fun kk cc w _ => by simp [stepG, stepG.exec, gor, exitTo_app kk he]
       | none =>
         refine turns_leave h hne (some (.exit id)) false (fun x e => by cases e; rfl) fun kk cc w hk _ => ?_
         have e := exitTo_none (hk id) he
         cases ro
         · simp [stepG, stepG.exec, gor, e, leaveG]
         · simp only [stepG, stepG.exec, gor, List.cons_append, e, Option.elim, leaveG]
           rfl
     | ret =>
       refine turns_leave h hne (some .ret) true (fun x e => by cases e; rfl) fun kk cc w _ _ => ?_
       cases ro <;> rfl
     | refuse why => exact turns_lost fun kk cc w _ => ⟨_, _, _, rfl⟩
     | _ => simp [itemIn, codeOk] at hx
   | inBlock id => exact turns_todo h l hl fun kk cc w _ => rfl
   | inLoop b => exact turns_todo h (.code b :: .inLoop b :: l) (fun z hz => (List.mem_cons.1 hz).elim (fun e => e ▸ hx) (hcons (.inLoop b) hx z)) fun kk cc w _ => rfl
   | inRegion ops td =>
     cases td with
     | nil => exact turns_todo h l hl fun kk cc w _ => rfl
     | cons i rest =>
       by_cases hw : ((ops[i]?).map (Region.wanted · (yielded ops tmps))).getD false = true
       · cases ho : ops[i]? with
         | none => simp [ho] at hw
         | some o =>
           have hok : opOk P G o.op = true := Array.all_eq_true'.1 hx o (Array.mem_of_getElem? ho)
           refine turns_apply hP h rfl (by simp) (fr_execOp hP (eval_in h.st.top) (fun x hx => by unfold isNil at hx; split at hx <;> first | rfl | cases hx) hok) fun kk cc w => ?_
           have ev : ({ fn := fn, tmps := tmps, todo := .inRegion ops (i :: rest) :: (l ++ kk), defers := defers, mode := .run, kind := kind, roundOf := ro } : Frame).eval = ({ fn := fn, tmps := tmps, todo := .inRegion ops (i :: rest) :: l, defers := defers, mode := .run, kind := kind, roundOf := ro } : Frame).eval := by funext c; cases c <;> rfl
           have hnd : ∀ c, o.op ≠ .defer c := by intro c e; rw [e] at hok; simp [opOk] at hok
           rw [ho] at hw
           simp only [stepG, stepG.exec, gor, List.cons_append, ho, hw, if_true, stepG.oper, Frame.oper?]
           rw [ev]
           cases ro with
           | none => rfl
           | some lo => cases hop : o.op <;> first | rfl | exact absurd hop (hnd _)
       · refine turns_top _ (h.top' (h.st.top.finish (v := undef) (.tuple (by simp))) (finish_round _ _)) fun kk cc w _ => ?_
         rw [← finish_add (by simp)]
         simp only [stepG, stepG.exec, gor, List.cons_append, hw, if_false, Bool.false_eq_true]
   | inRangeFunc q => exact turns_lost fun kk cc w _ => ⟨_, _, _, rfl⟩
   | endRangeFunc q =>
     refine turns_mk (Instr.endLoop q >>= fun j => pure ({ fn := fn, tmps := tmps, todo := (j.map Item.code).toList ++ l, defers := defers, mode := .run, kind := kind, roundOf := ro }, inner)) ?_ fun k cs w hk => ?_
     · refine fr_bind ?_
       unfold Instr.endLoop
       refine fr_bind (fr_getLoop hx fun y hy => ?_)
       obtain ⟨h1, h2, h3, h4, h5⟩ := loop_in hy
       dsimp only
       split
       · exact fr_bind (fr_runtimePanic (by simp))
       · refine fr_bind (fr_setObj hx (.loop h1 h2 h3 h4 h5) (fr_pure (fr_pure ⟨fun _ z => z, h.top' (h.st.top.todo' fun z hz => ?_) rfl⟩)))
         rcases List.mem_append.1 hz with hz | hz
         · cases hp : y.pending with
           | none => rw [hp] at hz; cases hz
           | some c => rw [hp] at hz; simp at hz; subst hz; exact h4 c hp
         · exact hl z hz
     · obtain ⟨kk, cc, h1, h2, _⟩ := onTop_eq k cs { fn := fn, tmps := tmps, todo := .endRangeFunc q :: l, defers := defers, mode := .run, kind := kind, roundOf := ro } inner
       have hfl : Sem.Fr P G (Instr.endLoop q) A (fun A' j => (∀ b, A b → A' b) ∧ True) := by
        unfold Instr.endLoop
        refine fr_bind (fr_getLoop hx fun y hy => ?_)
        obtain ⟨h1, h2, h3, h4, h5⟩ := loop_in hy
        dsimp only
        split
        · exact fr_bind (fr_runtimePanic (by simp))
        · exact fr_bind (fr_setObj hx (.loop h1 h2 h3 h4 h5) (fr_pure ⟨fun _ z => z, trivial⟩))
       rw [h1]
       have est : stepG P true (gor { fn := fn, tmps := tmps, todo := .endRangeFunc q :: l ++ kk, defers := defers, mode := .run, kind := kind, roundOf := ro } cc) w = GStep.after (seen P fn ((Instr.endLoop q).runT P w #[]).2) (match ((Instr.endLoop q).runT P w #[]).1 with
        | .ok jump w => .go (gor { fn := fn, tmps := tmps, todo := (jump.map Item.code).toList ++ (l ++ kk), defers := defers, mode := .run, kind := kind, roundOf := ro } cc) w
        | .halt (.panic v) w => .go (gor (({ fn := fn, tmps := tmps, todo := .endRangeFunc q :: (l ++ kk), defers := defers, mode := .run, kind := kind, roundOf := ro } : Frame).raise [{ v, recovered := false }]) cc) w
        | .halt _ w => .ended (.stuck "range over a function: no such loop" (({ fn := fn, tmps := tmps, todo := .endRangeFunc q :: (l ++ kk), defers := defers, mode := .run, kind := kind, roundOf := ro } : Frame).pos P)) w) := rfl
       rw [est, Sem.runT_eq]
       cases hr : (Instr.endLoop q).run P w with
       | ok j w' =>
         rw [bind_run hr]
         refine ⟨seen P fn ((Instr.endLoop q).events P w #[]), ?_, fun e he => ?_⟩
         · simp only [h1, List.append_assoc]
           simp [GStep.after]
         · rw [bind_ev hr, pure_ev, Array.append_empty, Sem.runT_eq]
           exact seen_sub _ _ _ e he
       | halt x w' =>
         rw [bind_halt hr]
         intro hw
         have hrun := Sem.Fr.run (es := #[]) hfl hw
         rw [Sem.runT_eq, hr] at hrun
         obtain ⟨_, A', hkept, hw', _⟩ := hrun
         cases x with
         | panic v =>
           refine .inl ⟨A', ({ fn := fn, tmps := tmps, todo := .endRangeFunc q :: l, defers := defers, mode := .run, kind := kind, roundOf := ro } : Frame).raise [{ v, recovered := false }], _, _, by rw [h1]; rfl, rfl, hkept.grow, hw', (h.mono hkept.grow).top' (raise_in (h.st.top.mono hkept.grow) _) rfl⟩
         | _ => exact .inr ⟨_, _, _, rfl⟩
   | beginRound =>
     refine turns_apply hP h rfl (by simp) (s := do ro.elim (stuck "beginRound: no round") Instr.beginRound; pure .skip) ?_ fun kk cc w => ?_
     · refine fr_bind ?_
       cases ro with
       | none => exact fr_stuck
       | some q =>
         have hq := h.st.top.round q rfl
         simp only [Option.elim]
         unfold Instr.beginRound
         refine fr_bind (fr_getLoop hq fun y hy => ?_)
         obtain ⟨h1, h2, h3, h4, h5⟩ := loop_in hy
         refine fr_bind (fr_setObj hq (.loop h1 h2 h3 h4 h5) ?_)
         split
         · exact fr_pure (fr_pure ⟨fun _ z => z, trivial⟩)
         · exact fr_runtimePanic (by simp)
         · exact fr_runtimePanic (by simp)
         · exact fr_runtimePanic (by simp)
     · rfl
   | _ => exact hx.elim
end
end Go.Proofs.Ytclnogfmmekooaa
namespace Go.Proofs.Ytclnogfmmekooaa
set_option linter.unusedVariables false
set_option linter.unusedSimpArgs false
open Go.Conc
section
variable {P : Program} {G : Cfg} {A : Nat → Prop}
theorem fr_mapM_in {α : Type} {f : α → Sem Value} {Q : (Nat → Prop) → Array Value → Prop} (xs : Array α) (hf : ∀ x (Q' : (Nat → Prop) → Value → Prop), (∀ y, VIn G A y → Q' A y) → Sem.Fr P G (f x) A Q') (h : ∀ ys, (∀ y ∈ ys, VIn G A y) → Q A ys) : Sem.Fr P G (xs.mapM f) A Q := by
 rw [Array.mapM_eq_foldlM, ← Array.foldlM_toList]
 have key : ∀ (l : List α) (acc : Array Value), (∀ y ∈ acc, VIn G A y) → Sem.Fr P G (l.foldlM (fun acc a => do let b ← f a; pure (acc.push b)) acc) A Q := by
  intro l
  induction l with
  | nil => exact fun acc ha => fr_pure (h _ ha)
  | cons x l ih => exact fun acc ha => fr_bind (fr_bind (hf x _ fun y hy => fr_pure (ih _ fun z hz => (Array.mem_push.1 hz).elim (ha z) fun e => e ▸ hy)))
 exact key _ _ (by simp)
theorem fr_results {fn : Func} {tmps : Array Value} (ht : ∀ v ∈ tmps, VIn G A v) {Q : (Nat → Prop) → Value → Prop} (h : ∀ v, VIn G A v → Q A v) : Sem.Fr P G (results fn tmps) A Q := by
 have hg : ∀ t, VIn G A (tmps.getD t undef) := by
  intro t
  rw [Array.getD_eq_getD_getElem?]
  cases e : tmps[t]? with
  | none => exact .tuple (by simp)
  | some v => exact ht v (Array.mem_of_getElem? e)
 unfold results
 refine fr_bind (fr_mapM_in _ (fun x Q' hq => ?_) fun ys hy => fr_pure (h _ ?_))
 · cases x with
   | tmp t => exact fr_pure (hq _ (hg t))
   | cell a t => exact fr_bind (fr_asAddr (hg a) fun ad had => fr_loadVar had hq)
 · split
   · exact hy _ (Array.getElem_mem _)
   · exact .tuple hy
theorem fr_takeDeferred {r : Nat} (hr : A r) {Q : (Nat → Prop) → List Deferred → Prop} (h : Q A []) : Sem.Fr P G (Instr.takeDeferred r) A Q := by
 unfold Instr.takeDeferred
 refine fr_bind (fr_getObj hr fun o ho => ?_)
 split
 · rename_i ds
   have : ds = [] := by cases ho with | deferred hd => exact hd ds rfl
   subst this
   exact fr_bind (fr_setObj hr (.deferred (fun ds e => by cases e)) (fr_pure h))
 · exact fr_stuck
/-- ████ EVERY STEP OF A CLEAN FRAME THAT RETURNS. ████ -/
theorem turns_ret {fr : Frame} {inner : List Frame} (h : St2 P G A fr inner) (hm : fr.mode = .returning) (hne : fr.defers ≠ [] ∨ inner ≠ []) : Turns P G A fr inner := by
 obtain ⟨fn, tmps, todo, defers, mode, kind, ro⟩ := fr
 simp only at hm
 subst hm
 have hkind : kind = .normal := h.st.top.kind
 subst hkind
 cases defers with
 | cons d ds =>
   obtain ⟨q, rfl, hq⟩ := h.st.top.defers d (by simp)
   refine turns_mk (Instr.takeDeferred q >>= fun c => pure ({ fn := fn, tmps := tmps, todo := todo, defers := c ++ ds, mode := .returning, kind := .normal, roundOf := ro }, inner)) (fr_bind (fr_takeDeferred hq (fr_pure ⟨fun _ z => z, h.top' ⟨h.st.top.tmps, h.st.top.todo, fun d hd => h.st.top.defers d (by simp at hd ⊢; exact .inr hd), rfl, h.st.top.round⟩ rfl⟩))) fun k cs w hk => ?_
   obtain ⟨kk, cc, h1, _, _⟩ := onTop_eq k cs { fn := fn, tmps := tmps, todo := todo, defers := { target := .collected q, args := #[] } :: ds, mode := .returning, kind := .normal, roundOf := ro } inner
   have est : stepG P true (gor { fn := fn, tmps := tmps, todo := todo ++ kk, defers := { target := .collected q, args := #[] } :: ds, mode := .returning, kind := .normal, roundOf := ro } cc) w = GStep.after (seen P fn ((Instr.takeDeferred q).runT P w #[]).2) (match ((Instr.takeDeferred q).runT P w #[]).1 with
    | .ok calls w => .go (gor { fn := fn, tmps := tmps, todo := todo ++ kk, defers := calls ++ ds, mode := .returning, kind := .normal, roundOf := ro } cc) w
    | .halt _ w => .ended (.stuck "the deferred calls of a range-over-func loop have been taken" (({ fn := fn, tmps := tmps, todo := todo ++ kk, defers := { target := .collected q, args := #[] } :: ds, mode := .returning, kind := .normal, roundOf := ro } : Frame).pos P)) w) := by
    rw [stepG_unw cc w rfl]
    rfl
   rw [h1, est, Sem.runT_eq]
   cases hr : (Instr.takeDeferred q).run P w with
   | ok c w' =>
     rw [bind_run hr]
     refine ⟨seen P fn ((Instr.takeDeferred q).events P w #[]), ?_, fun e he => ?_⟩
     · simp only [h1]
       simp [GStep.after]
     · rw [bind_ev hr, pure_ev, Array.append_empty, Sem.runT_eq]
       exact seen_sub _ _ _ e he
   | halt x w' =>
     rw [bind_halt hr]
     exact fun _ => .inr ⟨_, _, _, rfl⟩
 | nil =>
   cases inner with
   | nil => simp at hne
   | cons c r =>
     have hw := h.wait c (by simp)
     have hkey : ∀ k cs w, stepG P true (onTop k cs { fn := fn, tmps := tmps, todo := todo, defers := [], mode := .returning, kind := .normal, roundOf := ro } (c :: r)) w = (match P.funcs[fn]? with
      | none => doReturn P true { fn := fn, tmps := tmps, todo := todo, defers := [], mode := .returning, kind := .normal, roundOf := ro } (addK k (c :: r) ++ cs) none (tmps.getD 0 undef) w
      | some f => GStep.after (seen P fn ((results f tmps).runT P w #[]).2) (match ((results f tmps).runT P w #[]).1 with
        | .ok v w => doReturn P true { fn := fn, tmps := tmps, todo := todo, defers := [], mode := .returning, kind := .normal, roundOf := ro } (addK k (c :: r) ++ cs) none v w
        | .halt (.stuck s) w => .ended (.stuck s (({ fn := fn, tmps := tmps, todo := todo, defers := [], mode := .returning, kind := .normal, roundOf := ro } : Frame).pos P)) w
        | .halt _ w => .ended (.stuck "return: the result variables cannot be read" (({ fn := fn, tmps := tmps, todo := todo, defers := [], mode := .returning, kind := .normal, roundOf := ro } : Frame).pos P)) w)) := by
      intro k cs w
      show stepG P true (gor _ _) w = _
      rw [stepG_unw _ w rfl]
      rfl
     cases hf : P.funcs[fn]? with
     | none =>
       have hv : VIn G A (tmps.getD 0 undef) := by
        rw [Array.getD_eq_getD_getElem?]
        cases e : tmps[0]? with
        | none => exact .tuple (by simp)
        | some v => exact h.st.top.tmps v (Array.mem_of_getElem? e)
       refine turns_mk (pure (c.finish (tmps.getD 0 undef), r)) (fr_pure ⟨fun _ z => z, ret_in h (fun _ z => z) hv⟩) fun k cs w hk => ?_
       obtain ⟨c', r', e1, e2⟩ := addK_finish (k := k) (cs := cs) (r := r) hw (tmps.getD 0 undef)
       refine ⟨#[], ?_, fun e he => by simp at he⟩
       rw [hkey, hf]
       simp only [e1]
       rw [doReturn_gor rfl, e2]
     | some f =>
       refine turns_mk (results f tmps >>= fun v => pure (c.finish v, r)) (fr_bind (fr_results h.st.top.tmps fun v hv => fr_pure ⟨fun _ z => z, ret_in h (fun _ z => z) hv⟩)) fun k cs w hk => ?_
       rw [hkey, hf]
       simp only [Sem.runT_eq]
       cases hr : (results f tmps).run P w with
       | ok v w' =>
         rw [bind_run hr]
         obtain ⟨c', r', e1, e2⟩ := addK_finish (k := k) (cs := cs) (r := r) hw v
         refine ⟨seen P fn ((results f tmps).events P w #[]), ?_, fun e he => ?_⟩
         · simp only [e1]
           rw [doReturn_gor rfl, e2]
           simp [GStep.after]
         · show e ∈ ((results f tmps >>= fun v => pure (c.finish v, r)).runT P w #[]).2
           rw [bind_ev hr, pure_ev, Array.append_empty, Sem.runT_eq]
           exact seen_sub _ _ _ e he
       | halt x w' =>
         rw [bind_halt hr]
         refine fun _ => .inr ?_
         cases x <;> exact ⟨_, _, _, rfl⟩
/-! ### a panic never comes back -/
/-- Below everything: whoever panics into it ends the run; whoever returns to it as well. -/
def trap : Frame := { fn := 0, tmps := #[], todo := [.code (.refuse "")], defers := [{ target := .nil, args := #[] }], mode := .run, kind := .normal }
def trapK : List Item := [.code (.refuse "")]
theorem trapK_exit : ∀ id, exitTo id trapK = none := fun _ => rfl
/-- The machine of goroutine 0 alone. -/
def solo1 (g : Goroutine) (w : World) : Machine := { world := w, gs := #[g], rest := { timers := #[], alone := none, slice := none } }
theorem step_solo_go {fr fr' : Frame} {cs cs' : List Frame} {w w' : World} {es : Array Event} (h : stepG P true (gor fr cs) w = .go (gor fr' cs') w' es) : step P (solo1 (gor fr cs) w) = .next (solo1 (gor fr' cs') w') :=
 step_lone_go (by show (stepG P true (gor fr cs) w).bare = _; rw [h]; rfl)
theorem step_solo_ended {fr : Frame} {cs : List Frame} {w w' : World} {o : Outcome} {es : Array Event} (h : stepG P true (gor fr cs) w = .ended o w' es) : step P (solo1 (gor fr cs) w) = .ended o w' :=
 step_lone_ended (by show (stepG P true (gor fr cs) w).bare = _; rw [h]; rfl)
end
end Go.Proofs.Ytclnogfmmekooaa
namespace Go.Proofs.Ytclnogfmmekooaa
set_option linter.unusedVariables false
set_option linter.unusedSimpArgs false
open Go.Conc
/-- The world with another tape, read from another place. -/
def tp (w : World) (T : Nat → Question → Nat) (d : Nat) : World := { w with tape := T, drawn := d }
theorem tp_tp (w : World) (T T' : Nat → Question → Nat) (d d' : Nat) : tp (tp w T d) T' d' = tp w T' d' := rfl
theorem tp_self (w : World) : tp w w.tape w.drawn = w := rfl
def rworld {α : Type} : Result α → World
 | .ok _ w => w
 | .halt _ w => w
def rtp {α : Type} (T : Nat → Question → Nat) (d : Nat) : Result α → Result α
 | .ok a w => .ok a (tp w T d)
 | .halt h w => .halt h (tp w T d)
section
variable {P : Program} {G : Cfg} {α : Type}
theorem HIn.tp {A : Nat → Prop} {w : World} (h : HIn P G A w) (T : Nat → Question → Nat) (d : Nat) : HIn P G A (Go.Proofs.Ytclnogfmmekooaa.tp w T d) := ⟨h.obj, h.there⟩
/-- ████ THE TAPE COUNTS WHERE ONE DRAWS, AND NOWHERE ELSE. ████ -/
theorem Sem.Fr.local {s : Sem α} {Q : (Nat → Prop) → α → Prop} : ∀ {A : Nat → Prop} {w : World}, Sem.Fr P G s A Q → HIn P G A w →
 w.drawn ≤ (rworld (s.run P w)).drawn ∧ ∀ T d, (∀ j q, j < (rworld (s.run P w)).drawn - w.drawn → T (d + j) q = w.tape (w.drawn + j) q) →
  s.run P (tp w T d) = rtp T (d + ((rworld (s.run P w)).drawn - w.drawn)) (s.run P w) := by
 induction s with
 | pure a => exact fun {A w} _ _ => ⟨Nat.le_refl _, fun T d _ => by simp [Sem.run, rtp, rworld]⟩
 | load m a k ih =>
   intro A w h hw
   cases hc : w.cell? a with
   | some v =>
     have e1 : (Sem.load m a k).run P w = (k v).run P w := by simp only [Sem.run, hc]
     have e2 : ∀ T d, (Sem.load m a k).run P (tp w T d) = (k v).run P (tp w T d) := fun T d => by
      have : (tp w T d).cell? a = some v := hc
      simp only [Sem.run, this]
     rw [e1]
     refine ⟨(ih v (h.2 v (cell_in hw h.1 hc)) hw).1, fun T d hT => ?_⟩
     rw [e2]
     exact (ih v (h.2 v (cell_in hw h.1 hc)) hw).2 T d hT
   | none =>
     obtain ⟨s, hs⟩ := far_no hw h.1.blk (m == .atomic)
     have e1 : (Sem.load m a k).run P w = .halt (.stuck s) w := by simp only [Sem.run, hc, hs]
     have e2 : ∀ T d, (Sem.load m a k).run P (tp w T d) = .halt (.stuck s) (tp w T d) := fun T d => by
      have h1 : (tp w T d).cell? a = none := hc
      have h2 : (tp w T d).farLoad P a (m == .atomic) = .error (.stuck s) := hs
      simp only [Sem.run, h1, h2]
     rw [e1]
     exact ⟨Nat.le_refl _, fun T d _ => by rw [e2]; simp [rtp, rworld]⟩
 | store m a v k ih =>
   intro A w h hw
   by_cases hv : ∃ cs, v = .agg cs ∨ v = .tuple cs
   · obtain ⟨cs, rfl | rfl⟩ := hv <;> exact ⟨Nat.le_refl _, fun T d _ => by simp [Sem.run, rtp, rworld]⟩
   · have key : ∀ w : World, (Sem.store m a v k).run P w = (match w.cell? a with
      | some _ => if w.frozen? a then .halt (.unsupported (.unsafePointer "a write to bytes that a string shares")) w else k.run P (w.setCell a v)
      | none => match w.farStore P a v (m == .atomic) with
        | .ok (w, _) => k.run P w
        | .error h => .halt h w) := fun w => by
      cases v <;> first | rfl | exact absurd ⟨_, .inl rfl⟩ hv | exact absurd ⟨_, .inr rfl⟩ hv
     cases hc : w.cell? a with
     | some x =>
       by_cases hf : w.frozen? a = true
       · have e1 : (Sem.store m a v k).run P w = .halt (.unsupported (.unsafePointer "a write to bytes that a string shares")) w := by rw [key, hc]; simp [hf]
         have e2 : ∀ T d, (Sem.store m a v k).run P (tp w T d) = .halt (.unsupported (.unsafePointer "a write to bytes that a string shares")) (tp w T d) := fun T d => by
          have h1 : (tp w T d).cell? a = some x := hc
          have h2 : (tp w T d).frozen? a = true := hf
          rw [key, h1]; simp [h2]
         rw [e1]
         exact ⟨Nat.le_refl _, fun T d _ => by rw [e2]; simp [rtp, rworld]⟩
       · have e1 : (Sem.store m a v k).run P w = k.run P (w.setCell a v) := by rw [key, hc]; simp [hf]
         have e2 : ∀ T d, (Sem.store m a v k).run P (tp w T d) = k.run P (tp (w.setCell a v) T d) := fun T d => by
          have h1 : (tp w T d).cell? a = some x := hc
          have h2 : (tp w T d).frozen? a ≠ true := hf
          rw [key, h1]; simp [h2]; rfl
         have hi := ih h.2.2 (hw.setCell a h.2.1)
         rw [e1]
         exact ⟨hi.1, fun T d hT => by rw [e2]; exact hi.2 T d hT⟩
     | none =>
       obtain ⟨s, hs⟩ := farS_no hw h.1 v (m == .atomic)
       have e1 : (Sem.store m a v k).run P w = .halt (.stuck s) w := by rw [key, hc]; simp [hs]
       have e2 : ∀ T d, (Sem.store m a v k).run P (tp w T d) = .halt (.stuck s) (tp w T d) := fun T d => by
        have h1 : (tp w T d).cell? a = none := hc
        obtain ⟨s', hs'⟩ := farS_no (hw.tp T d) h.1 v (m == .atomic)
        have h2 : (tp w T d).farStore P a v (m == .atomic) = .error (.stuck s) := by
         obtain ⟨o, ho, hin⟩ := hw.obj _ h.1
         have ho' : (tp w T d).heap[a.block]? = some o := ho
         unfold World.farStore World.noCell at hs ⊢
         rw [ho] at hs
         rw [ho']
         cases hin <;> exact hs
        rw [key, h1]; simp [h2]
       rw [e1]
       exact ⟨Nat.le_refl _, fun T d _ => by rw [e2]; simp [rtp, rworld]⟩
 | new o k ih =>
   intro A w h hw
   have hi := ih w.heap.size (h.2 _ ⟨fun x => Nat.lt_irrefl _ (hw.lt x), hw.zero _ (Nat.le_refl _)⟩) (hw.push h.1)
   exact ⟨hi.1, fun T d hT => hi.2 T d hT⟩
 | shape r k ih =>
   intro A w h hw
   have hi := ih (w.shape? r) (h.1 _) hw
   exact ⟨hi.1, fun T d hT => hi.2 T d hT⟩
 | freeze a n k ih =>
   intro A w h hw
   have hi := ih h.2 (hw.freeze a n)
   have hd : (w.freeze a n).drawn = w.drawn := by unfold World.freeze; split <;> rfl
   have ht : (w.freeze a n).tape = w.tape := by unfold World.freeze; split <;> rfl
   have hx : ∀ T d, (tp w T d).freeze a n = tp (w.freeze a n) T d := fun T d => by unfold World.freeze; split <;> rfl
   refine ⟨by have := hi.1; rw [hd] at this; exact this, fun T d hT => ?_⟩
   show k.run P ((tp w T d).freeze a n) = _
   rw [hx]
   have := hi.2 T d (by rw [hd, ht]; exact hT)
   rw [hd] at this
   exact this
 | frozen a k ih =>
   intro A w h hw
   have hi := ih (w.frozen? a) (h _) hw
   exact ⟨hi.1, fun T d hT => hi.2 T d hT⟩
 | getObj r k ih =>
   intro A w h hw
   obtain ⟨o, ho, hin⟩ := hw.obj r h.1
   have go : ∀ o', o = o' → (∀ c e f, o' ≠ .cells c e f) → (∀ w : World, w.heap[r]? = some o' → (Sem.getObj r k).run P w = (k o').run P w) := by
    intro o' _ hnc w hw'
    cases o' <;> first | (simp only [Sem.run, hw']; done) | exact absurd rfl (hnc _ _ _)
   cases hin with
   | cells hc =>
     rename_i c e fr
     have e1 : ∀ w : World, w.heap[r]? = some (.cells c e fr) → (Sem.getObj r k).run P w = .halt (.stuck "getObj: a row of cells") w := fun w e => by simp only [Sem.run, e]
     rw [e1 w ho]
     exact ⟨Nat.le_refl _, fun T d _ => by rw [e1 (tp w T d) ho]; simp [rtp, rworld]⟩
   | map hm =>
     rename_i es clock
     have hi := ih _ (h.2 _ (.map (clock := clock) hm)) hw
     have e := go _ rfl (by simp)
     rw [e w ho]
     exact ⟨hi.1, fun T d hT => by rw [e (tp w T d) ho]; exact hi.2 T d hT⟩
   | loop h1 h2 h3 h4 h5 =>
     have hi := ih _ (h.2 _ (.loop h1 h2 h3 h4 h5)) hw
     have e := go _ rfl (by simp)
     rw [e w ho]
     exact ⟨hi.1, fun T d hT => by rw [e (tp w T d) ho]; exact hi.2 T d hT⟩
   | deferred hd =>
     have hi := ih _ (h.2 _ (.deferred hd)) hw
     have e := go _ rfl (by simp)
     rw [e w ho]
     exact ⟨hi.1, fun T d hT => by rw [e (tp w T d) ho]; exact hi.2 T d hT⟩
   | number ha =>
     rename_i a lost
     have hi := ih _ (h.2 _ (.number (lost := lost) ha)) hw
     have e := go _ rfl (by simp)
     rw [e w ho]
     exact ⟨hi.1, fun T d hT => by rw [e (tp w T d) ho]; exact hi.2 T d hT⟩
 | setObj r o k ih =>
   intro A w h hw
   obtain ⟨x, hx, hin⟩ := hw.obj r h.1
   have hi := ih h.2.2.2 (hw.set (r := r) h.2.1)
   have go : ∀ x', x = x' → (∀ c e f, x' ≠ .cells c e f) → (∀ w : World, w.heap[r]? = some x' → (Sem.setObj r o k).run P w = k.run P { w with heap := w.heap.setIfInBounds r o }) := by
    intro x' _ hnc w hw'
    cases x' <;> first | (simp only [Sem.run, hw']; done) | exact absurd rfl (hnc _ _ _)
   cases hin with
   | cells hc =>
     rename_i c e fr
     have e1 : ∀ w : World, w.heap[r]? = some (.cells c e fr) → (Sem.setObj r o k).run P w = .halt (.stuck "setObj: a row of cells") w := fun w e => by simp only [Sem.run, e]
     rw [e1 w hx]
     exact ⟨Nat.le_refl _, fun T d _ => by rw [e1 (tp w T d) hx]; simp [rtp, rworld]⟩
   | map hm => have e := go _ rfl (by simp); rw [e w hx]; exact ⟨hi.1, fun T d hT => by rw [e (tp w T d) hx]; exact hi.2 T d hT⟩
   | loop h1 h2 h3 h4 h5 => have e := go _ rfl (by simp); rw [e w hx]; exact ⟨hi.1, fun T d hT => by rw [e (tp w T d) hx]; exact hi.2 T d hT⟩
   | deferred hd => have e := go _ rfl (by simp); rw [e w hx]; exact ⟨hi.1, fun T d hT => by rw [e (tp w T d) hx]; exact hi.2 T d hT⟩
   | number ha => have e := go _ rfl (by simp); rw [e w hx]; exact ⟨hi.1, fun T d hT => by rw [e (tp w T d) hx]; exact hi.2 T d hT⟩
 | choose q k ih =>
   intro A w h hw
   by_cases hq : q.forced = true
   · have e1 : ∀ w : World, (Sem.choose q k).run P w = (k 0).run P w := fun w => by simp only [Sem.run, hq, if_true]
     have hi := ih 0 (h _) hw
     rw [e1]
     exact ⟨hi.1, fun T d hT => by rw [e1]; exact hi.2 T d hT⟩
   · have e1 : ∀ w : World, (Sem.choose q k).run P w = (k (q.cut (w.tape w.drawn q))).run P { w with drawn := w.drawn + 1 } := fun w => by simp only [Sem.run, hq, if_false, Bool.false_eq_true]
     have hi := ih (q.cut (w.tape w.drawn q)) (h _) (hw.drew (w.drawn + 1))
     have hle : w.drawn + 1 ≤ (rworld ((k (q.cut (w.tape w.drawn q))).run P { w with drawn := w.drawn + 1 })).drawn := hi.1
     rw [e1]
     refine ⟨by omega, fun T d hT => ?_⟩
     have h0 := hT 0 q (by omega)
     simp only [Nat.add_zero] at h0
     rw [e1]
     show (k (q.cut (T d q))).run P (tp { w with drawn := w.drawn + 1 } T (d + 1)) = _
     rw [h0]
     have := hi.2 T (d + 1) (fun j q' hj => by
      have := hT (j + 1) q' (by show j + 1 < _ - w.drawn; have : j < _ - (w.drawn + 1) := hj; omega)
      rw [show d + 1 + j = d + (j + 1) by omega]
      rw [this]
      show _ = w.tape (w.drawn + 1 + j) q'
      rw [show w.drawn + (j + 1) = w.drawn + 1 + j by omega])
     rw [this]
     congr 1
     show d + 1 + (_ - (w.drawn + 1)) = d + (_ - w.drawn)
     omega
 | sys c k ih => exact fun h _ => h.elim
 | program k ih => exact fun {A w} h hw => ih P h hw
 | mark m k ih => exact fun {A w} h hw => ih h.2 hw
 | halt h => exact fun {A w} _ _ => ⟨Nat.le_refl _, fun T d _ => by simp [Sem.run, rtp, rworld]⟩
end
end Go.Proofs.Ytclnogfmmekooaa
namespace Go.Proofs.Ytclnogfmmekooaa
set_option linter.unusedVariables false
set_option linter.unusedSimpArgs false
open Go.Conc
section
variable {P : Program} {G : Cfg}
/-- What stands behind the last frame's items: a piece of a function's code is walked over a trap; a whole function over nothing. -/
def kOf (b : Bool) : List Item := if b then trapK else []
/-- The machine of goroutine 0 alone, over the trap. -/
def LM (b : Bool) (fr : Frame) (inner : List Frame) (w : World) : Machine := solo1 (onTop (kOf b) [trap] fr inner) w
def Stopped (b : Bool) (fr : Frame) : Prop := (fr.mode = .returning ∧ fr.defers = []) ∨ (b = true ∧ fr.mode = .run ∧ fr.todo = [])
theorem onTop_gor (k : List Item) (cs : List Frame) (fr : Frame) (inner : List Frame) : ∃ f c, onTop k cs fr inner = gor f c ∧ f.mode = fr.mode := by
 obtain ⟨kk, cc, h1, _, _⟩ := onTop_eq k cs fr inner
 exact ⟨_, _, h1 fr, rfl⟩
theorem LM_go {b : Bool} {fr fr' : Frame} {inner inner' : List Frame} {w w' : World} {es : Array Event} (h : stepG P true (onTop (kOf b) [trap] fr inner) w = .go (onTop (kOf b) [trap] fr' inner') w' es) : step P (LM b fr inner w) = .next (LM b fr' inner' w') := by
 obtain ⟨f, c, e, _⟩ := onTop_gor (kOf b) [trap] fr inner
 obtain ⟨f', c', e', _⟩ := onTop_gor (kOf b) [trap] fr' inner'
 unfold LM
 rw [e, e'] at h ⊢
 exact step_solo_go h
theorem LM_ended {b : Bool} {fr : Frame} {inner : List Frame} {w w' : World} {o : Outcome} {es : Array Event} (h : stepG P true (onTop (kOf b) [trap] fr inner) w = .ended o w' es) : step P (LM b fr inner w) = .ended o w' := by
 obtain ⟨f, c, e, _⟩ := onTop_gor (kOf b) [trap] fr inner
 unfold LM
 rw [e] at h ⊢
 exact step_solo_ended h
theorem stepG_pan {main : Bool} {fr : Frame} {ch : List PanicEntry} (cs : List Frame) (w : World) (h : fr.mode = .panicking ch) : stepG P main (gor fr cs) w = unwind P main fr cs none w := by
 simp [stepG, gor, h]
theorem runN_ended {n : Nat} {m m' : Machine} {o : Outcome} {w : World} (h : step P m = .ended o w) (hr : runN P (n + 1) m = .next m') : False := by
 simp only [runN, h] at hr
 cases hr
theorem runN_next {n : Nat} {m m1 : Machine} {r : Stepped} (h : step P m = .next m1) (hr : runN P (n + 1) m = r) : runN P n m1 = r := by
 simp only [runN, h] at hr
 exact hr
theorem LM_inj {b : Bool} {fr fr' : Frame} {inner : List Frame} {w w' : World} (h : LM b fr inner w = LM b fr' [] w') : inner = [] ∧ fr = fr' ∧ w = w' := by
 have hw : w = w' := congrArg Machine.world h
 have hg : onTop (kOf b) [trap] fr inner = onTop (kOf b) [trap] fr' [] := by
  have := congrArg Machine.gs h
  simpa [LM, solo1] using this
 cases inner with
 | nil =>
   refine ⟨rfl, ?_, hw⟩
   have hf : ({ fr with todo := fr.todo ++ kOf b } : Frame) = { fr' with todo := fr'.todo ++ kOf b } := congrArg Goroutine.frame hg
   obtain ⟨a, b, c, d, e, f, g⟩ := fr
   obtain ⟨a', b', c', d', e', f', g'⟩ := fr'
   simp only [Frame.mk.injEq] at hf ⊢
   obtain ⟨h1, h2, h3, h4, h5, h6, h7⟩ := hf
   exact ⟨h1, h2, List.append_cancel_right h3, h4, h5, h6, h7⟩
 | cons g r =>
   have hc : addK (kOf b) (g :: r) ++ [trap] = [trap] := congrArg Goroutine.callers hg
   have : addK (kOf b) (g :: r) = [] := List.append_left_eq_self.1 hc
   exact absurd this addK_ne
theorem step_trap (w : World) : ∃ o, step P (solo1 (gor trap []) w) = .ended o w := ⟨_, step_solo_ended (es := #[]) rfl⟩
theorem trap_finish (v : Value) : trap.finish v = trap := rfl
/-- Where it has stopped it stands no second time. -/
theorem stopped_once {b : Bool} {fr fr' : Frame} {w w' : World} {n : Nat} (hs : Stopped b fr) (hk : fr.kind = .normal) (hr : fr.roundOf = none) (h : runN P n (LM b fr [] w) = .next (LM b fr' [] w')) : n = 0 ∧ fr = fr' ∧ w = w' := by
 cases n with
 | zero =>
   simp only [runN, Stepped.next.injEq] at h
   obtain ⟨_, h1, h2⟩ := LM_inj h
   exact ⟨rfl, h1, h2⟩
 | succ n =>
   exfalso
   obtain ⟨fn, tmps, todo, defers, mode, kind, ro⟩ := fr
   simp only at hk hr
   subst hk
   subst hr
   rcases hs with ⟨h1, h2⟩ | ⟨h1, h2⟩
   · simp only at h1 h2
     subst h1
     subst h2
     -- it returns to the trap
     have hback : ∀ (v : Value) (w1 : World), step P (LM b { fn := fn, tmps := tmps, todo := todo, defers := [], mode := .returning, kind := .normal, roundOf := none } [] w) = .next (solo1 (gor trap []) w1) → False := by
      intro v w1 hst
      have h' := runN_next hst h
      cases n with
      | zero =>
        simp only [runN, Stepped.next.injEq] at h'
        have hg := congrArg (fun m : Machine => (m.gs[0]?).map Goroutine.callers) h'
        simp [LM, solo1, onTop, gor] at hg
      | succ n => exact (step_trap w1).elim fun _ e => runN_ended e h'
     have hkey : stepG P true (gor { fn := fn, tmps := tmps, todo := todo ++ kOf b, defers := [], mode := .returning, kind := .normal, roundOf := none } [trap]) w = (match P.funcs[fn]? with
      | none => doReturn P true { fn := fn, tmps := tmps, todo := todo ++ kOf b, defers := [], mode := .returning, kind := .normal, roundOf := none } [trap] none (tmps.getD 0 undef) w
      | some f => GStep.after (seen P fn ((results f tmps).runT P w #[]).2) (match ((results f tmps).runT P w #[]).1 with
        | .ok v w => doReturn P true { fn := fn, tmps := tmps, todo := todo ++ kOf b, defers := [], mode := .returning, kind := .normal, roundOf := none } [trap] none v w
        | .halt (.stuck s) w => .ended (.stuck s (({ fn := fn, tmps := tmps, todo := todo ++ kOf b, defers := [], mode := .returning, kind := .normal, roundOf := none } : Frame).pos P)) w
        | .halt _ w => .ended (.stuck "return: the result variables cannot be read" (({ fn := fn, tmps := tmps, todo := todo ++ kOf b, defers := [], mode := .returning, kind := .normal, roundOf := none } : Frame).pos P)) w)) := by
      rw [stepG_unw _ w rfl]
      rfl
     cases hf : P.funcs[fn]? with
     | none =>
       rw [hf] at hkey
       simp only at hkey
       rw [doReturn_gor rfl, trap_finish] at hkey
       exact hback (tmps.getD 0 undef) w (step_solo_go hkey)
     | some f =>
       rw [hf] at hkey
       simp only [Sem.runT_eq] at hkey
       cases hr : (results f tmps).run P w with
       | ok v w1 =>
         rw [hr] at hkey
         simp only at hkey
         rw [doReturn_gor rfl, trap_finish] at hkey
         exact hback v w1 (step_solo_go hkey)
       | halt x w1 =>
         rw [hr] at hkey
         have : ∃ o w2 es, stepG P true (gor { fn := fn, tmps := tmps, todo := todo ++ kOf b, defers := [], mode := .returning, kind := .normal, roundOf := none } [trap]) w = .ended o w2 es := by
          rw [hkey]
          cases x <;> exact ⟨_, _, _, rfl⟩
         obtain ⟨o, w2, es, e⟩ := this
         exact runN_ended (step_solo_ended e) h
   · obtain ⟨h2, h3⟩ := h2
     simp only at h2 h3
     subst h1
     subst h2
     subst h3
     exact runN_ended (step_solo_ended (es := #[]) rfl) h
/-- ████ A PANIC NEVER COMES BACK. ████ -/
theorem panic_dead {b : Bool} : ∀ (n : Nat) {fr : Frame} {inner : List Frame} {A : Nat → Prop} {w : World} {ch : List PanicEntry} {m : Machine}, St2 P G A fr inner → HIn P G A w → fr.mode = .panicking ch → runN P n (LM b fr inner w) = .next m →
 ∃ f c w' ch', m = solo1 (gor f c) w' ∧ f.mode = .panicking ch'
 | 0, fr, inner, A, w, ch, m, _, _, hm, h => by
   simp only [runN, Stepped.next.injEq] at h
   obtain ⟨f, c, e, em⟩ := onTop_gor (kOf b) [trap] fr inner
   exact ⟨f, c, w, ch, by rw [← h, LM, e], by rw [em, hm]⟩
 | n + 1, fr, inner, A, w, ch, m, hst, hw, hm, h => by
   obtain ⟨fn, tmps, todo, defers, mode, kind, ro⟩ := fr
   simp only at hm
   subst hm
   have hkind : kind = .normal := hst.st.top.kind
   subst hkind
   obtain ⟨kk, cc, h1, _, h3⟩ := onTop_eq (kOf b) [trap] { fn := fn, tmps := tmps, todo := todo, defers := defers, mode := .panicking ch, kind := .normal, roundOf := ro } inner
   cases defers with
   | cons d ds =>
     obtain ⟨q, rfl, hq⟩ := hst.st.top.defers d (by simp)
     have est : stepG P true (gor { fn := fn, tmps := tmps, todo := todo ++ kk, defers := { target := .collected q, args := #[] } :: ds, mode := .panicking ch, kind := .normal, roundOf := ro } cc) w = GStep.after (seen P fn ((Instr.takeDeferred q).runT P w #[]).2) (match ((Instr.takeDeferred q).runT P w #[]).1 with
      | .ok calls w => .go (gor { fn := fn, tmps := tmps, todo := todo ++ kk, defers := calls ++ ds, mode := .panicking ch, kind := .normal, roundOf := ro } cc) w
      | .halt _ w => .ended (.stuck "the deferred calls of a range-over-func loop have been taken" (({ fn := fn, tmps := tmps, todo := todo ++ kk, defers := { target := .collected q, args := #[] } :: ds, mode := .panicking ch, kind := .normal, roundOf := ro } : Frame).pos P)) w) := rfl
     have hfl : Sem.Fr P G (Instr.takeDeferred q) A (fun A' c => (∀ b, A b → A' b) ∧ c = []) := fr_takeDeferred hq ⟨fun _ z => z, rfl⟩
     have hrun := Sem.Fr.run (es := #[]) hfl hw
     rw [Sem.runT_eq] at hrun est
     cases hr : (Instr.takeDeferred q).run P w with
     | ok c w' =>
       rw [hr] at hrun est
       obtain ⟨A', hk, hw', ⟨hA, rfl⟩, _⟩ := hrun
       have hst' : St2 P G A' { fn := fn, tmps := tmps, todo := todo, defers := ds, mode := .panicking ch, kind := .normal, roundOf := ro } inner := by
        have := hst.mono hA
        exact this.top' ⟨this.st.top.tmps, this.st.top.todo, fun d hd => this.st.top.defers d (by simp at hd ⊢; exact .inr hd), rfl, this.st.top.round⟩ rfl
       refine panic_dead n hst' hw' rfl (runN_next (LM_go (es := seen P fn (Sem.events P (Instr.takeDeferred q) w #[]) ++ #[]) ?_) h)
       rw [h1, h1]
       exact est
     | halt x w' =>
       rw [hr] at est
       exact (runN_ended (LM_ended (by rw [h1]; exact est)) h).elim
   | nil =>
     by_cases hcat : ({ fn := fn, tmps := tmps, todo := todo ++ kk, defers := [], mode := .panicking ch, kind := .normal, roundOf := ro } : Frame).catches P = true
     · refine (runN_ended (LM_ended (es := #[]) (w' := w) (o := .unsupported (.noEntry "a panic or Goexit out of a method that fmt calls behind a cut's door") (({ fn := fn, tmps := tmps, todo := todo ++ kk, defers := [], mode := .panicking ch, kind := .normal, roundOf := ro } : Frame).pos P)) ?_) h).elim
       rw [h1]
       rw [stepG_pan (ch := ch) _ _ rfl]
       unfold unwind
       simp only [hcat, if_true]
     · cases inner with
       | nil =>
         have est : stepG P true (onTop (kOf b) [trap] { fn := fn, tmps := tmps, todo := todo, defers := [], mode := .panicking ch, kind := .normal, roundOf := ro } []) w = .go (gor { trap with mode := .panicking ch } []) w := by
          obtain ⟨e1, e2⟩ : todo ++ kOf b = todo ++ kk ∧ [trap] = cc := by
           have := h1 { fn := fn, tmps := tmps, todo := todo, defers := [], mode := .panicking ch, kind := .normal, roundOf := ro }
           simp only [onTop, gor, Goroutine.mk.injEq, Frame.mk.injEq, true_and, and_true] at this
           exact this
          rw [h1]
          rw [stepG_pan (ch := ch) _ _ rfl]
          unfold unwind
          simp only [hcat, if_false, Bool.false_eq_true, ← e2]
          rfl
         obtain ⟨f, c, e, _⟩ := onTop_gor (kOf b) [trap] { fn := fn, tmps := tmps, todo := todo, defers := [], mode := .panicking ch, kind := .normal, roundOf := ro } []
         have hstep : step P (LM b { fn := fn, tmps := tmps, todo := todo, defers := [], mode := .panicking ch, kind := .normal, roundOf := ro } [] w) = .next (solo1 (gor { trap with mode := .panicking ch } []) w) := by
          unfold LM
          rw [e] at est ⊢
          exact step_solo_go est
         have h' := runN_next hstep h
         cases n with
         | zero =>
           simp only [runN, Stepped.next.injEq] at h'
           exact ⟨_, _, _, ch, h'.symm, rfl⟩
         | succ n => exact (runN_ended (P := P) (o := .unsupported (.noEntry "machine/Return: a deferred call of a nil function value, made while the frame is unwinding") (({ trap with mode := .panicking ch, defers := [] } : Frame).pos P)) (w := w) (step_solo_ended (es := #[]) rfl) h').elim
       | cons c r =>
         have hc := hst.st.rest c (by simp)
         obtain ⟨kc, ccc, g1, _, g3⟩ := onTop_eq (kOf b) [trap] c r
         have ecc : addK (kOf b) (c :: r) ++ [trap] = cc ∧ kk = [] := by
          have := h1 { fn := fn, tmps := tmps, todo := todo, defers := [], mode := .panicking ch, kind := .normal, roundOf := ro }
          simp only [onTop, gor, Goroutine.mk.injEq, Frame.mk.injEq, true_and, and_true] at this
          exact ⟨this.2, by simpa using this.1⟩
         have hst' : St2 P G A { c with mode := .panicking ch } r :=
          ⟨⟨⟨hc.1.tmps, hc.1.todo, hc.1.defers, hc.1.kind, hc.1.round⟩, fun f hf => hst.st.rest f (by simp [hf])⟩, fun f hf => hst.wait f (by simp [hf]), getLast_top (fr := c) rfl fun f hf => hst.last f (by simpa using hf)⟩
         refine panic_dead n hst' hw rfl (runN_next (LM_go (es := #[]) ?_) h)
         rw [h1, g1]
         rw [stepG_pan (ch := ch) _ _ rfl]
         unfold unwind
         simp only [hcat, if_false, Bool.false_eq_true, ← ecc.1, g3]
         have hcm : c.mode = .run := hc.2
         simp [Frame.raise, hcm, gor]
end
end Go.Proofs.Ytclnogfmmekooaa
