/- What the laws' walks share: words, plain laws, and the walks of functions, part 4. -/
import Derived.Deep.RegionHeld3
import Derived.BigQuiet
import Derived.Test.YtohkoogmbfaceaaGreatY3
namespace Go.Proofs.YtohkoogmbfaceaaGreat
set_option linter.unusedVariables false
set_option linter.unusedSimpArgs false
open Go.RowKit Go.Maps Go.Shelf
attribute [local go_sem] Oper.semAt_some
set_option maxHeartbeats 400000
def rcV (r : Rc) : Value := .agg #[.int .i64 r.kind, .int .i64 r.seq, .int .i64 r.addr, .int .i64 r.val]
def recD (r : Rc) : DataW Unit := .agg [.lit (.int .i64 r.kind), .lit (.int .i64 r.seq), .lit (.int .i64 r.addr), .lit (.int .i64 r.val)]
def recL : List Value → Option Rc
  | [.int .i64 a, .int .i64 b, .int .i64 c, .int .i64 d] => some ⟨a, b, c, d⟩
  | _ => none
def recElem (v : Value) : Option (DataW Unit × List MemPlace) := match v with
  | .agg cs => (recL cs.toList).map fun r => (recD r, [])
  | _ => none
theorem recElem_mk (r : Rc) : recElem (rcV r) = some (recD r, []) := rfl
theorem recL_inv {l : List Value} {r : Rc} (h : recL l = some r) : l = [.int .i64 r.kind, .int .i64 r.seq, .int .i64 r.addr, .int .i64 r.val] := by
  unfold recL at h
  split at h
  · cases h; rfl
  · cases h
theorem recD_inj {r s : Rc} (h : recD r = recD s) : r = s := by
  unfold recD at h
  cases r; cases s
  simp only [DataW.agg.injEq, List.cons.injEq, DataW.lit.injEq, Lit.int.injEq, true_and, and_true] at h
  obtain ⟨rfl, rfl, rfl, rfl⟩ := h
  rfl
theorem recElem_inv {v : Value} {r : Rc} {ps : List MemPlace} (h : recElem v = some (recD r, ps)) : v = rcV r := by
  unfold recElem at h
  cases v with
  | agg cs =>
    dsimp only at h
    cases hl : recL cs.toList with
    | none => rw [hl] at h; cases h
    | some s =>
      rw [hl] at h
      simp only [Option.map_some, Option.some.injEq, Prod.mk.injEq] at h
      have hr := recD_inj h.1
      subst hr
      have := recL_inv hl
      unfold rcV
      rw [← this]
  | _ => cases h
/-- block b is a map from int to records (type K of its keys) of at most n entries, that answers F -/
def RMap (P : Program) (K : TypeId) (w : World) (b n : Nat) (F : Int → Option Rc) : Prop :=
  ∃ D : DataW Unit, w.ownsMap P K recElem b n D ∧ IsMap D ∧ ∀ k, (Lit.int .i64 k).wf = true → D.atKey (.int .i64 k) (recD rc0) = recD ((F k).getD rc0) ∧ has D (.int .i64 k) = (F k).isSome
section
variable {P : Program} {t K E : TypeId} {w w' : World} {b n : Nat} {F : Int → Option Rc}
theorem RMap.made (P : Program) (K : TypeId) (w : World) : RMap P K (w.alloc (.map #[] 0)) w.heap.size 0 (fun _ => none) := ⟨_, World.ownsMap_made _ _ _ _, isMap_empty, fun k _ => ⟨rfl, rfl⟩⟩
theorem RMap.mono (h : RMap P K w b n F) {m : Nat} (hm : n ≤ m) : RMap P K w b m F := by
  obtain ⟨D, h1, h2⟩ := h; exact ⟨D, h1.mono hm, h2⟩
theorem RMap.lt (h : RMap P K w b n F) : b < w.heap.size := by obtain ⟨D, h1, _⟩ := h; exact h1.lt
theorem RMap.at_ (h : RMap P K w b n F) : ∃ es clock, w.heap[b]? = some (.map es clock) := by obtain ⟨D, ⟨es, clock, e, _⟩, _⟩ := h; exact ⟨es, clock, e⟩
theorem RMap.below {B : Nat} (h : RMap P K w b n F) (hb : Below B w w') (hB : b < B) : RMap P K w' b n F := by
  obtain ⟨D, ⟨es, clock, e, r⟩, h2⟩ := h
  exact ⟨D, ⟨es, clock, (hb.block b hB).trans e, r⟩, h2⟩
theorem RMap.kept {row : Option Nat} (h : RMap P K w b n F) (hg : w.grownBy w' row) (hne : some b ≠ row) : RMap P K w' b n F := by
  obtain ⟨D, h1, h2⟩ := h; exact ⟨D, h1.kept hg hne, h2⟩
theorem RMap.alloc (h : RMap P K w b n F) (o : Obj) : RMap P K (w.alloc o) b n F := by
  obtain ⟨D, h1, h2⟩ := h; exact ⟨D, h1.alloc o, h2⟩
theorem RMap.look (h : RMap P K w b n F) (ht : P.underlying t = some (.map K E)) (hK : P.underlying K = some (.int .i64)) (hz : ∀ w : World, (zeroValue E).run P w = .ok (rcV rc0) w) {k : Int} (hk : (Lit.int .i64 k).wf = true) :
    (Instr.lookup t (.map (some b)) (.int .i64 k) false).run P w = .ok (rcV ((F k).getD rc0)) w := by
  obtain ⟨D, h1, _, h3⟩ := h
  obtain ⟨v, ps, hrun, hv⟩ := h1.lookup (int_keyed hK) ht (hz w) (recElem_mk rc0) (keyOf_int_mk hK hk)
  rw [(h3 k hk).1] at hv
  rw [hrun, recElem_inv hv]
theorem RMap.look_ok (h : RMap P K w b n F) (ht : P.underlying t = some (.map K E)) (hK : P.underlying K = some (.int .i64)) (hz : ∀ w : World, (zeroValue E).run P w = .ok (rcV rc0) w) {k : Int} (hk : (Lit.int .i64 k).wf = true) :
    (Instr.lookup t (.map (some b)) (.int .i64 k) true).run P w = .ok (.tuple #[rcV ((F k).getD rc0), .bool (F k).isSome]) w := by
  obtain ⟨D, h1, _, h3⟩ := h
  obtain ⟨v, ps, hrun, hv⟩ := h1.look_ok (int_keyed hK) ht (hz w) (recElem_mk rc0) (keyOf_int_mk hK hk)
  rw [(h3 k hk).1] at hv
  rw [(h3 k hk).2] at hrun
  rw [hrun, recElem_inv hv]
theorem RMap.put (h : RMap P K w b n F) (ht : P.underlying t = some (.map K E)) (hK : P.underlying K = some (.int .i64)) (hn : n < maxLen) {k : Int} (r : Rc) (hk : (Lit.int .i64 k).wf = true) :
    ∃ w', (Instr.mapUpdate t (.map (some b)) (.int .i64 k) (rcV r)).run P w = .ok () w' ∧ RMap P K w' b (n + 1) (fun x => if x = k then some r else F x) ∧ w.grownBy w' (some b) := by
  obtain ⟨D, h1, h2, h3⟩ := h
  obtain ⟨w', hrun, g1, g2⟩ := h1.update (int_keyed hK) ht hn (keyOf_int_mk hK hk) (recElem_mk r)
  refine ⟨w', hrun, ⟨_, g1, h2.put _ _, fun x hx => ?_⟩, g2⟩
  dsimp only
  by_cases e : x = k
  · subst e
    rw [if_pos rfl, atKey_put_same h2 (isKeyLit_int _ hk), has_put_same h2 (isKeyLit_int _ hk)]
    exact ⟨rfl, rfl⟩
  · have hne : Lit.int .i64 x ≠ Lit.int .i64 k := by intro e'; injection e' with _ e''; exact e e''
    rw [if_neg e, atKey_put_other hne, has_put_other hne]
    exact h3 x hx
end
/-! ### what the program's map holds -/
def lmStep (F : Int → Option Rc) (x : PgAt) : Int → Option Rc :=
  if x.2.2.state = 1 ∧ ((F x.2.2.rc.addr).getD rc0).seq < x.2.2.rc.seq then fun a => if a = x.2.2.rc.addr then some x.2.2.rc else F a else F
def lastMap (pre : List PgAt) : Int → Option Rc := pre.foldl lmStep (fun _ => none)
theorem lastMap_snoc (pre : List PgAt) (x : PgAt) : lastMap (pre ++ [x]) = lmStep (lastMap pre) x := by unfold lastMap; rw [List.foldl_append]; rfl
def foundR (r : Rc) : Option Rc := if 0 < r.seq then some r else none
theorem foundR_getD {r : Rc} (h : r = rc0 ∨ 0 < r.seq) : (foundR r).getD rc0 = r := by
  unfold foundR
  split
  · rfl
  · rcases h with rfl | h
    · rfl
    · contradiction
theorem lm_step {F : Int → Option Rc} {o : Int → Rc} {x : PgAt} (hx : pageOk x.2.2 = true) (h : ∀ a, F a = foundR (o a)) (h0 : ∀ a, o a = rc0 ∨ 0 < (o a).seq) (a : Int) :
    lmStep F x a = foundR (lastStep a (o a) x.2.2) ∧ (lastStep a (o a) x.2.2 = rc0 ∨ 0 < (lastStep a (o a) x.2.2).seq) := by
  have hL0 : ∀ r : Rc, ¬ (x.2.2.state = 1 ∧ x.2.2.rc.addr = a ∧ r.seq < x.2.2.rc.seq) → lastStep a r x.2.2 = r := fun r hr => by unfold lastStep; rw [if_neg hr]
  by_cases hc : x.2.2.state = 1 ∧ (o x.2.2.rc.addr).seq < x.2.2.rc.seq
  · have hs := (recOk_addr (rec_of_written hx hc.1)).2.2.2.2.1
    have hM : lmStep F x = fun a => if a = x.2.2.rc.addr then some x.2.2.rc else F a := by unfold lmStep; rw [h, foundR_getD (h0 _), if_pos hc]
    rw [hM]
    by_cases ha : a = x.2.2.rc.addr
    · have hL : lastStep a (o a) x.2.2 = x.2.2.rc := by rw [ha]; unfold lastStep; rw [if_pos ⟨hc.1, rfl, hc.2⟩]
      rw [hL]
      exact ⟨by dsimp only; rw [if_pos ha]; unfold foundR; rw [if_pos (by omega)], .inr (by omega)⟩
    · rw [hL0 _ (fun e => ha e.2.1.symm)]
      exact ⟨by dsimp only; rw [if_neg ha]; exact h a, h0 a⟩
  · have hM : lmStep F x = F := by unfold lmStep; rw [h, foundR_getD (h0 _), if_neg hc]
    rw [hM, hL0 _ (fun e => hc ⟨e.1, by rw [e.2.1]; exact e.2.2⟩)]
    exact ⟨h a, h0 a⟩
theorem lm_tag : ∀ (ps : List Pg) (i j : Nat) (F : Int → Option Rc) (o : Int → Rc), (∀ p ∈ ps, pageOk p = true) → (∀ a, F a = foundR (o a)) → (∀ a, o a = rc0 ∨ 0 < (o a).seq) →
    ∀ a, (tagFrom i j ps).foldl lmStep F a = foundR (lastPs a (o a) ps) ∧ (lastPs a (o a) ps = rc0 ∨ 0 < (lastPs a (o a) ps).seq)
  | [], _, _, F, o, _, h, h0, a => ⟨h a, h0 a⟩
  | p :: ps, i, j, F, o, hp, h, h0, a => by
    have hst := fun a => lm_step (x := (i, j, p)) (hp p (List.mem_cons_self ..)) h h0 a
    rw [tagFrom, List.foldl_cons]
    exact lm_tag ps i (j + 1) (lmStep F (i, j, p)) (fun a => lastStep a (o a) p) (fun q hq => hp q (List.mem_cons_of_mem _ hq)) (fun a => (hst a).1) (fun a => (hst a).2) a
theorem lm_all : ∀ (f : List Bk) (i : Nat) (F : Int → Option Rc) (o : Int → Rc), (∀ b ∈ f, ∀ p ∈ b.pages, pageOk p = true) → (∀ a, F a = foundR (o a)) → (∀ a, o a = rc0 ∨ 0 < (o a).seq) →
    ∀ a, (allFrom i f).foldl lmStep F a = foundR (f.foldl (fun o b => lastPs a o b.pages) (o a))
  | [], _, F, o, _, h, _, a => h a
  | b :: f, i, F, o, hp, h, h0, a => by
    have hst := fun a => lm_tag b.pages i 0 F o (hp b (List.mem_cons_self ..)) h h0 a
    rw [allFrom, List.foldl_append]
    exact lm_all f (i + 1) _ (fun a => lastPs a (o a) b.pages) (fun c hc => hp c (List.mem_cons_of_mem _ hc)) (fun a => (hst a).1) (fun a => (hst a).2) a
theorem lastMap_eq {f : List Bk} (h : flashOk f = true) (a : Int) : lastMap (allFrom 0 f) a = foundR (last f a) :=
  lm_all f 0 (fun _ => none) (fun _ => rc0) (fun b hb => (bk_parts h hb).2.2.2) (fun _ => rfl) (fun _ => .inl rfl) a
theorem tag_len (i : Nat) : ∀ (ps : List Pg) (j : Nat), (tagFrom i j ps).length = ps.length
  | [], _ => rfl
  | _ :: ps, j => by rw [tagFrom, List.length_cons, tag_len i ps, List.length_cons]
theorem all_len : ∀ (f : List Bk) (i : Nat), (∀ b ∈ f, b.pages.length = 4) → (allFrom i f).length = 4 * f.length
  | [], _, _ => rfl
  | b :: f, i, h => by
    rw [allFrom, List.length_append, tag_len, all_len f (i + 1) (fun c hc => h c (List.mem_cons_of_mem _ hc)), h b (List.mem_cons_self ..), List.length_cons]
    omega
theorem zero_rec (w : World) : (zeroValue 64).run Tryz.prog w = .ok (rcV rc0) w := by kernel_rfl
theorem field_seq (a b c d : Int) (w : World) : (Instr.field 64 (.agg #[.int .i64 a, .int .i64 b, .int .i64 c, .int .i64 d]) 1).run Tryz.prog w = .ok (.int .i64 b) w := by kernel_rfl
theorem wf_int {k : Int} (h : -1000 ≤ k ∧ k ≤ 1000) : (Lit.int .i64 k).wf = true := by
  have h1 : IntKind.i64.min ≤ k := Int.le_trans (by decide) h.1
  have h2 : k ≤ IntKind.i64.max := Int.le_trans h.2 (by decide)
  simp only [Lit.wf, Bool.and_eq_true, decide_eq_true_iff]
  exact ⟨h1, h2⟩
/-! ### the walk -/
abbrev PgOf (f : List Bk) := { x : PgAt // x ∈ allFrom 0 f }
theorem eachPageF_stops (F : Fence) (n : Nat) (hF : F.fn 81) (hro : F.round = none) (hn : 1 ≤ n) (Bs n₀ g o c : Nat) (f : List Bk) (hs : List (Option Addr × Nat)) (w : World) (hB : Bs < w.heap.size) (hn₀ : n₀ ≤ w.heap.size)
    (hBs : w.cell? ⟨Bs, 0, none⟩ = some (.slice (some ⟨g, o, none⟩) f.length c)) (hl : f.length < 1000000000000) (hp : ∀ b ∈ f, b.pages.length < 1000000000000)
    (hBk : Bks w (some ⟨g, o, none⟩) f hs) (hlow : ∀ b, fblk (some ⟨g, o, none⟩) hs b → b < n₀) :
    SeqStopsK F n Tryz.prog 81 #[.pointer (some ⟨Bs, 0, none⟩)] (fun x : PgOf f => encP x.1) (Below n₀) (fun ys => ys.map Subtype.val = allFrom 0 f) (fun pre => pre.map Subtype.val <+: allFrom 0 f) (allFrom 0 f).length w := fun l J Jx W hW hJ _ hY h0 => by
  refine (eachPage1_in F n hF hro hn l Bs n₀ g o c f hs (fun pre V => ∃ pre' : List (PgOf f), pre'.map Subtype.val = pre ∧ J pre' V) (fun pre V => ∃ pre' : List (PgOf f), pre'.map Subtype.val = pre ∧ Jx pre' V) W (Nat.le_trans hn₀ hW.size)
    (fun s X Y row hs hg hr => by obtain ⟨p, e, h⟩ := hs; exact ⟨p, e, hJ p X Y row h hg hr⟩) (fun pre x W1 h1 h2 h3 => ?_) ((hW.cell (p := ⟨Bs, 0, none⟩) hB).trans hBs) hl hp (hBk.keep fun q hq hl => hW.block q (by omega)) hlow ⟨[], rfl, h0⟩).mono ?_
  · obtain ⟨pre', rfl, hj⟩ := h1
    refine (hY pre' ⟨x, h3.2⟩ W1 hj (by simpa using h2)).mono ?_
    rintro e V (⟨rfl, hj2, hk⟩ | ⟨rfl, hj2⟩)
    · exact .inl ⟨rfl, ⟨_, by simp, hj2⟩, hk⟩
    · exact .inr ⟨rfl, _, by simp, hj2⟩
  · rintro e V ⟨he, ⟨ys, rfl, pre', h1, h2⟩ | ⟨pre, h0, pre', rfl, h2⟩⟩
    · exact ⟨he, .inl ⟨pre', h1, h2⟩⟩
    · exact ⟨he, .inr ⟨pre', h0, h2⟩⟩
theorem page_of {f : List Bk} (h : flashOk f = true) (x : PgOf f) : pageOk x.1.2.2 = true := by
  obtain ⟨b, hb, hx⟩ := mem_all x.2
  exact (bk_parts h hb).2.2.2 _ hx
def lmOf {f : List Bk} (pre : List (PgOf f)) : Int → Option Rc := lastMap (pre.map Subtype.val)
theorem lmOf_snoc {f : List Bk} (pre : List (PgOf f)) (x : PgOf f) : lmOf (pre ++ [x]) = lmStep (lmOf pre) x.1 := by unfold lmOf; rw [List.map_append]; exact lastMap_snoc _ _
theorem rmap_kept {P : Program} {K : TypeId} {f : List Bk} (b n₀ : Nat) (hb : b < n₀) : OwnFrom n₀ (fun (pre : List (PgOf f)) W => RMap P K W b pre.length (lmOf pre)) := fun _ _ _ _ hs hg hr =>
  hs.kept hg (fun e => by have := (hr _ e.symm).1; omega)
set_option maxRecDepth 100000 in
set_option maxHeartbeats 4000000 in
theorem impl_lastRecords (f : List Bk) (A : Option Addr) (n c : Nat) (w : World) (hn : n = f.length) (hok : flashOk f = true) (hF : Fl w A f) :
    Calls Tryz.prog 42 #[.slice A n c] w fun e w' => e = .returned (.map (some w.heap.size)) ∧ RMap Tryz.prog 3 w' w.heap.size 16 (lastMap (allFrom 0 f)) ∧ Below w.heap.size w w' := by
  subst hn
  refine (callsIn_wide (n := 6)).1 ?_
  refine callsIn_of_wp_marks Tryz.func42 rfl trivial ?_ rfl
  simp only [Tryz.ntmps42, List.size_toArray, List.length_cons, List.length_nil, Nat.reduceAdd, Nat.reduceSub, Array.replicate_succ, Array.replicate_zero, List.push_toArray, List.append_toArray, List.nil_append, List.cons_append]
  have hmm := @run_makeMap Tryz.prog
  have hfd := field_seq
  have hfl := flashOk_len hok
  have HFL := Lib.hid hfl
  have HOK := Lib.hid hok
  have HP := Lib.hid (show ∀ b ∈ f, b.pages.length < 1000000000000 from fun b hb => by rw [(flashOk_shape hok b hb).1]; omega)
  have HPL := Lib.hid (fun b hb => (flashOk_shape hok b hb).1)
  have HAL := Lib.hid (all_len f 0 HPL.out)
  obtain ⟨hs, hBk⟩ := hF
  obtain ⟨g, o, rfl⟩ := hBk.addr (by intro e; have := HFL.out; rw [e] at this; simp at this)
  clear hfl hok
  gi_wp2_with (refine ⟨trivial, ?_⟩; gi_at_call 62; refine (eachPage_in Fence.wide _ trivial rfl _ _ _ _).mono ?_; rintro e w2 ⟨rfl, rfl⟩)
  have hlow : ∀ b, fblk (some ⟨g, o, none⟩) hs b → b < w.heap.size := fun b hb => by
    have h4 := HFL.out
    rcases hb with hb | ⟨i, x, hx, hb⟩
    · rw [blk_some] at hb
      subst hb
      obtain ⟨B, hB⟩ := get_some (l := f) (k := 0) (by omega)
      obtain ⟨_, _, c0, _⟩ := hBk.at_ hB
      exact lt_of_cell c0
    · obtain ⟨B, hB⟩ := get_some (l := f) (k := i) (by rw [← hBk.len]; exact (List.getElem?_eq_some_iff.1 hx).1)
      have hr := (hBk.pg i B x hB hx).1
      have hn : B.pages ≠ [] := by intro hn; have := HPL.out B (List.mem_of_getElem? hB); rw [hn] at this; simp at this
      obtain ⟨b', o', he, hc⟩ := hr (pgs_ne hn)
      rw [he, blk_some] at hb
      subst hb
      obtain ⟨q, hq⟩ := get_some (l := pgs B.pages) (k := 0) (by rw [pgs_len]; have := List.length_pos_iff.2 hn; omega)
      exact lt_of_cell (hc 0 q hq).1
  have hm0 := ((RMap.made Tryz.prog 3 w).alloc (.cells #[.map (some w.heap.size)] 73)).alloc (.cells #[.slice (some ⟨g, o, none⟩) f.length c] 24)
  have bS := (Boxed.new (w.alloc (.map #[] 0)) 73 (.map (some w.heap.size))).alloc (.cells #[.slice (some ⟨g, o, none⟩) f.length c] 24)
  have bA := Boxed.new ((w.alloc (.map #[] 0)).alloc (.cells #[.map (some w.heap.size)] 73)) 24 (.slice (some ⟨g, o, none⟩) f.length c)
  simp only [World.size_alloc] at bS bA
  have hB0 : Below w.heap.size w (((w.alloc (.map #[] 0)).alloc (.cells #[.map (some w.heap.size)] 73)).alloc (.cells #[.slice (some ⟨g, o, none⟩) f.length c] 24)) := (((Below.refl _ w).alloc (Nat.le_refl _) _).alloc (by simp) _).alloc (by simp; omega) _
  have hsz : (((w.alloc (.map #[] 0)).alloc (.cells #[.map (some w.heap.size)] 73)).alloc (.cells #[.slice (some ⟨g, o, none⟩) f.length c] 24)).heap.size = w.heap.size + 3 := by simp
  have hBk2 := ((hBk.alloc (.map #[] 0)).alloc (.cells #[.map (some w.heap.size)] 73)).alloc (.cells #[.slice (some ⟨g, o, none⟩) f.length c] 24)
  obtain ⟨W0, hW0⟩ : ∃ W0, ((w.alloc (.map #[] 0)).alloc (.cells #[.map (some w.heap.size)] 73)).alloc (.cells #[.slice (some ⟨g, o, none⟩) f.length c] 24) = W0 := ⟨_, rfl⟩
  rw [hW0] at bS bA hB0 hsz hBk2 hm0 ⊢
  have hl4 : f.length < 1000000000000 := by rw [HFL.out]; omega
  clear hW0 hBk
  refine wpIn_rangeFunc_ownH rfl (by omega) (gf := 81) (lb := #[.pointer (some ⟨w.heap.size + 1 + 1, 0, none⟩)]) rfl trivial (enters_of Tryz.func81 (by kernel_rfl) rfl)
    (eachPageF_stops Fence.wide _ trivial rfl (by omega) (w.heap.size + 1 + 1) w.heap.size g o c f hs W0 (by omega) (by omega) bA.cell hl4 HP.out hBk2 hlow) belowK_t (belowK_b (by omega)) (Below.refl _ _) (fun _ => rfl)
    (fun pre W => (Boxed W (w.heap.size + 1) 73 (.map (some w.heap.size)) ∧ RMap Tryz.prog 3 W w.heap.size pre.length (lmOf pre)) ∧ Below w.heap.size w W)
    (fun _ _ _ => False)
    (OwnFrom.and (OwnFrom.and (Own.from (boxed_own _ _ (fun _ => _)) _) (rmap_kept _ _ (by omega))) (ownFrom_below (Nat.le_refl _) (by omega)))
    (fun _ _ _ _ _ hs _ _ => hs)
    ⟨⟨bS, hm0⟩, hB0⟩
    (fun x a' W => ∃ Bx, w.heap.size + 1 < Bx ∧ Laid W Bx 71 (pgv x.1.2.2) ∧ a' = { tmps := #[.slice (some ⟨g, o, none⟩) f.length c, undef, .map none, .pointer (some ⟨w.heap.size + 1, 0, none⟩), undef, .pointer (some ⟨Bx, 0, none⟩), .map (some w.heap.size), .slice (some ⟨g, o, none⟩) f.length c, .func (.func 81) #[] #[.pointer (some ⟨w.heap.size + 1 + 1, 0, none⟩)], .agg #[.int .i64 (x.1.1 : Int), .int .i64 (x.1.2.1 : Int)], .agg (pgv x.1.2.2), undef, undef, undef, undef, undef, undef, undef, undef, undef, undef, undef, undef, undef, undef, undef, undef, undef, undef, undef, undef, undef, undef], defers := [] })
    (fun x a' _ X Y row hs hg hr => by obtain ⟨Bx, h1, h2, h3⟩ := hs; exact ⟨Bx, h1, laid_own Bx _ _ _ () X Y row h2 hg hr, h3⟩)
    ?assign ?body ?done ?stop
  case assign =>
    rintro l pre x W K ⟨⟨bS1, hR1⟩, hB1⟩ hK
    dsimp only [encP]
    gi_wp2
    exact hK _ _ ((KeepsOthers.alloc _ _).from _) ((Below.refl _ W).alloc hB1.size _) ⟨⟨bS1.alloc _, hR1.alloc _⟩, hB1.alloc hB1.size _⟩ ⟨W.heap.size, bS1.lt, World.alloc_heap_new W _, rfl⟩
  case body =>
    rintro l pre x a' W hl ⟨r, hr⟩ ⟨⟨bS1, hR1⟩, hB1⟩ ⟨Bx, hBx, bX, rfl⟩ hlt
    have hpk := page_of HOK.out x
    have cS := bS1.cell
    have x0 : W.cell? ⟨Bx, 0, none⟩ = some (.int .i64 x.1.2.2.state) := bX.cell 0 rfl
    have x1 : W.cell? ⟨Bx, 1, none⟩ = some (.int .i64 x.1.2.2.rc.kind) := bX.cell 1 rfl
    have x2 : W.cell? ⟨Bx, 2, none⟩ = some (.int .i64 x.1.2.2.rc.seq) := bX.cell 2 rfl
    have x3 : W.cell? ⟨Bx, 3, none⟩ = some (.int .i64 x.1.2.2.rc.addr) := bX.cell 3 rfl
    have x4 : W.cell? ⟨Bx, 4, none⟩ = some (.int .i64 x.1.2.2.rc.val) := bX.cell 4 rfl
    have hst : Hid (lmOf (pre ++ [x]) = lmStep (lmOf pre) x.1) := lmOf_snoc pre x
    have hll : (pre ++ [x]).length = pre.length + 1 := by simp
    by_cases h1 : x.1.2.2.state = 1
    · have hra := recOk_addr (rec_of_written hpk h1)
      have hwf := wf_int (k := x.1.2.2.rc.addr) (by omega)
      have hlk := hR1.look (t := 73) Tryz.underlying73 Tryz.underlying3 zero_rec hwf
      have hmax : pre.length < maxLen := by have := HAL.out; have := HFL.out; unfold maxLen; omega
      obtain ⟨w1, hrun, hR2, hg⟩ := hR1.put (t := 73) Tryz.underlying73 Tryz.underlying3 hmax x.1.2.2.rc hwf
      have HSM := Lib.hid (show lmStep (lmOf pre) x.1 = if (((lmOf pre) x.1.2.2.rc.addr).getD rc0).seq < x.1.2.2.rc.seq then (fun a => if a = x.1.2.2.rc.addr then some x.1.2.2.rc else lmOf pre a) else lmOf pre from by
        unfold lmStep
        by_cases hc : (((lmOf pre) x.1.2.2.rc.addr).getD rc0).seq < x.1.2.2.rc.seq
        · rw [if_pos ⟨h1, hc⟩, if_pos hc]
        · rw [if_neg (fun e => hc e.2), if_neg hc])
      unfold rcV at hlk hrun
      obtain ⟨es, ck, hmap⟩ := hR1.at_
      generalize ((lmOf pre) x.1.2.2.rc.addr).getD rc0 = q at *
      rw [h1] at x0
      clear h1 hra hwf hmax hpk
      by_cases hc : q.seq < x.1.2.2.rc.seq
      · have hH := HSM.out
        rw [if_pos hc] at hH
        replace HSM := Lib.hid hH
        have H2 := Lib.hid hR2
        have HM := Lib.hid hmap
        clear hH hmap hR2
        gi_wp2
        exact ⟨KeepsFrom.of_grownBy hg (fun j e => by cases e; omega), (Below.refl _ W).grown hg hB1.size (fun k e => by cases e; exact Nat.le_refl _),
          ⟨bS1.kept hg (fun e => by injection e with e; omega), by rw [hst.out, HSM.out, hll]; exact H2.out⟩, hB1.grown hg hB1.size (fun k e => by cases e; exact Nat.le_refl _)⟩
      · have hH := HSM.out
        rw [if_neg hc] at hH
        replace HSM := Lib.hid hH
        clear hH hmap hR2 hg hrun
        gi_wp2
        exact ⟨KeepsFrom.refl _ _, Below.refl _ _, ⟨bS1, by rw [hst.out, HSM.out]; exact hR1.mono (by omega)⟩, hB1⟩
    · have hH : lmStep (lmOf pre) x.1 = lmOf pre := by unfold lmStep; rw [if_neg (fun e => h1 e.1)]
      have HSM := Lib.hid hH
      have h1' : (x.1.2.2.state == 1) = false := by simpa using h1
      clear hH h1 hpk
      gi_wp2
      exact ⟨KeepsFrom.refl _ _, Below.refl _ _, ⟨bS1, by rw [hst.out, HSM.out]; exact hR1.mono (by omega)⟩, hB1⟩
  case done =>
    rintro D ys W hD hys ⟨⟨bS1, hR1⟩, hB1⟩ hK
    have cS := bS1.cell
    gi_wp2
    refine ⟨by simp, .inl ⟨_, _, rfl, run_takeDeferred hK, ?_⟩⟩
    have hyl : ys.length ≤ 16 := by have h1 := HAL.out; have h2 := HFL.out; rw [← hys, List.length_map] at h1; omega
    have hRf : RMap Tryz.prog 3 W w.heap.size 16 (lastMap (allFrom 0 f)) := by rw [← hys]; exact hR1.mono hyl
    exact ⟨_, results_tmp rfl _ _ _, rfl, hRf.kept (grownBy_putObj' _ D _) (fun e => by cases e; omega), hB1.trans (belowK_b (w := w) (Nat.le_refl _) W D _ _ (by omega) hK rfl rfl)⟩
  case stop =>
    rintro D c pre W _ _ h _
    exact h.elim
end Go.Proofs.YtohkoogmbfaceaaGreat
namespace Go.Proofs.YtohkoogmbfaceaaGreat
set_option linter.unusedVariables false
set_option linter.unusedSimpArgs false
open Go.RowKit Go.Maps
set_option maxHeartbeats 400000
def partGo : Nat → List Bk → Option Nat
  | _, [] => none
  | i, b :: r => if partly b = true then some i else partGo (i + 1) r
def bestGo (f : List Bk) : Nat → Nat → Bool → List Bk → Nat × Bool
  | _, best, found, [] => (best, found)
  | i, best, found, b :: r => if clean b = 4 ∧ (found = false ∨ b.worn < (f.getD best zbk).worn) then bestGo f (i + 1) i true r else bestGo f (i + 1) best found r
def openI (f : List Bk) : Int × Bool :=
  match partGo 0 f with
  | some i => ((i : Int), true)
  | none => (((bestGo f 0 0 false f).1 : Int), (bestGo f 0 0 false f).2)
theorem openGo_eq {f : List Bk} : ∀ (r : List Bk) (i best : Nat) (found : Bool) (out : Int), (∀ b ∈ r, b.pages.length = 4) → (found = false → best = 0 ∧ out = -1) → (found = true → out = best) →
    openGo f i out r = match partGo i r with
      | some j => ((j : Int), true)
      | none => (((bestGo f i best found r).1 : Int), (bestGo f i best found r).2)
  | [], i, best, found, out, _, h1, h2 => by
    cases found
    · obtain ⟨rfl, rfl⟩ := h1 rfl; rfl
    · obtain rfl := h2 rfl
      unfold openGo partGo bestGo
      simp
  | b :: r, i, best, found, out, hp, h1, h2 => by
    have hc := clean_le4 (hp b (List.mem_cons_self ..))
    have hp' : ∀ c ∈ r, c.pages.length = 4 := fun c hc => hp c (List.mem_cons_of_mem _ hc)
    unfold openGo partGo bestGo
    by_cases hpt : 0 < clean b ∧ clean b < 4
    · have hpb : partly b = true := by unfold partly; simp [hpt.1, hpt.2]
      rw [if_pos hpt, if_pos hpb]
    · have hpb : ¬ partly b = true := by unfold partly; simpa using hpt
      rw [if_neg hpt, if_neg hpb]
      by_cases h4 : clean b = 4 ∧ (found = false ∨ b.worn < (f.getD best zbk).worn)
      · have hcond : 0 < clean b ∧ (out < 0 ∨ b.worn < (f.getD out.toNat zbk).worn) := by
          refine ⟨by omega, ?_⟩
          cases found
          · obtain ⟨_, rfl⟩ := h1 rfl; exact .inl (by omega)
          · obtain rfl := h2 rfl
            rcases h4.2 with h | h
            · cases h
            · exact .inr (by rw [Int.toNat_natCast]; exact h)
        rw [if_pos hcond, if_pos h4]
        exact openGo_eq r (i + 1) i true i hp' (fun h => by cases h) (fun _ => rfl)
      · have hcond : ¬ (0 < clean b ∧ (out < 0 ∨ b.worn < (f.getD out.toNat zbk).worn)) := by
          rintro ⟨ha, hb⟩
          have hcl : clean b = 4 := by omega
          refine h4 ⟨hcl, ?_⟩
          cases found
          · exact .inl rfl
          · obtain rfl := h2 rfl
            rcases hb with hb | hb
            · omega
            · exact .inr (by rw [Int.toNat_natCast] at hb; exact hb)
        rw [if_neg hcond, if_neg h4]
        exact openGo_eq r (i + 1) best found out hp' h1 h2
theorem openI_eq {f : List Bk} (h : ∀ b ∈ f, b.pages.length = 4) : openB f = openI f := openGo_eq f 0 0 false (-1) h (fun _ => ⟨rfl, rfl⟩) (fun h => by cases h)
def findOpen (f : List Bk) : Int × Bool := if flashOk f = true then openB f else (0, false)
set_option maxHeartbeats 4000000 in
set_option maxRecDepth 100000 in
theorem impl_FindOpen (f : List Bk) (A : Option Addr) (n c : Nat) (w : World) (hn : n = f.length) (hF : Fl w A f) :
    Calls Tryz.prog 98 #[.slice A n c] w fun e w' => e = .returned (.tuple #[.int .i64 (findOpen f).1, .bool (findOpen f).2]) ∧ Below w.heap.size w w' := by
  subst hn
  go_enter Tryz.func98, Tryz.ntmps98
  go_wp2_with fail
  refine (impl_FlashOk f A c _ hF).mono ?_
  rintro e w1 ⟨rfl, hb1⟩
  have hF1 := hF.below hb1 (Nat.le_refl _)
  by_cases hok : flashOk f = true
  · have HSH := Lib.hid (fun b hb => (flashOk_shape hok b hb).1)
    have hfin : Hid (findOpen f = openI f) := by unfold Hid findOpen; rw [if_pos hok, openI_eq HSH.out]
    have HL := Lib.hid (flashOk_len hok)
    rw [hok]
    clear hok
    obtain ⟨hs, hBk⟩ := hF1
    obtain ⟨g, o, rfl⟩ := hBk.addr (by intro e; have := HL.out; rw [e] at this; simp at this)
    go_wp2
    go_loopw [15] (fun i wr => ∃ k : Nat, k ≤ f.length ∧ i = .int .i64 k ∧ Below w1.heap.size w1 wr ∧ Hid (partGo 0 f = partGo k (f.drop k))) (fun i _ => f.length - (intOf i).toNat)
    case atStart => exact ⟨0, by omega, rfl, Below.refl _ _, rfl⟩
    case round =>
      obtain ⟨k, hk, rfl, hB, hT⟩ := hrel
      by_cases hlt : k < f.length
      · obtain ⟨B, hb⟩ := get_some hlt
        obtain ⟨⟨Z, cz⟩, _, c0, c1, _, _, hR, _⟩ := (hBk.below hB (Nat.le_refl _)).at_ hb
        dsimp only at c0 hR
        have hpl : B.pages.length < 1000000000000 := by rw [HSH.out B (List.mem_of_getElem? hb)]; omega
        have hk1 : (k : Int) < f.length := by omega
        have hl4 := HL.out
        have e1 : IntKind.i64.wrap ((k : Int) + 1) = (k : Int) + 1 := IntWalk.i64_in _ (by omega)
        clear hl4
        have hT2 : Hid (partGo 0 f = if partly B = true then some k else partGo (k + 1) (f.drop (k + 1))) := by rw [Hid, hT.out, drop_cons hb]; rfl
        have hRa := hR.alloc (.cells #[.slice Z B.pages.length cz, .int .i64 B.worn] 59)
        have hBa : Below w1.heap.size w1 (wr.alloc (.cells #[.slice Z B.pages.length cz, .int .i64 B.worn] 59)) := hB.alloc hB.size _
        have hsz : (wr.alloc (.cells #[.slice Z B.pages.length cz, .int .i64 B.worn] 59)).heap.size = wr.heap.size + 1 := by simp
        clear hb hT
        go_wp2_with fail
        refine (impl_partlyUsed B Z _ cz _ rfl hpl hRa).mono ?_
        rintro e w2 ⟨rfl, hb2⟩
        have hB2 := hBa.trans (hb2.mono (by have := hB.size; omega))
        by_cases hpt : partly B = true
        · have h3 : Hid (openI f = ((k : Int), true)) := by rw [Hid]; unfold openI; rw [hT2.out, if_pos hpt]
          rw [hpt]
          go_wp2
          go_ret2
          exact ⟨by rw [hfin.out, h3.out]; rfl, hb1.trans (hB2.mono hb1.size)⟩
        · have h3 : Hid (partGo 0 f = partGo (k + 1) (f.drop (k + 1))) := by rw [Hid, hT2.out, if_neg hpt]
          rw [show partly B = false from by simpa using hpt]
          go_wp2
          go_roundw
          (case rel => exact ⟨k + 1, by omega, by go_num, hB2, h3⟩)
          (case measure => simp [intOf]; omega)
      · obtain rfl : k = f.length := by omega
        have hnone : Hid (openI f = (((bestGo f 0 0 false f).1 : Int), (bestGo f 0 0 false f).2)) := by
          rw [Hid]; unfold openI; rw [hT.out, List.drop_of_length_le (Nat.le_refl _)]; rfl
        clear hT
        have hl4 := HL.out
        have hfp : 0 < f.length := by omega
        clear hl4
        go_wp2
        go_loopw [6, 7, 26] (fun q u i wl => ∃ (k m : Nat) (fd : Bool), k ≤ f.length ∧ m < f.length ∧ i = .int .i64 k ∧ q = .int .i64 m ∧ u = .bool fd ∧ Below w1.heap.size w1 wl ∧ Hid (bestGo f 0 0 false f = bestGo f k m fd (f.drop k))) (fun _ _ i _ => f.length - (intOf i).toNat)
        case atStart => exact ⟨0, 0, false, by omega, hfp, rfl, rfl, rfl, hB, rfl⟩
        case round =>
          obtain ⟨k, m, fd, hk, hm, rfl, rfl, rfl, hBl, hT⟩ := hrel
          by_cases hlt : k < f.length
          · obtain ⟨B, hb⟩ := get_some hlt
            obtain ⟨Bm, hbm⟩ := get_some hm
            have hBkl := hBk.below hBl (Nat.le_refl _)
            obtain ⟨⟨Z, cz⟩, _, c0, c1, _, _, hR, _⟩ := hBkl.at_ hb
            obtain ⟨_, _, _, m1, _⟩ := hBkl.at_ hbm
            dsimp only at c0 hR
            have hpl : B.pages.length < 1000000000000 := by rw [HSH.out B (List.mem_of_getElem? hb)]; omega
            have hcl := clean_le4 (HSH.out B (List.mem_of_getElem? hb))
            have hgm : f.getD m zbk = Bm := by rw [List.getD_eq_getElem?_getD, hbm]; rfl
            have hT2 : Hid (bestGo f 0 0 false f = if clean B = 4 ∧ (fd = false ∨ B.worn < Bm.worn) then bestGo f (k + 1) k true (f.drop (k + 1)) else bestGo f (k + 1) m fd (f.drop (k + 1))) := by rw [Hid, hT.out, drop_cons hb, bestGo, hgm]
            have hk1 : (k : Int) < f.length := by omega
            have hm1 : (m : Int) < f.length := by omega
            clear hb hbm hgm hT hBkl
            have hl4 := HL.out
            have e1 : IntKind.i64.wrap ((k : Int) + 1) = (k : Int) + 1 := IntWalk.i64_in _ (by omega)
            clear hl4
            have hnw := Row.new wr #[.slice Z B.pages.length cz, .int .i64 B.worn] 59
            obtain ⟨y0, _⟩ := hnw.at0 (j := 0) rfl
            obtain ⟨y1, _⟩ := hnw.at0 (j := 1) rfl
            have l9 : wr.heap.size < (wr.alloc (.cells #[.slice Z B.pages.length cz, .int .i64 B.worn] 59)).heap.size := by simp
            have lg0 := lt_of_cell m1
            have y2 : (wr.alloc (.cells #[.slice Z B.pages.length cz, .int .i64 B.worn] 59)).cell? ⟨g, o + m * 2 + 1, none⟩ = some (.int .i64 Bm.worn) := (((Below.refl wr.heap.size wr).alloc (Nat.le_refl _) _).cell (p := ⟨g, o + m * 2 + 1, none⟩) lg0).trans m1
            have lg : g < (wr.alloc (.cells #[.slice Z B.pages.length cz, .int .i64 B.worn] 59)).heap.size := by omega
            have hRd := (hR.alloc (.cells #[.slice Z B.pages.length cz, .int .i64 B.worn] 59)).drew
            have hBa : Below w1.heap.size w1 (wr.alloc (.cells #[.slice Z B.pages.length cz, .int .i64 B.worn] 59)) := hBl.alloc hBl.size _
            have hsz := hBa.size
            clear hnw
            by_cases hq : clean B = 4
            · have HQ := Lib.hid hq
              cases fd
              · have h3 : Hid (bestGo f 0 0 false f = bestGo f (k + 1) k true (f.drop (k + 1))) := by rw [Hid, hT2.out, if_pos ⟨hq, .inl rfl⟩]
                clear hq
                go_wp2
                refine wp_region_held_drew (S := (fun w' => w'.cell? ⟨wr.heap.size, 0, none⟩ = some (.slice Z B.pages.length cz) ∧ w'.cell? ⟨wr.heap.size, 1, none⟩ = some (.int .i64 B.worn) ∧ w'.cell? ⟨g, o + m * 2 + 1, none⟩ = some (.int .i64 Bm.worn))) (by kernel_rfl) ⟨y0, y1, y2⟩ (fun hHeld => ?_)
                refine wpAnyH_take (i := 0) (v := ?va0) rfl (by kernel_rfl) (by kernel_rfl) (by kernel_rfl) (fun _ _ _ h => h) (Or.inl ⟨by rfl, ?ya0⟩) hHeld ?ra0
                case ya0 => (intro w' hS; (try dsimp only at hS); obtain ⟨s0, s1, s2⟩ := hS; (try go_simp); (try with_reducible rfl))
                try simp only [Act.put, List.getElem_toArray, List.getElem_cons_zero, List.getElem_cons_succ, List.setIfInBounds_toArray, List.set_cons_zero, List.set_cons_succ]
                refine wpAnyH_ready (rs := [1]) (by kernel_rfl) (by simp) ?_
                refine AllReadyH.cons rfl (fun K hK => ?_) AllReadyH.nil
                go_simp
                refine (impl_freePages B Z _ cz _ rfl hpl hRd).mono ?_
                rw [HQ.out]
                rintro e w10 ⟨rfl, hb10⟩
                replace hb10 := undrew hb10
                go_wp2_with fail
                refine hK.out _ _ ⟨(hb10.cell (p := ⟨wr.heap.size, 0, none⟩) l9).trans y0, (hb10.cell (p := ⟨wr.heap.size, 1, none⟩) l9).trans y1, (hb10.cell (p := ⟨g, o + m * 2 + 1, none⟩) lg).trans y2⟩ (fun hHeld2 => ?_)
                clear hK K
                try simp only [Act.put, List.getElem_toArray, List.getElem_cons_zero, List.getElem_cons_succ, List.setIfInBounds_toArray, List.set_cons_zero, List.set_cons_succ]
                refine wpAnyH_take (i := 2) (v := ?va2) rfl (by kernel_rfl) (by kernel_rfl) (by kernel_rfl) (fun _ _ _ h => h) (Or.inl ⟨by rfl, ?ya2⟩) hHeld2 ?ra2
                case ya2 => (intro w' hS; (try dsimp only at hS); obtain ⟨s0, s1, s2⟩ := hS; (try go_simp); (try with_reducible rfl))
                try simp only [Act.put, List.getElem_toArray, List.getElem_cons_zero, List.getElem_cons_succ, List.setIfInBounds_toArray, List.set_cons_zero, List.set_cons_succ]
                refine wpAnyH_take (i := 3) (v := ?va3) rfl (by kernel_rfl) (by kernel_rfl) (by kernel_rfl) (fun _ _ _ h => h) (Or.inl ⟨by rfl, ?ya3⟩) hHeld2 ?ra3
                case ya3 => (intro w' hS; (try dsimp only at hS); obtain ⟨s0, s1, s2⟩ := hS; (try go_simp); (try with_reducible rfl))
                try simp only [Act.put, List.getElem_toArray, List.getElem_cons_zero, List.getElem_cons_succ, List.setIfInBounds_toArray, List.set_cons_zero, List.set_cons_succ]
                refine wpAnyH_take (i := 4) (v := ?va4) rfl (by kernel_rfl) (by kernel_rfl) (by kernel_rfl) (fun _ _ _ h => h) (Or.inl ⟨by rfl, ?ya4⟩) hHeld2 ?ra4
                case ya4 => (intro w' hS; (try dsimp only at hS); obtain ⟨s0, s1, s2⟩ := hS; (try go_simp); (try with_reducible rfl))
                try simp only [Act.put, List.getElem_toArray, List.getElem_cons_zero, List.getElem_cons_succ, List.setIfInBounds_toArray, List.set_cons_zero, List.set_cons_succ]
                refine wpAnyH_take (i := 5) (v := ?va5) rfl (by kernel_rfl) (by kernel_rfl) (by kernel_rfl) (fun _ _ _ h => h) (Or.inl ⟨by rfl, ?ya5⟩) hHeld2 ?ra5
                case ya5 => (intro w' hS; (try dsimp only at hS); obtain ⟨s0, s1, s2⟩ := hS; (try go_simp); (try with_reducible rfl))
                try simp only [Act.put, List.getElem_toArray, List.getElem_cons_zero, List.getElem_cons_succ, List.setIfInBounds_toArray, List.set_cons_zero, List.set_cons_succ]
                refine wpAnyH_take (i := 6) (v := ?va6) rfl (by kernel_rfl) (by kernel_rfl) (by kernel_rfl) (fun _ _ _ h => h) (Or.inl ⟨by rfl, ?ya6⟩) hHeld2 ?ra6
                case ya6 => (intro w' hS; (try dsimp only at hS); obtain ⟨s0, s1, s2⟩ := hS; (try go_simp); (try with_reducible rfl))
                try simp only [Act.put, List.getElem_toArray, List.getElem_cons_zero, List.getElem_cons_succ, List.setIfInBounds_toArray, List.set_cons_zero, List.set_cons_succ]
                refine wpAnyH_take (i := 7) (v := undef) rfl (by kernel_rfl) (by kernel_rfl) (by kernel_rfl) (fun _ _ _ h => h) (Or.inr ⟨by rfl, rfl⟩) hHeld2 ?_
                try simp only [Act.put, List.getElem_toArray, List.getElem_cons_zero, List.getElem_cons_succ, List.setIfInBounds_toArray, List.set_cons_zero, List.set_cons_succ]
                refine wpAnyH_take (i := 8) (v := undef) rfl (by kernel_rfl) (by kernel_rfl) (by kernel_rfl) (fun _ _ _ h => h) (Or.inr ⟨by rfl, rfl⟩) hHeld2 ?_
                try simp only [Act.put, List.getElem_toArray, List.getElem_cons_zero, List.getElem_cons_succ, List.setIfInBounds_toArray, List.set_cons_zero, List.set_cons_succ]
                refine wpAnyH_take (i := 9) (v := undef) rfl (by kernel_rfl) (by kernel_rfl) (by kernel_rfl) (fun _ _ _ h => h) (Or.inr ⟨by rfl, rfl⟩) hHeld2 ?_
                try simp only [Act.put, List.getElem_toArray, List.getElem_cons_zero, List.getElem_cons_succ, List.setIfInBounds_toArray, List.set_cons_zero, List.set_cons_succ]
                refine wpAnyH_take (i := 10) (v := undef) rfl (by kernel_rfl) (by kernel_rfl) (by kernel_rfl) (fun _ _ _ h => h) (Or.inr ⟨by rfl, rfl⟩) hHeld2 ?_
                try simp only [Act.put, List.getElem_toArray, List.getElem_cons_zero, List.getElem_cons_succ, List.setIfInBounds_toArray, List.set_cons_zero, List.set_cons_succ]
                refine wpAnyH_take (i := 11) (v := undef) rfl (by kernel_rfl) (by kernel_rfl) (by kernel_rfl) (fun _ _ _ h => h) (Or.inr ⟨by rfl, rfl⟩) hHeld2 ?_
                try simp only [Act.put, List.getElem_toArray, List.getElem_cons_zero, List.getElem_cons_succ, List.setIfInBounds_toArray, List.set_cons_zero, List.set_cons_succ]
                refine wpAnyH_take (i := 12) (v := undef) rfl (by kernel_rfl) (by kernel_rfl) (by kernel_rfl) (fun _ _ _ h => h) (Or.inr ⟨by rfl, rfl⟩) hHeld2 ?_
                try simp only [Act.put, List.getElem_toArray, List.getElem_cons_zero, List.getElem_cons_succ, List.setIfInBounds_toArray, List.set_cons_zero, List.set_cons_succ]
                refine wpAnyH_take (i := 13) (v := undef) rfl (by kernel_rfl) (by kernel_rfl) (by kernel_rfl) (fun _ _ _ h => h) (Or.inr ⟨by rfl, rfl⟩) hHeld2 ?_
                try simp only [Act.put, List.getElem_toArray, List.getElem_cons_zero, List.getElem_cons_succ, List.setIfInBounds_toArray, List.set_cons_zero, List.set_cons_succ]
                refine wpAnyH_take (i := 14) (v := undef) rfl (by kernel_rfl) (by kernel_rfl) (by kernel_rfl) (fun _ _ _ h => h) (Or.inr ⟨by rfl, rfl⟩) hHeld2 ?_
                try simp only [Act.put, List.getElem_toArray, List.getElem_cons_zero, List.getElem_cons_succ, List.setIfInBounds_toArray, List.set_cons_zero, List.set_cons_succ]
                refine wpAnyH_take (i := 15) (v := ?va15) rfl (by kernel_rfl) (by kernel_rfl) (by kernel_rfl) (fun _ _ _ h => h) (Or.inl ⟨by rfl, ?ya15⟩) hHeld2 ?ra15
                case ya15 => (intro w' hS; (try dsimp only at hS); obtain ⟨s0, s1, s2⟩ := hS; (try go_simp); (try with_reducible rfl))
                try simp only [Act.put, List.getElem_toArray, List.getElem_cons_zero, List.getElem_cons_succ, List.setIfInBounds_toArray, List.set_cons_zero, List.set_cons_succ]
                refine wpAnyH_take (i := 16) (v := ?va16) rfl (by kernel_rfl) (by kernel_rfl) (by kernel_rfl) (fun _ _ _ h => h) (Or.inl ⟨by rfl, ?ya16⟩) hHeld2 ?ra16
                case ya16 => (intro w' hS; (try dsimp only at hS); obtain ⟨s0, s1, s2⟩ := hS; (try go_simp); (try with_reducible rfl))
                try simp only [Act.put, List.getElem_toArray, List.getElem_cons_zero, List.getElem_cons_succ, List.setIfInBounds_toArray, List.set_cons_zero, List.set_cons_succ]
                refine wpAnyH_done (by kernel_rfl) ?_ _
                have hB10 := hBa.trans (hb10.mono hsz)
                clear y0 y1 y2 hb10
                go_wp2
                go_roundw
                (case rel => exact ⟨k + 1, k, true, by omega, by omega, by go_num, rfl, rfl, hB10, h3⟩)
                (case measure => simp [intOf]; omega)
              · by_cases hwn : B.worn < Bm.worn
                · have h3 : Hid (bestGo f 0 0 false f = bestGo f (k + 1) k true (f.drop (k + 1))) := by rw [Hid, hT2.out, if_pos ⟨hq, .inr hwn⟩]
                  clear hq
                  go_wp2
                  refine wp_region_held_drew (S := (fun w' => w'.cell? ⟨wr.heap.size, 0, none⟩ = some (.slice Z B.pages.length cz) ∧ w'.cell? ⟨wr.heap.size, 1, none⟩ = some (.int .i64 B.worn) ∧ w'.cell? ⟨g, o + m * 2 + 1, none⟩ = some (.int .i64 Bm.worn))) (by kernel_rfl) ⟨y0, y1, y2⟩ (fun hHeld => ?_)
                  refine wpAnyH_take (i := 0) (v := ?vb0) rfl (by kernel_rfl) (by kernel_rfl) (by kernel_rfl) (fun _ _ _ h => h) (Or.inl ⟨by rfl, ?yb0⟩) hHeld ?rb0
                  case yb0 => (intro w' hS; (try dsimp only at hS); obtain ⟨s0, s1, s2⟩ := hS; (try go_simp); (try with_reducible rfl))
                  try simp only [Act.put, List.getElem_toArray, List.getElem_cons_zero, List.getElem_cons_succ, List.setIfInBounds_toArray, List.set_cons_zero, List.set_cons_succ]
                  refine wpAnyH_ready (rs := [1]) (by kernel_rfl) (by simp) ?_
                  refine AllReadyH.cons rfl (fun K hK => ?_) AllReadyH.nil
                  go_simp
                  refine (impl_freePages B Z _ cz _ rfl hpl hRd).mono ?_
                  rw [HQ.out]
                  rintro e w10 ⟨rfl, hb10⟩
                  replace hb10 := undrew hb10
                  go_wp2_with fail
                  refine hK.out _ _ ⟨(hb10.cell (p := ⟨wr.heap.size, 0, none⟩) l9).trans y0, (hb10.cell (p := ⟨wr.heap.size, 1, none⟩) l9).trans y1, (hb10.cell (p := ⟨g, o + m * 2 + 1, none⟩) lg).trans y2⟩ (fun hHeld2 => ?_)
                  clear hK K
                  try simp only [Act.put, List.getElem_toArray, List.getElem_cons_zero, List.getElem_cons_succ, List.setIfInBounds_toArray, List.set_cons_zero, List.set_cons_succ]
                  refine wpAnyH_take (i := 2) (v := ?vb2) rfl (by kernel_rfl) (by kernel_rfl) (by kernel_rfl) (fun _ _ _ h => h) (Or.inl ⟨by rfl, ?yb2⟩) hHeld2 ?rb2
                  case yb2 => (intro w' hS; (try dsimp only at hS); obtain ⟨s0, s1, s2⟩ := hS; (try go_simp); (try with_reducible rfl))
                  try simp only [Act.put, List.getElem_toArray, List.getElem_cons_zero, List.getElem_cons_succ, List.setIfInBounds_toArray, List.set_cons_zero, List.set_cons_succ]
                  refine wpAnyH_take (i := 3) (v := ?vb3) rfl (by kernel_rfl) (by kernel_rfl) (by kernel_rfl) (fun _ _ _ h => h) (Or.inl ⟨by rfl, ?yb3⟩) hHeld2 ?rb3
                  case yb3 => (intro w' hS; (try dsimp only at hS); obtain ⟨s0, s1, s2⟩ := hS; (try go_simp); (try with_reducible rfl))
                  try simp only [Act.put, List.getElem_toArray, List.getElem_cons_zero, List.getElem_cons_succ, List.setIfInBounds_toArray, List.set_cons_zero, List.set_cons_succ]
                  refine wpAnyH_take (i := 4) (v := ?vb4) rfl (by kernel_rfl) (by kernel_rfl) (by kernel_rfl) (fun _ _ _ h => h) (Or.inl ⟨by rfl, ?yb4⟩) hHeld2 ?rb4
                  case yb4 => (intro w' hS; (try dsimp only at hS); obtain ⟨s0, s1, s2⟩ := hS; (try go_simp); (try with_reducible rfl))
                  try simp only [Act.put, List.getElem_toArray, List.getElem_cons_zero, List.getElem_cons_succ, List.setIfInBounds_toArray, List.set_cons_zero, List.set_cons_succ]
                  refine wpAnyH_take (i := 5) (v := ?vb5) rfl (by kernel_rfl) (by kernel_rfl) (by kernel_rfl) (fun _ _ _ h => h) (Or.inl ⟨by rfl, ?yb5⟩) hHeld2 ?rb5
                  case yb5 => (intro w' hS; (try dsimp only at hS); obtain ⟨s0, s1, s2⟩ := hS; (try go_simp); (try with_reducible rfl))
                  try simp only [Act.put, List.getElem_toArray, List.getElem_cons_zero, List.getElem_cons_succ, List.setIfInBounds_toArray, List.set_cons_zero, List.set_cons_succ]
                  refine wpAnyH_take (i := 6) (v := ?vb6) rfl (by kernel_rfl) (by kernel_rfl) (by kernel_rfl) (fun _ _ _ h => h) (Or.inl ⟨by rfl, ?yb6⟩) hHeld2 ?rb6
                  case yb6 => (intro w' hS; (try dsimp only at hS); obtain ⟨s0, s1, s2⟩ := hS; (try go_simp); (try with_reducible rfl))
                  try simp only [Act.put, List.getElem_toArray, List.getElem_cons_zero, List.getElem_cons_succ, List.setIfInBounds_toArray, List.set_cons_zero, List.set_cons_succ]
                  refine wpAnyH_take (i := 7) (v := ?vb7) rfl (by kernel_rfl) (by kernel_rfl) (by kernel_rfl) (fun _ _ _ h => h) (Or.inl ⟨by rfl, ?yb7⟩) hHeld2 ?rb7
                  case yb7 => (intro w' hS; (try dsimp only at hS); obtain ⟨s0, s1, s2⟩ := hS; (try go_simp); (try with_reducible rfl))
                  try simp only [Act.put, List.getElem_toArray, List.getElem_cons_zero, List.getElem_cons_succ, List.setIfInBounds_toArray, List.set_cons_zero, List.set_cons_succ]
                  refine wpAnyH_take (i := 8) (v := ?vb8) rfl (by kernel_rfl) (by kernel_rfl) (by kernel_rfl) (fun _ _ _ h => h) (Or.inl ⟨by rfl, ?yb8⟩) hHeld2 ?rb8
                  case yb8 => (intro w' hS; (try dsimp only at hS); obtain ⟨s0, s1, s2⟩ := hS; (try go_simp); (try with_reducible rfl))
                  try simp only [Act.put, List.getElem_toArray, List.getElem_cons_zero, List.getElem_cons_succ, List.setIfInBounds_toArray, List.set_cons_zero, List.set_cons_succ]
                  refine wpAnyH_take (i := 9) (v := ?vb9) rfl (by kernel_rfl) (by kernel_rfl) (by kernel_rfl) (fun _ _ _ h => h) (Or.inl ⟨by rfl, ?yb9⟩) hHeld2 ?rb9
                  case yb9 => (intro w' hS; (try dsimp only at hS); obtain ⟨s0, s1, s2⟩ := hS; (try go_simp); (try with_reducible rfl))
                  try simp only [Act.put, List.getElem_toArray, List.getElem_cons_zero, List.getElem_cons_succ, List.setIfInBounds_toArray, List.set_cons_zero, List.set_cons_succ]
                  refine wpAnyH_take (i := 10) (v := ?vb10) rfl (by kernel_rfl) (by kernel_rfl) (by kernel_rfl) (fun _ _ _ h => h) (Or.inl ⟨by rfl, ?yb10⟩) hHeld2 ?rb10
                  case yb10 => (intro w' hS; (try dsimp only at hS); obtain ⟨s0, s1, s2⟩ := hS; (try go_simp); (try with_reducible rfl))
                  try simp only [Act.put, List.getElem_toArray, List.getElem_cons_zero, List.getElem_cons_succ, List.setIfInBounds_toArray, List.set_cons_zero, List.set_cons_succ]
                  refine wpAnyH_take (i := 11) (v := ?vb11) rfl (by kernel_rfl) (by kernel_rfl) (by kernel_rfl) (fun _ _ _ h => h) (Or.inl ⟨by rfl, ?yb11⟩) hHeld2 ?rb11
                  case yb11 => (intro w' hS; (try dsimp only at hS); obtain ⟨s0, s1, s2⟩ := hS; (try go_simp); (try with_reducible rfl))
                  try simp only [Act.put, List.getElem_toArray, List.getElem_cons_zero, List.getElem_cons_succ, List.setIfInBounds_toArray, List.set_cons_zero, List.set_cons_succ]
                  refine wpAnyH_take (i := 12) (v := ?vb12) rfl (by kernel_rfl) (by kernel_rfl) (by kernel_rfl) (fun _ _ _ h => h) (Or.inl ⟨by rfl, ?yb12⟩) hHeld2 ?rb12
                  case yb12 => (intro w' hS; (try dsimp only at hS); obtain ⟨s0, s1, s2⟩ := hS; (try go_simp); (try with_reducible rfl))
                  try simp only [Act.put, List.getElem_toArray, List.getElem_cons_zero, List.getElem_cons_succ, List.setIfInBounds_toArray, List.set_cons_zero, List.set_cons_succ]
                  refine wpAnyH_take (i := 13) (v := ?vb13) rfl (by kernel_rfl) (by kernel_rfl) (by kernel_rfl) (fun _ _ _ h => h) (Or.inl ⟨by rfl, ?yb13⟩) hHeld2 ?rb13
                  case yb13 => (intro w' hS; (try dsimp only at hS); obtain ⟨s0, s1, s2⟩ := hS; (try go_simp); (try with_reducible rfl))
                  try simp only [Act.put, List.getElem_toArray, List.getElem_cons_zero, List.getElem_cons_succ, List.setIfInBounds_toArray, List.set_cons_zero, List.set_cons_succ]
                  refine wpAnyH_take (i := 14) (v := ?vb14) rfl (by kernel_rfl) (by kernel_rfl) (by kernel_rfl) (fun _ _ _ h => h) (Or.inl ⟨by rfl, ?yb14⟩) hHeld2 ?rb14
                  case yb14 => (intro w' hS; (try dsimp only at hS); obtain ⟨s0, s1, s2⟩ := hS; (try go_simp); (try with_reducible rfl))
                  try simp only [Act.put, List.getElem_toArray, List.getElem_cons_zero, List.getElem_cons_succ, List.setIfInBounds_toArray, List.set_cons_zero, List.set_cons_succ]
                  refine wpAnyH_take (i := 15) (v := ?vb15) rfl (by kernel_rfl) (by kernel_rfl) (by kernel_rfl) (fun _ _ _ h => h) (Or.inl ⟨by rfl, ?yb15⟩) hHeld2 ?rb15
                  case yb15 => (intro w' hS; (try dsimp only at hS); obtain ⟨s0, s1, s2⟩ := hS; (try go_simp); (try with_reducible rfl))
                  try simp only [Act.put, List.getElem_toArray, List.getElem_cons_zero, List.getElem_cons_succ, List.setIfInBounds_toArray, List.set_cons_zero, List.set_cons_succ]
                  refine wpAnyH_take (i := 16) (v := ?vb16) rfl (by kernel_rfl) (by kernel_rfl) (by kernel_rfl) (fun _ _ _ h => h) (Or.inl ⟨by rfl, ?yb16⟩) hHeld2 ?rb16
                  case yb16 => (intro w' hS; (try dsimp only at hS); obtain ⟨s0, s1, s2⟩ := hS; (try go_simp); (try with_reducible rfl))
                  try simp only [Act.put, List.getElem_toArray, List.getElem_cons_zero, List.getElem_cons_succ, List.setIfInBounds_toArray, List.set_cons_zero, List.set_cons_succ]
                  refine wpAnyH_done (by kernel_rfl) ?_ _
                  have hB10 := hBa.trans (hb10.mono hsz)
                  clear y0 y1 y2 hb10
                  go_wp2
                  go_roundw
                  (case rel => exact ⟨k + 1, k, true, by omega, by omega, by go_num, rfl, rfl, hB10, h3⟩)
                  (case measure => simp [intOf]; omega)
                · have h3 : Hid (bestGo f 0 0 false f = bestGo f (k + 1) m true (f.drop (k + 1))) := by rw [Hid, hT2.out, if_neg (by rintro ⟨_, h | h⟩; cases h; exact hwn h)]
                  clear hq
                  go_wp2
                  refine wp_region_held_drew (S := (fun w' => w'.cell? ⟨wr.heap.size, 0, none⟩ = some (.slice Z B.pages.length cz) ∧ w'.cell? ⟨wr.heap.size, 1, none⟩ = some (.int .i64 B.worn) ∧ w'.cell? ⟨g, o + m * 2 + 1, none⟩ = some (.int .i64 Bm.worn))) (by kernel_rfl) ⟨y0, y1, y2⟩ (fun hHeld => ?_)
                  refine wpAnyH_take (i := 0) (v := ?vc0) rfl (by kernel_rfl) (by kernel_rfl) (by kernel_rfl) (fun _ _ _ h => h) (Or.inl ⟨by rfl, ?yc0⟩) hHeld ?rc0
                  case yc0 => (intro w' hS; (try dsimp only at hS); obtain ⟨s0, s1, s2⟩ := hS; (try go_simp); (try with_reducible rfl))
                  try simp only [Act.put, List.getElem_toArray, List.getElem_cons_zero, List.getElem_cons_succ, List.setIfInBounds_toArray, List.set_cons_zero, List.set_cons_succ]
                  refine wpAnyH_ready (rs := [1]) (by kernel_rfl) (by simp) ?_
                  refine AllReadyH.cons rfl (fun K hK => ?_) AllReadyH.nil
                  go_simp
                  refine (impl_freePages B Z _ cz _ rfl hpl hRd).mono ?_
                  rw [HQ.out]
                  rintro e w10 ⟨rfl, hb10⟩
                  replace hb10 := undrew hb10
                  go_wp2_with fail
                  refine hK.out _ _ ⟨(hb10.cell (p := ⟨wr.heap.size, 0, none⟩) l9).trans y0, (hb10.cell (p := ⟨wr.heap.size, 1, none⟩) l9).trans y1, (hb10.cell (p := ⟨g, o + m * 2 + 1, none⟩) lg).trans y2⟩ (fun hHeld2 => ?_)
                  clear hK K
                  try simp only [Act.put, List.getElem_toArray, List.getElem_cons_zero, List.getElem_cons_succ, List.setIfInBounds_toArray, List.set_cons_zero, List.set_cons_succ]
                  refine wpAnyH_take (i := 2) (v := ?vc2) rfl (by kernel_rfl) (by kernel_rfl) (by kernel_rfl) (fun _ _ _ h => h) (Or.inl ⟨by rfl, ?yc2⟩) hHeld2 ?rc2
                  case yc2 => (intro w' hS; (try dsimp only at hS); obtain ⟨s0, s1, s2⟩ := hS; (try go_simp); (try with_reducible rfl))
                  try simp only [Act.put, List.getElem_toArray, List.getElem_cons_zero, List.getElem_cons_succ, List.setIfInBounds_toArray, List.set_cons_zero, List.set_cons_succ]
                  refine wpAnyH_take (i := 3) (v := ?vc3) rfl (by kernel_rfl) (by kernel_rfl) (by kernel_rfl) (fun _ _ _ h => h) (Or.inl ⟨by rfl, ?yc3⟩) hHeld2 ?rc3
                  case yc3 => (intro w' hS; (try dsimp only at hS); obtain ⟨s0, s1, s2⟩ := hS; (try go_simp); (try with_reducible rfl))
                  try simp only [Act.put, List.getElem_toArray, List.getElem_cons_zero, List.getElem_cons_succ, List.setIfInBounds_toArray, List.set_cons_zero, List.set_cons_succ]
                  refine wpAnyH_take (i := 4) (v := ?vc4) rfl (by kernel_rfl) (by kernel_rfl) (by kernel_rfl) (fun _ _ _ h => h) (Or.inl ⟨by rfl, ?yc4⟩) hHeld2 ?rc4
                  case yc4 => (intro w' hS; (try dsimp only at hS); obtain ⟨s0, s1, s2⟩ := hS; (try go_simp); (try with_reducible rfl))
                  try simp only [Act.put, List.getElem_toArray, List.getElem_cons_zero, List.getElem_cons_succ, List.setIfInBounds_toArray, List.set_cons_zero, List.set_cons_succ]
                  refine wpAnyH_take (i := 5) (v := ?vc5) rfl (by kernel_rfl) (by kernel_rfl) (by kernel_rfl) (fun _ _ _ h => h) (Or.inl ⟨by rfl, ?yc5⟩) hHeld2 ?rc5
                  case yc5 => (intro w' hS; (try dsimp only at hS); obtain ⟨s0, s1, s2⟩ := hS; (try go_simp); (try with_reducible rfl))
                  try simp only [Act.put, List.getElem_toArray, List.getElem_cons_zero, List.getElem_cons_succ, List.setIfInBounds_toArray, List.set_cons_zero, List.set_cons_succ]
                  refine wpAnyH_take (i := 6) (v := ?vc6) rfl (by kernel_rfl) (by kernel_rfl) (by kernel_rfl) (fun _ _ _ h => h) (Or.inl ⟨by rfl, ?yc6⟩) hHeld2 ?rc6
                  case yc6 => (intro w' hS; (try dsimp only at hS); obtain ⟨s0, s1, s2⟩ := hS; (try go_simp); (try with_reducible rfl))
                  try simp only [Act.put, List.getElem_toArray, List.getElem_cons_zero, List.getElem_cons_succ, List.setIfInBounds_toArray, List.set_cons_zero, List.set_cons_succ]
                  refine wpAnyH_take (i := 7) (v := ?vc7) rfl (by kernel_rfl) (by kernel_rfl) (by kernel_rfl) (fun _ _ _ h => h) (Or.inl ⟨by rfl, ?yc7⟩) hHeld2 ?rc7
                  case yc7 => (intro w' hS; (try dsimp only at hS); obtain ⟨s0, s1, s2⟩ := hS; (try go_simp); (try with_reducible rfl))
                  try simp only [Act.put, List.getElem_toArray, List.getElem_cons_zero, List.getElem_cons_succ, List.setIfInBounds_toArray, List.set_cons_zero, List.set_cons_succ]
                  refine wpAnyH_take (i := 8) (v := ?vc8) rfl (by kernel_rfl) (by kernel_rfl) (by kernel_rfl) (fun _ _ _ h => h) (Or.inl ⟨by rfl, ?yc8⟩) hHeld2 ?rc8
                  case yc8 => (intro w' hS; (try dsimp only at hS); obtain ⟨s0, s1, s2⟩ := hS; (try go_simp); (try with_reducible rfl))
                  try simp only [Act.put, List.getElem_toArray, List.getElem_cons_zero, List.getElem_cons_succ, List.setIfInBounds_toArray, List.set_cons_zero, List.set_cons_succ]
                  refine wpAnyH_take (i := 9) (v := ?vc9) rfl (by kernel_rfl) (by kernel_rfl) (by kernel_rfl) (fun _ _ _ h => h) (Or.inl ⟨by rfl, ?yc9⟩) hHeld2 ?rc9
                  case yc9 => (intro w' hS; (try dsimp only at hS); obtain ⟨s0, s1, s2⟩ := hS; (try go_simp); (try with_reducible rfl))
                  try simp only [Act.put, List.getElem_toArray, List.getElem_cons_zero, List.getElem_cons_succ, List.setIfInBounds_toArray, List.set_cons_zero, List.set_cons_succ]
                  refine wpAnyH_take (i := 10) (v := ?vc10) rfl (by kernel_rfl) (by kernel_rfl) (by kernel_rfl) (fun _ _ _ h => h) (Or.inl ⟨by rfl, ?yc10⟩) hHeld2 ?rc10
                  case yc10 => (intro w' hS; (try dsimp only at hS); obtain ⟨s0, s1, s2⟩ := hS; (try go_simp); (try with_reducible rfl))
                  try simp only [Act.put, List.getElem_toArray, List.getElem_cons_zero, List.getElem_cons_succ, List.setIfInBounds_toArray, List.set_cons_zero, List.set_cons_succ]
                  refine wpAnyH_take (i := 11) (v := ?vc11) rfl (by kernel_rfl) (by kernel_rfl) (by kernel_rfl) (fun _ _ _ h => h) (Or.inl ⟨by rfl, ?yc11⟩) hHeld2 ?rc11
                  case yc11 => (intro w' hS; (try dsimp only at hS); obtain ⟨s0, s1, s2⟩ := hS; (try go_simp); (try with_reducible rfl))
                  try simp only [Act.put, List.getElem_toArray, List.getElem_cons_zero, List.getElem_cons_succ, List.setIfInBounds_toArray, List.set_cons_zero, List.set_cons_succ]
                  refine wpAnyH_take (i := 12) (v := ?vc12) rfl (by kernel_rfl) (by kernel_rfl) (by kernel_rfl) (fun _ _ _ h => h) (Or.inl ⟨by rfl, ?yc12⟩) hHeld2 ?rc12
                  case yc12 => (intro w' hS; (try dsimp only at hS); obtain ⟨s0, s1, s2⟩ := hS; (try go_simp); (try with_reducible rfl))
                  try simp only [Act.put, List.getElem_toArray, List.getElem_cons_zero, List.getElem_cons_succ, List.setIfInBounds_toArray, List.set_cons_zero, List.set_cons_succ]
                  refine wpAnyH_take (i := 13) (v := ?vc13) rfl (by kernel_rfl) (by kernel_rfl) (by kernel_rfl) (fun _ _ _ h => h) (Or.inl ⟨by rfl, ?yc13⟩) hHeld2 ?rc13
                  case yc13 => (intro w' hS; (try dsimp only at hS); obtain ⟨s0, s1, s2⟩ := hS; (try go_simp); (try with_reducible rfl))
                  try simp only [Act.put, List.getElem_toArray, List.getElem_cons_zero, List.getElem_cons_succ, List.setIfInBounds_toArray, List.set_cons_zero, List.set_cons_succ]
                  refine wpAnyH_take (i := 14) (v := ?vc14) rfl (by kernel_rfl) (by kernel_rfl) (by kernel_rfl) (fun _ _ _ h => h) (Or.inl ⟨by rfl, ?yc14⟩) hHeld2 ?rc14
                  case yc14 => (intro w' hS; (try dsimp only at hS); obtain ⟨s0, s1, s2⟩ := hS; (try go_simp); (try with_reducible rfl))
                  try simp only [Act.put, List.getElem_toArray, List.getElem_cons_zero, List.getElem_cons_succ, List.setIfInBounds_toArray, List.set_cons_zero, List.set_cons_succ]
                  refine wpAnyH_take (i := 15) (v := ?vc15) rfl (by kernel_rfl) (by kernel_rfl) (by kernel_rfl) (fun _ _ _ h => h) (Or.inl ⟨by rfl, ?yc15⟩) hHeld2 ?rc15
                  case yc15 => (intro w' hS; (try dsimp only at hS); obtain ⟨s0, s1, s2⟩ := hS; (try go_simp); (try with_reducible rfl))
                  try simp only [Act.put, List.getElem_toArray, List.getElem_cons_zero, List.getElem_cons_succ, List.setIfInBounds_toArray, List.set_cons_zero, List.set_cons_succ]
                  refine wpAnyH_take (i := 16) (v := ?vc16) rfl (by kernel_rfl) (by kernel_rfl) (by kernel_rfl) (fun _ _ _ h => h) (Or.inl ⟨by rfl, ?yc16⟩) hHeld2 ?rc16
                  case yc16 => (intro w' hS; (try dsimp only at hS); obtain ⟨s0, s1, s2⟩ := hS; (try go_simp); (try with_reducible rfl))
                  try simp only [Act.put, List.getElem_toArray, List.getElem_cons_zero, List.getElem_cons_succ, List.setIfInBounds_toArray, List.set_cons_zero, List.set_cons_succ]
                  refine wpAnyH_done (by kernel_rfl) ?_ _
                  have hB10 := hBa.trans (hb10.mono hsz)
                  clear y0 y1 y2 hb10
                  go_wp2
                  go_roundw
                  (case rel => exact ⟨k + 1, m, true, by omega, hm, by go_num, rfl, rfl, hB10, h3⟩)
                  (case measure => simp [intOf]; omega)
            · have h3 : Hid (bestGo f 0 0 false f = bestGo f (k + 1) m fd (f.drop (k + 1))) := by rw [Hid, hT2.out, if_neg (fun h => hq h.1)]
              have e4 : ((clean B : Int) == 4) = false := by rw [beq_eq_false_iff_ne]; omega
              clear hq
              go_wp2
              refine wp_region_held_drew (S := (fun w' => w'.cell? ⟨wr.heap.size, 0, none⟩ = some (.slice Z B.pages.length cz) ∧ w'.cell? ⟨wr.heap.size, 1, none⟩ = some (.int .i64 B.worn) ∧ w'.cell? ⟨g, o + m * 2 + 1, none⟩ = some (.int .i64 Bm.worn))) (by kernel_rfl) ⟨y0, y1, y2⟩ (fun hHeld => ?_)
              refine wpAnyH_take (i := 0) (v := ?vd0) rfl (by kernel_rfl) (by kernel_rfl) (by kernel_rfl) (fun _ _ _ h => h) (Or.inl ⟨by rfl, ?yd0⟩) hHeld ?rd0
              case yd0 => (intro w' hS; (try dsimp only at hS); obtain ⟨s0, s1, s2⟩ := hS; (try go_simp); (try with_reducible rfl))
              try simp only [Act.put, List.getElem_toArray, List.getElem_cons_zero, List.getElem_cons_succ, List.setIfInBounds_toArray, List.set_cons_zero, List.set_cons_succ]
              refine wpAnyH_ready (rs := [1]) (by kernel_rfl) (by simp) ?_
              refine AllReadyH.cons rfl (fun K hK => ?_) AllReadyH.nil
              go_simp
              refine (impl_freePages B Z _ cz _ rfl hpl hRd).mono ?_
              rintro e w10 ⟨rfl, hb10⟩
              replace hb10 := undrew hb10
              go_wp2_with fail
              refine hK.out _ _ ⟨(hb10.cell (p := ⟨wr.heap.size, 0, none⟩) l9).trans y0, (hb10.cell (p := ⟨wr.heap.size, 1, none⟩) l9).trans y1, (hb10.cell (p := ⟨g, o + m * 2 + 1, none⟩) lg).trans y2⟩ (fun hHeld2 => ?_)
              clear hK K
              try simp only [Act.put, List.getElem_toArray, List.getElem_cons_zero, List.getElem_cons_succ, List.setIfInBounds_toArray, List.set_cons_zero, List.set_cons_succ]
              refine wpAnyH_take (i := 2) (v := ?vd2) rfl (by kernel_rfl) (by kernel_rfl) (by kernel_rfl) (fun _ _ _ h => h) (Or.inl ⟨by rfl, ?yd2⟩) hHeld2 ?rd2
              case yd2 => (intro w' hS; (try dsimp only at hS); obtain ⟨s0, s1, s2⟩ := hS; (try go_simp); (try with_reducible rfl))
              try simp only [Act.put, List.getElem_toArray, List.getElem_cons_zero, List.getElem_cons_succ, List.setIfInBounds_toArray, List.set_cons_zero, List.set_cons_succ]
              refine wpAnyH_take (i := 3) (v := ?vd3) rfl (by kernel_rfl) (by kernel_rfl) (by kernel_rfl) (fun _ _ _ h => h) (Or.inl ⟨by rfl, ?yd3⟩) hHeld2 ?rd3
              case yd3 => (intro w' hS; (try dsimp only at hS); obtain ⟨s0, s1, s2⟩ := hS; (try go_simp); (try with_reducible rfl))
              try simp only [Act.put, List.getElem_toArray, List.getElem_cons_zero, List.getElem_cons_succ, List.setIfInBounds_toArray, List.set_cons_zero, List.set_cons_succ]
              refine wpAnyH_take (i := 4) (v := undef) rfl (by kernel_rfl) (by kernel_rfl) (by kernel_rfl) (fun _ _ _ h => h) (Or.inr ⟨by rfl, rfl⟩) hHeld2 ?_
              try simp only [Act.put, List.getElem_toArray, List.getElem_cons_zero, List.getElem_cons_succ, List.setIfInBounds_toArray, List.set_cons_zero, List.set_cons_succ]
              refine wpAnyH_take (i := 5) (v := undef) rfl (by kernel_rfl) (by kernel_rfl) (by kernel_rfl) (fun _ _ _ h => h) (Or.inr ⟨by rfl, rfl⟩) hHeld2 ?_
              try simp only [Act.put, List.getElem_toArray, List.getElem_cons_zero, List.getElem_cons_succ, List.setIfInBounds_toArray, List.set_cons_zero, List.set_cons_succ]
              refine wpAnyH_take (i := 6) (v := undef) rfl (by kernel_rfl) (by kernel_rfl) (by kernel_rfl) (fun _ _ _ h => h) (Or.inr ⟨by rfl, rfl⟩) hHeld2 ?_
              try simp only [Act.put, List.getElem_toArray, List.getElem_cons_zero, List.getElem_cons_succ, List.setIfInBounds_toArray, List.set_cons_zero, List.set_cons_succ]
              refine wpAnyH_take (i := 7) (v := undef) rfl (by kernel_rfl) (by kernel_rfl) (by kernel_rfl) (fun _ _ _ h => h) (Or.inr ⟨by rfl, rfl⟩) hHeld2 ?_
              try simp only [Act.put, List.getElem_toArray, List.getElem_cons_zero, List.getElem_cons_succ, List.setIfInBounds_toArray, List.set_cons_zero, List.set_cons_succ]
              refine wpAnyH_take (i := 8) (v := undef) rfl (by kernel_rfl) (by kernel_rfl) (by kernel_rfl) (fun _ _ _ h => h) (Or.inr ⟨by rfl, rfl⟩) hHeld2 ?_
              try simp only [Act.put, List.getElem_toArray, List.getElem_cons_zero, List.getElem_cons_succ, List.setIfInBounds_toArray, List.set_cons_zero, List.set_cons_succ]
              refine wpAnyH_take (i := 9) (v := undef) rfl (by kernel_rfl) (by kernel_rfl) (by kernel_rfl) (fun _ _ _ h => h) (Or.inr ⟨by rfl, rfl⟩) hHeld2 ?_
              try simp only [Act.put, List.getElem_toArray, List.getElem_cons_zero, List.getElem_cons_succ, List.setIfInBounds_toArray, List.set_cons_zero, List.set_cons_succ]
              refine wpAnyH_take (i := 10) (v := undef) rfl (by kernel_rfl) (by kernel_rfl) (by kernel_rfl) (fun _ _ _ h => h) (Or.inr ⟨by rfl, rfl⟩) hHeld2 ?_
              try simp only [Act.put, List.getElem_toArray, List.getElem_cons_zero, List.getElem_cons_succ, List.setIfInBounds_toArray, List.set_cons_zero, List.set_cons_succ]
              refine wpAnyH_take (i := 11) (v := undef) rfl (by kernel_rfl) (by kernel_rfl) (by kernel_rfl) (fun _ _ _ h => h) (Or.inr ⟨by rfl, rfl⟩) hHeld2 ?_
              try simp only [Act.put, List.getElem_toArray, List.getElem_cons_zero, List.getElem_cons_succ, List.setIfInBounds_toArray, List.set_cons_zero, List.set_cons_succ]
              refine wpAnyH_take (i := 12) (v := undef) rfl (by kernel_rfl) (by kernel_rfl) (by kernel_rfl) (fun _ _ _ h => h) (Or.inr ⟨by rfl, rfl⟩) hHeld2 ?_
              try simp only [Act.put, List.getElem_toArray, List.getElem_cons_zero, List.getElem_cons_succ, List.setIfInBounds_toArray, List.set_cons_zero, List.set_cons_succ]
              refine wpAnyH_take (i := 13) (v := undef) rfl (by kernel_rfl) (by kernel_rfl) (by kernel_rfl) (fun _ _ _ h => h) (Or.inr ⟨by rfl, rfl⟩) hHeld2 ?_
              try simp only [Act.put, List.getElem_toArray, List.getElem_cons_zero, List.getElem_cons_succ, List.setIfInBounds_toArray, List.set_cons_zero, List.set_cons_succ]
              refine wpAnyH_take (i := 14) (v := undef) rfl (by kernel_rfl) (by kernel_rfl) (by kernel_rfl) (fun _ _ _ h => h) (Or.inr ⟨by rfl, rfl⟩) hHeld2 ?_
              try simp only [Act.put, List.getElem_toArray, List.getElem_cons_zero, List.getElem_cons_succ, List.setIfInBounds_toArray, List.set_cons_zero, List.set_cons_succ]
              refine wpAnyH_take (i := 15) (v := undef) rfl (by kernel_rfl) (by kernel_rfl) (by kernel_rfl) (fun _ _ _ h => h) (Or.inr ⟨by rfl, rfl⟩) hHeld2 ?_
              try simp only [Act.put, List.getElem_toArray, List.getElem_cons_zero, List.getElem_cons_succ, List.setIfInBounds_toArray, List.set_cons_zero, List.set_cons_succ]
              refine wpAnyH_take (i := 16) (v := ?vd16) rfl (by kernel_rfl) (by kernel_rfl) (by kernel_rfl) (fun _ _ _ h => h) (Or.inl ⟨by rfl, ?yd16⟩) hHeld2 ?rd16
              case yd16 => (intro w' hS; (try dsimp only at hS); obtain ⟨s0, s1, s2⟩ := hS; (try go_simp); (try with_reducible rfl))
              try simp only [Act.put, List.getElem_toArray, List.getElem_cons_zero, List.getElem_cons_succ, List.setIfInBounds_toArray, List.set_cons_zero, List.set_cons_succ]
              refine wpAnyH_done (by kernel_rfl) ?_ _
              have hB10 := hBa.trans (hb10.mono hsz)
              clear y0 y1 y2 hb10
              go_wp2
              go_roundw
              (case rel => exact ⟨k + 1, m, fd, by omega, hm, by go_num, rfl, rfl, hB10, h3⟩)
              (case measure => simp [intOf]; omega)
          · obtain rfl : k = f.length := by omega
            have h3 : Hid (bestGo f 0 0 false f = (m, fd)) := by rw [Hid, hT.out, List.drop_of_length_le (Nat.le_refl _)]; rfl
            go_wp2
            go_ret2
            exact ⟨by rw [hfin.out, hnone.out, h3.out]; rfl, hb1.trans (hBl.mono hb1.size)⟩
  · have hok' : flashOk f = false := by simpa using hok
    have hfin : Hid (findOpen f = (0, false)) := by unfold Hid findOpen; rw [if_neg hok]
    rw [hok']
    go_wp2
    go_ret2
    exact ⟨by rw [hfin.out]; rfl, hb1⟩
end Go.Proofs.YtohkoogmbfaceaaGreat
namespace Go.Proofs.YtohkoogmbfaceaaGreat
set_option linter.unusedVariables false
set_option linter.unusedSimpArgs false
open Go.RowKit Go.Maps
set_option maxHeartbeats 400000
def hiGo (ss : List Span) : Nat → Nat → List Span → Nat
  | _, old, [] => old
  | i, old, s :: r => if s.2 < (ss.getD old (0, 0)).2 then hiGo ss (i + 1) i r else hiGo ss (i + 1) old r
def findOld (f : List Bk) : Int := if flashOk f = true then (hiGo (spOf (allFrom 0 f)) 0 0 (spOf (allFrom 0 f)) : Nat) else -1
set_option maxHeartbeats 4000000 in
set_option maxRecDepth 100000 in
theorem impl_FindOld (f : List Bk) (A : Option Addr) (n c : Nat) (w : World) (hn : n = f.length) (hF : Fl w A f) :
    Calls Tryz.prog 99 #[.slice A n c] w fun e w' => e = .returned (.int .i64 (findOld f)) ∧ Below w.heap.size w w' := by
  subst hn
  go_enter Tryz.func99, Tryz.ntmps99
  go_wp2_with fail
  refine (impl_FlashOk f A c _ hF).mono ?_
  rintro e w1 ⟨rfl, hb1⟩
  by_cases hok : flashOk f = true
  · have HSH := Lib.hid (fun b hb => (flashOk_shape hok b hb).1)
    have HL := Lib.hid (flashOk_len hok)
    have hfin : Hid (findOld f = (hiGo (spOf (allFrom 0 f)) 0 0 (spOf (allFrom 0 f)) : Nat)) := by unfold Hid findOld; rw [if_pos hok]
    have hln := spOf_len (allFrom 0 f)
    rw [hok]
    clear hok
    obtain ⟨hs, hBk⟩ := hF
    obtain ⟨g, o, rfl⟩ := hBk.addr (by intro e; have := HL.out; rw [e] at this; simp at this)
    have hlow : ∀ b, fblk (some ⟨g, o, none⟩) hs b → b < w1.heap.size := fun b hb => by
      have h4 := HL.out
      have hs1 := hb1.size
      rcases hb with hb | ⟨i, x, hx, hb⟩
      · rw [blk_some] at hb
        subst hb
        obtain ⟨B, hB⟩ := get_some (l := f) (k := 0) (by omega)
        obtain ⟨_, _, c0, _⟩ := hBk.at_ hB
        have := lt_of_cell c0
        omega
      · obtain ⟨B, hB⟩ := get_some (l := f) (k := i) (by rw [← hBk.len]; exact (List.getElem?_eq_some_iff.1 hx).1)
        have hr := (hBk.pg i B x hB hx).1
        have hB4 := HSH.out B (List.mem_of_getElem? hB)
        obtain ⟨b', o', he, hc⟩ := hr (pgs_ne (by intro e; rw [e] at hB4; simp at hB4))
        rw [he, blk_some] at hb
        subst hb
        obtain ⟨q, hq⟩ := get_some (l := pgs B.pages) (k := 0) (by rw [pgs_len]; omega)
        have := lt_of_cell (hc 0 q hq).1
        omega
    have hcall := impl_spansOf f hs g o c _ HL.out HSH.out (hBk.below hb1 (Nat.le_refl _)) hlow
    rw [← HL.out] at hcall
    go_wp2_with fail
    refine hcall.mono ?_
    clear hcall
    rw [HL.out]
    rintro e w2 ⟨sb, rfl, hsb, hR, hb2⟩
    generalize spOf (allFrom 0 f) = ss at *
    have HLN := Lib.hid hln
    have hB2 := hb1.trans (hb2.mono hb1.size)
    clear hln hb2 hlow hBk
    go_wp2
    go_loopw [3, 14] (fun q i wr => ∃ k m : Nat, k ≤ 4 ∧ m < 4 ∧ i = .int .i64 k ∧ q = .int .i64 m ∧ Below w2.heap.size w2 wr ∧ Hid (hiGo ss 0 0 ss = hiGo ss k m (ss.drop k))) (fun _ i _ => 4 - (intOf i).toNat)
    case atStart => exact ⟨0, 0, by omega, by omega, rfl, rfl, Below.refl _ _, rfl⟩
    case round =>
      obtain ⟨k, m, hk, hm, rfl, rfl, hB, hT⟩ := hrel
      have hRk := hR.below hB (Nat.le_refl _)
      by_cases hlt : k < 4
      · obtain ⟨s, hsk⟩ := get_some (l := ss) (k := k) (by rw [HLN.out]; exact hlt)
        obtain ⟨sm, hsm⟩ := get_some (l := ss) (k := m) (by rw [HLN.out]; exact hm)
        obtain ⟨a0, a1, _, _⟩ := hRk.span hsk
        obtain ⟨_, m1, _, _⟩ := hRk.span hsm
        have hgm : ss.getD m (0, 0) = sm := by rw [List.getD_eq_getElem?_getD, hsm]; rfl
        have hT2 : Hid (hiGo ss 0 0 ss = if s.2 < sm.2 then hiGo ss (k + 1) k (ss.drop (k + 1)) else hiGo ss (k + 1) m (ss.drop (k + 1))) := by rw [Hid, hT.out, drop_cons hsk, hiGo, hgm]
        have hk1 : (k : Int) < 4 := by omega
        have hm1 : (m : Int) < 4 := by omega
        have hBa := fun (o : Obj) => hB.alloc hB.size o
        have lb := lt_of_cell m1
        have y1 : (wr.alloc (.cells #[.int .i64 s.1, .int .i64 s.2] 97)).cell? ⟨sb, m * 2 + 1, none⟩ = some (.int .i64 sm.2) := (((Below.refl wr.heap.size wr).alloc (Nat.le_refl _) _).cell (p := ⟨sb, m * 2 + 1, none⟩) lb).trans m1
        clear hsk hsm hgm hT hRk
        by_cases hh : s.2 < sm.2
        · have h3 : Hid (hiGo ss 0 0 ss = hiGo ss (k + 1) k (ss.drop (k + 1))) := by rw [Hid, hT2.out, if_pos hh]
          go_wp2
          go_quiet (fail)
          have hBq : Below w2.heap.size w2 ((wr.alloc (.cells #[.int .i64 s.1, .int .i64 s.2] 97)).drewN nq) := (hBa _).trans ⟨rfl, rfl, rfl, Nat.le_refl _, fun _ _ => rfl⟩
          go_wp2
          go_roundw
          (case rel => exact ⟨k + 1, k, by omega, by omega, by go_num, rfl, hBq, h3⟩)
          (case measure => simp [intOf]; omega)
        · have h3 : Hid (hiGo ss 0 0 ss = hiGo ss (k + 1) m (ss.drop (k + 1))) := by rw [Hid, hT2.out, if_neg hh]
          go_wp2
          go_quiet (fail)
          have hBq : Below w2.heap.size w2 ((wr.alloc (.cells #[.int .i64 s.1, .int .i64 s.2] 97)).drewN nq) := (hBa _).trans ⟨rfl, rfl, rfl, Nat.le_refl _, fun _ _ => rfl⟩
          go_wp2
          go_roundw
          (case rel => exact ⟨k + 1, m, by omega, by omega, by go_num, rfl, hBq, h3⟩)
          (case measure => simp [intOf]; omega)
      · obtain rfl : k = 4 := by omega
        have h3 : Hid (hiGo ss 0 0 ss = m) := by rw [Hid, hT.out, List.drop_of_length_le (by rw [HLN.out]; omega)]; rfl
        go_wp2
        go_ret
        exact ⟨ret_int (by rw [hfin.out, h3.out]), hB2.trans (hB.mono hB2.size)⟩
  · have hok' : flashOk f = false := by simpa using hok
    have hfin : Hid (findOld f = -1) := by unfold Hid findOld; rw [if_neg hok]
    rw [hok']
    go_wp2
    go_ret
    exact ⟨ret_int (by rw [hfin.out]), hb1⟩
end Go.Proofs.YtohkoogmbfaceaaGreat
namespace Go.Proofs.YtohkoogmbfaceaaGreat
set_option linter.unusedVariables false
set_option linter.unusedSimpArgs false
open Go.RowKit Go.Maps
set_option maxHeartbeats 400000
set_option maxHeartbeats 8000000 in
set_option maxRecDepth 100000 in
theorem impl_FindOrder (f : List Bk) (A : Option Addr) (n c : Nat) (w : World) (hn : n = f.length) (hF : Fl w A f) :
    Calls Tryz.prog 41 #[.slice A n c] w fun e w' => e = .returned (.bool (findOrderI f)) ∧ Below w.heap.size w w' := by
  subst hn
  go_enter Tryz.func41, Tryz.ntmps41
  go_wp2_with fail
  refine (impl_FlashOk f A c _ hF).mono ?_
  rintro e w1 ⟨rfl, hb1⟩
  by_cases hok : flashOk f = true
  · have HSH := Lib.hid (fun b hb => (flashOk_shape hok b hb).1)
    have HL := Lib.hid (flashOk_len hok)
    have hfin : Hid (findOrderI f = ordI (spOf (allFrom 0 f)) f) := by unfold Hid findOrderI; rw [if_pos hok]
    have hln := spOf_len (allFrom 0 f)
    rw [hok]
    clear hok
    obtain ⟨hs, hBk⟩ := hF
    obtain ⟨g, o, rfl⟩ := hBk.addr (by intro e; have := HL.out; rw [e] at this; simp at this)
    have hlow : ∀ b, fblk (some ⟨g, o, none⟩) hs b → b < w1.heap.size := fun b hb => by
      have h4 := HL.out
      have hs1 := hb1.size
      rcases hb with hb | ⟨i, x, hx, hb⟩
      · rw [blk_some] at hb
        subst hb
        obtain ⟨B, hB⟩ := get_some (l := f) (k := 0) (by omega)
        obtain ⟨_, _, c0, _⟩ := hBk.at_ hB
        have := lt_of_cell c0
        omega
      · obtain ⟨B, hB⟩ := get_some (l := f) (k := i) (by rw [← hBk.len]; exact (List.getElem?_eq_some_iff.1 hx).1)
        have hr := (hBk.pg i B x hB hx).1
        have hB4 := HSH.out B (List.mem_of_getElem? hB)
        obtain ⟨b', o', he, hc⟩ := hr (pgs_ne (by intro e; rw [e] at hB4; simp at hB4))
        rw [he, blk_some] at hb
        subst hb
        obtain ⟨q, hq⟩ := get_some (l := pgs B.pages) (k := 0) (by rw [pgs_len]; omega)
        have := lt_of_cell (hc 0 q hq).1
        omega
    have hcall := impl_spansOf f hs g o c _ HL.out HSH.out (hBk.below hb1 (Nat.le_refl _)) hlow
    rw [← HL.out] at hcall
    go_wp2_with fail
    refine hcall.mono ?_
    clear hcall
    rw [HL.out]
    rintro e w2 ⟨sb, rfl, hsb, hR, hb2⟩
    generalize spOf (allFrom 0 f) = ss at *
    have HLN := Lib.hid hln
    have hB2 := hb1.trans (hb2.mono hb1.size)
    have hBk2 := hBk.below hB2 (Nat.le_refl _)
    have hs2 := hb2.size
    clear hln hb2 hlow hBk
    go_wp2
    go_loopw [4, 19] (fun q i wr => ∃ (k : Nat) (m : Int), k ≤ 4 ∧ i = .int .i64 k ∧ q = .int .i64 m ∧ Below w2.heap.size w2 wr ∧ Hid (ordGo ss 0 0 ss = ordGo ss k m (ss.drop k))) (fun _ i _ => 4 - (intOf i).toNat)
    case atStart => exact ⟨0, 0, by omega, rfl, rfl, Below.refl _ _, rfl⟩
    case round =>
      obtain ⟨k, m, hk, rfl, rfl, hB, hT⟩ := hrel
      by_cases hlt : k < 4
      · obtain ⟨s, hsk⟩ := get_some (l := ss) (k := k) (by rw [HLN.out]; exact hlt)
        have hRk := hR.below hB (Nat.le_refl _)
        obtain ⟨a0, a1, _, _⟩ := hRk.span hsk
        have hT2 : Hid (ordGo ss 0 0 ss = if (ss.take k).any (spClash s) = true then none else ordGo ss (k + 1) (max m s.2) (ss.drop (k + 1))) := by rw [Hid, hT.out, drop_cons hsk, ordGo]
        obtain ⟨wo, rfl⟩ : ∃ wo : World, wo = wr := ⟨_, rfl⟩
        have hk1 : (k : Int) < 4 := by omega
        have hk4 : (k : Int) ≤ 4 := by omega
        have hBa : Below w2.heap.size w2 (wo.alloc (.cells #[.int .i64 s.1, .int .i64 s.2] 97)) := hB.alloc hB.size _
        have hsz : (wo.alloc (.cells #[.int .i64 s.1, .int .i64 s.2] 97)).heap.size = wo.heap.size + 1 := by simp
        have p0 : (wo.alloc (.cells #[.int .i64 s.1, .int .i64 s.2] 97)).cell? ⟨wo.heap.size, 0, none⟩ = some (.int .i64 s.1) := by simp [go_sem]
        have p1 : (wo.alloc (.cells #[.int .i64 s.1, .int .i64 s.2] 97)).cell? ⟨wo.heap.size, 1, none⟩ = some (.int .i64 s.2) := by simp [go_sem]
        clear hsk hT hRk
        rcases Int.lt_or_le m s.2 with hmx | hmx
        case' inl => have hT3 : Hid (ordGo ss 0 0 ss = if (ss.take k).any (spClash s) = true then none else ordGo ss (k + 1) s.2 (ss.drop (k + 1))) := by rw [Hid, hT2.out, Int.max_eq_right (by omega)]
        case' inr => have hT3 : Hid (ordGo ss 0 0 ss = if (ss.take k).any (spClash s) = true then none else ordGo ss (k + 1) m (ss.drop (k + 1))) := by rw [Hid, hT2.out, Int.max_eq_left (by omega)]
        all_goals
          clear hT2
          go_wp2
          go_loopw [32] (fun i wl => ∃ j : Nat, j ≤ k ∧ i = .int .i64 j ∧ Below w2.heap.size w2 wl ∧ wo.heap.size < wl.heap.size ∧ wl.cell? ⟨wo.heap.size, 0, none⟩ = some (.int .i64 s.1) ∧ wl.cell? ⟨wo.heap.size, 1, none⟩ = some (.int .i64 s.2) ∧ Hid (∀ t ∈ ss.take j, spClash s t = false)) (fun i _ => k - (intOf i).toNat)
          case atStart => exact ⟨0, by omega, rfl, hBa, by omega, p0, p1, by rw [Hid]; simp⟩
          case round =>
            obtain ⟨j, hj, rfl, hBl, hlt2, q0, q1, hU⟩ := hrel
            by_cases hjk : j < k
            · obtain ⟨t, htj⟩ := get_some (l := ss) (k := j) (by rw [HLN.out]; omega)
              obtain ⟨b0, b1, _, _⟩ := (hR.below hBl (Nat.le_refl _)).span htj
              have hjk1 : (j : Int) < k := by omega
              have hBb := hBl.alloc hBl.size (.cells #[.int .i64 t.1, .int .i64 t.2] 97)
              have r0 : (wr.alloc (.cells #[.int .i64 t.1, .int .i64 t.2] 97)).cell? ⟨wo.heap.size, 0, none⟩ = some (.int .i64 s.1) := (((Below.refl wr.heap.size wr).alloc (Nat.le_refl _) _).cell (p := ⟨wo.heap.size, 0, none⟩) hlt2).trans q0
              have r1 : (wr.alloc (.cells #[.int .i64 t.1, .int .i64 t.2] 97)).cell? ⟨wo.heap.size, 1, none⟩ = some (.int .i64 s.2) := (((Below.refl wr.heap.size wr).alloc (Nat.le_refl _) _).cell (p := ⟨wo.heap.size, 1, none⟩) hlt2).trans q1
              have hgt : wo.heap.size < (wr.alloc (.cells #[.int .i64 t.1, .int .i64 t.2] 97)).heap.size := by simp; omega
              have hcl : spClash s t = false → Hid (∀ t ∈ ss.take (j + 1), spClash s t = false) := fun hc t' ht' => by
                rw [List.take_add_one, htj] at ht'
                rcases List.mem_append.1 ht' with h | h
                · exact hU.out t' h
                · simp at h; rw [h]; exact hc
              have HCL := Lib.hid hcl
              have hhit : spClash s t = true → Hid (ordGo ss 0 0 ss = none) := fun hc => by
                rw [Hid, hT3.out, if_pos]
                rw [List.any_eq_true]
                exact ⟨t, List.mem_iff_getElem?.2 ⟨j, by rw [List.getElem?_take, if_pos hjk]; exact htj⟩, hc⟩
              have HHIT := Lib.hid hhit
              clear hcl hhit htj hU p0 p1 q0 q1 hmx
              by_cases h1 : 0 < s.2
              · by_cases h2 : 0 < t.2
                · by_cases h3 : t.1 ≤ s.2
                  · by_cases h4 : s.1 ≤ t.2
                    · have hx := HHIT.out (by simp [spClash, h1, h2, h3, h4])
                      go_wp2
                      go_ret
                      exact ⟨ret_bool (by rw [hfin.out]; unfold ordI; rw [hx.out]), hB2.trans (hBb.mono hB2.size)⟩
                    · have hx := HCL.out (by simp [spClash, h4])
                      go_wp2
                      go_roundw
                      (case rel => exact ⟨j + 1, by omega, by go_num, hBb, hgt, r0, r1, hx⟩)
                      (case measure => simp [intOf]; omega)
                  · have hx := HCL.out (by simp [spClash, h3])
                    go_wp2
                    go_roundw
                    (case rel => exact ⟨j + 1, by omega, by go_num, hBb, hgt, r0, r1, hx⟩)
                    (case measure => simp [intOf]; omega)
                · have hx := HCL.out (by simp [spClash, h2])
                  go_wp2
                  go_roundw
                  (case rel => exact ⟨j + 1, by omega, by go_num, hBb, hgt, r0, r1, hx⟩)
                  (case measure => simp [intOf]; omega)
              · have hx := HCL.out (by simp [spClash, h1])
                go_wp2
                go_roundw
                (case rel => exact ⟨j + 1, by omega, by go_num, hBb, hgt, r0, r1, hx⟩)
                (case measure => simp [intOf]; omega)
            · obtain rfl : j = k := by omega
              have hx : (ss.take j).any (spClash s) = false := by
                rw [List.any_eq_false]
                exact fun t ht => by rw [hU.out t ht]; simp
              have hT4 := hT3.out
              rw [if_neg (by rw [hx]; simp)] at hT4
              replace hT4 := Lib.hid hT4
              clear hx hT3
              go_wp2
              go_roundw
              (case rel => exact ⟨j + 1, _, by omega, by go_num, rfl, hBl, hT4⟩)
              (case measure => simp [intOf]; omega)
      · have hk4 : (4 : Int) ≤ (k : Int) := by omega
        have h3 : Hid (ordGo ss 0 0 ss = some m) := by rw [Hid, hT.out, List.drop_of_length_le (by rw [HLN.out]; omega)]; rfl
        have hfin2 : Hid (findOrderI f = partOrd ss m 0 0 f) := by rw [Hid, hfin.out, ordI, h3.out]
        clear hT h3
        have hf4 := HL.out
        have hBz := hB
        obtain ⟨wo, rfl⟩ : ∃ wo : World, wo = wr := ⟨_, rfl⟩
        go_wp2
        go_loopw [9, 62] (fun q i wl => ∃ k c : Nat, k ≤ 4 ∧ c ≤ k ∧ i = .int .i64 k ∧ q = .int .i64 c ∧ Below w2.heap.size w2 wl ∧ Hid (partOrd ss m 0 0 f = partOrd ss m k c (f.drop k))) (fun _ i _ => 4 - (intOf i).toNat)
        case atStart => exact ⟨0, 0, by omega, by omega, rfl, rfl, hBz, rfl⟩
        case round =>
          obtain ⟨k, n, hk, hn, rfl, rfl, hB, hT⟩ := hrel
          by_cases hlt : k < 4
          · obtain ⟨B, hb⟩ := get_some (l := f) (k := k) (by omega)
            obtain ⟨s, hsk⟩ := get_some (l := ss) (k := k) (by rw [HLN.out]; exact hlt)
            have hgs : ss.getD k (0, 0) = s := by rw [List.getD_eq_getElem?_getD, hsk]; rfl
            obtain ⟨⟨Z, cz⟩, _, c0, c1, _, _, hRz, _⟩ := (hBk2.below hB (Nat.le_refl _)).at_ hb
            dsimp only at c0 hRz
            have hpl : B.pages.length < 1000000000000 := by rw [HSH.out B (List.mem_of_getElem? hb)]; omega
            have hk1 : (k : Int) < 4 := by omega
            have hT2 : Hid (partOrd ss m 0 0 f = if partly B = true then (if 0 < s.2 ∧ s.2 < m then false else partOrd ss m (k + 1) (n + 1) (f.drop (k + 1))) else partOrd ss m (k + 1) n (f.drop (k + 1))) := by rw [Hid, hT.out, drop_cons hb, partOrd, hgs]
            have hRa := hRz.alloc (.cells #[.slice Z B.pages.length cz, .int .i64 B.worn] 59)
            have hBa : Below w2.heap.size w2 (wr.alloc (.cells #[.slice Z B.pages.length cz, .int .i64 B.worn] 59)) := hB.alloc hB.size _
            have hsz : (wr.alloc (.cells #[.slice Z B.pages.length cz, .int .i64 B.worn] 59)).heap.size = wr.heap.size + 1 := by simp
            clear hb hT hgs hRz
            go_wp2_with fail
            refine (impl_partlyUsed B Z _ cz _ rfl hpl hRa).mono ?_
            rintro e w3 ⟨rfl, hb3⟩
            have hB3 := hBa.trans (hb3.mono (by have := hB.size; omega))
            obtain ⟨_, a1, _, _⟩ := (hR.below hB3 (Nat.le_refl _)).span hsk
            clear hsk hb3 hBa hRa
            by_cases hpt : partly B = true
            · have hT3 := hT2.out
              rw [if_pos hpt] at hT3
              replace hT3 := Lib.hid hT3
              rw [hpt]
              clear hpt hT2
              by_cases h1 : 0 < s.2
              · by_cases h2 : s.2 < m
                · have hx := hT3.out
                  rw [if_pos ⟨h1, h2⟩] at hx
                  replace hx := Lib.hid hx
                  clear hT3
                  go_wp2
                  go_ret
                  exact ⟨ret_bool (by rw [hfin2.out, hx.out]), hB2.trans (hB3.mono hB2.size)⟩
                · have hx := hT3.out
                  rw [if_neg (fun h => h2 h.2)] at hx
                  replace hx := Lib.hid hx
                  clear hT3
                  go_wp2
                  go_roundw
                  (case rel => exact ⟨k + 1, n + 1, by omega, by omega, by go_num, by go_num, hB3, hx⟩)
                  (case measure => simp [intOf]; omega)
              · have hx := hT3.out
                rw [if_neg (fun h => h1 h.1)] at hx
                replace hx := Lib.hid hx
                clear hT3
                go_wp2
                go_roundw
                (case rel => exact ⟨k + 1, n + 1, by omega, by omega, by go_num, by go_num, hB3, hx⟩)
                (case measure => simp [intOf]; omega)
            · have hx := hT2.out
              rw [if_neg hpt] at hx
              replace hx := Lib.hid hx
              rw [show partly B = false from by simpa using hpt]
              clear hT2 hpt
              go_wp2
              go_roundw
              (case rel => exact ⟨k + 1, n, by omega, by omega, by go_num, rfl, hB3, hx⟩)
              (case measure => simp [intOf]; omega)
          · obtain rfl : k = 4 := by omega
            have hx : Hid (partOrd ss m 0 0 f = decide (n ≤ 1)) := by rw [Hid, hT.out, List.drop_of_length_le (by omega)]; rfl
            have hz : decide ((n : Int) ≤ 1) = decide (n ≤ 1) := by rw [decide_eq_decide]; omega
            replace hz := Lib.hid hz
            clear hT
            go_wp2
            go_ret
            exact ⟨ret_bool (by rw [hfin2.out, hx.out]; exact hz.out), hB2.trans (hB.mono hB2.size)⟩
  · have hok' : flashOk f = false := by simpa using hok
    have hfin : Hid (findOrderI f = false) := by unfold Hid findOrderI; rw [if_neg hok]
    rw [hok']
    go_wp2
    go_ret
    exact ⟨ret_bool (by rw [hfin.out]), hb1⟩
end Go.Proofs.YtohkoogmbfaceaaGreat
namespace Go.Proofs.YtohkoogmbfaceaaGreat
set_option linter.unusedVariables false
set_option linter.unusedSimpArgs false
open Go.RowKit Go.Maps
set_option maxHeartbeats 400000
theorem partGo_some : ∀ {r : List Bk} {i j : Nat}, partGo i r = some j → ∃ m b, j = i + m ∧ r[m]? = some b ∧ partly b = true
  | [], _, _, h => by simp [partGo] at h
  | b :: r, i, j, h => by
    unfold partGo at h
    split at h
    · rename_i hp
      cases h
      exact ⟨0, b, rfl, rfl, hp⟩
    · obtain ⟨m, c, h1, h2, h3⟩ := partGo_some h
      exact ⟨m + 1, c, by omega, by simpa using h2, h3⟩
theorem partGo_none : ∀ {r : List Bk} {i : Nat}, partGo i r = none → ∀ b ∈ r, partly b = false
  | [], _, _ => by simp
  | b :: r, i, h => by
    unfold partGo at h
    split at h
    · cases h
    · rename_i hp
      intro c hc
      rcases List.mem_cons.1 hc with rfl | hc
      · simpa using hp
      · exact partGo_none h c hc
theorem best_true {f : List Bk} : ∀ {r : List Bk} {i best j : Nat} {fd : Bool}, bestGo f i best fd r = (j, true) → (fd = true ∧ j = best) ∨ ∃ m b, j = i + m ∧ r[m]? = some b ∧ clean b = 4
  | [], _, _, _, _, h => by
    unfold bestGo at h
    cases h
    exact .inl ⟨rfl, rfl⟩
  | b :: r, i, best, j, fd, h => by
    unfold bestGo at h
    split at h
    · rename_i hc
      rcases best_true h with ⟨_, rfl⟩ | ⟨m, c, h1, h2, h3⟩
      · exact .inr ⟨0, b, rfl, rfl, hc.1⟩
      · exact .inr ⟨m + 1, c, by omega, by simpa using h2, h3⟩
    · rcases best_true h with h | ⟨m, c, h1, h2, h3⟩
      · exact .inl h
      · exact .inr ⟨m + 1, c, by omega, by simpa using h2, h3⟩
theorem best_false {f : List Bk} : ∀ {r : List Bk} {i best j : Nat} {fd : Bool}, bestGo f i best fd r = (j, false) → fd = false ∧ ∀ b ∈ r, clean b ≠ 4
  | [], _, _, _, _, h => by
    unfold bestGo at h
    cases h
    exact ⟨rfl, by simp⟩
  | b :: r, i, best, j, fd, h => by
    unfold bestGo at h
    split at h
    · exact absurd (best_false h).1 (by simp)
    · rename_i hc
      obtain ⟨h1, h2⟩ := best_false h
      refine ⟨h1, fun c hcm => ?_⟩
      rcases List.mem_cons.1 hcm with rfl | hcm
      · exact fun h4 => hc ⟨h4, .inl h1⟩
      · exact h2 c hcm
theorem part_pos {b : Bk} (h : partly b = true) : 0 < clean b := by unfold partly at h; simp at h; exact h.1
theorem open_true {f : List Bk} (h : (openI f).2 = true) : ∃ (m : Nat) (b : Bk), (openI f).1 = (m : Int) ∧ f[m]? = some b ∧ 0 < clean b := by
  unfold openI at h ⊢
  cases hp : partGo 0 f with
  | some j =>
    obtain ⟨m, b, h1, h2, h3⟩ := partGo_some hp
    have : j = m := by omega
    subst this
    exact ⟨j, b, rfl, h2, part_pos h3⟩
  | none =>
    rw [hp] at h
    dsimp only at h ⊢
    have he : bestGo f 0 0 false f = ((bestGo f 0 0 false f).1, true) := by rw [← h]
    rcases best_true he with ⟨hc, _⟩ | ⟨m, b, h1, h2, h3⟩
    · cases hc
    · have : (bestGo f 0 0 false f).1 = m := by omega
      rw [this]
      exact ⟨m, b, rfl, h2, by omega⟩
theorem open_false {f : List Bk} (hp4 : ∀ b ∈ f, b.pages.length = 4) (h : (openI f).2 = false) : ∀ b ∈ f, clean b = 0 := by
  unfold openI at h
  cases hp : partGo 0 f with
  | some j => rw [hp] at h; cases h
  | none =>
    rw [hp] at h
    dsimp only at h
    have he : bestGo f 0 0 false f = ((bestGo f 0 0 false f).1, false) := Prod.ext rfl h
    have h1 := (best_false he).2
    intro b hb
    have h2 := partGo_none hp b hb
    have h3 := clean_le4 (hp4 b hb)
    have h4 := h1 b hb
    unfold partly at h2
    simp at h2
    omega
theorem clean_new (n : Int) : clean ⟨List.replicate 4 pg0, n⟩ = 4 := by
  show (List.replicate 4 pg0).countP isClean = 4
  decide
end Go.Proofs.YtohkoogmbfaceaaGreat
namespace Go.Proofs.YtohkoogmbfaceaaGreat
set_option linter.unusedVariables false
set_option linter.unusedSimpArgs false
def spn (b : Bk) : Span := (least b, most b)
theorem set_self {α : Type} {d : α} : ∀ {l : List α} {i : Nat}, i < l.length → l.set i (l.getD i d) = l
  | [], i, h => by simp at h
  | a :: l, 0, _ => by simp
  | a :: l, i + 1, h => by
    rw [List.set_cons_succ]
    have := set_self (d := d) (l := l) (i := i) (by simpa using h)
    simpa using this
theorem tag_sp : ∀ (ps : List Pg) (j i : Nat) (ss : List Span), i < ss.length → (∀ p ∈ ps, pageOk p = true) → 0 ≤ (ss.getD i (0, 0)).2 →
    (tagFrom i j ps).foldl spStep ss = ss.set i (ps.foldl leastStep (ss.getD i (0, 0)).1, mostPs (ss.getD i (0, 0)).2 ps)
  | [], j, i, ss, hi, _, _ => by
    show ss = ss.set i ((ss.getD i (0, 0)).1, (ss.getD i (0, 0)).2)
    exact (set_self hi).symm
  | p :: ps, j, i, ss, hi, hp, h => by
    have ho := hp p (List.mem_cons_self ..)
    have hps := fun q hq => hp q (List.mem_cons_of_mem _ hq)
    rw [tagFrom, List.foldl_cons]
    by_cases h1 : p.state = 1
    · have hr := recOk_addr (rec_of_written ho h1)
      have e1 : spStep ss (i, j, p) = ss.set i (leastStep (ss.getD i (0, 0)).1 p, max (ss.getD i (0, 0)).2 p.rc.seq) := by
        unfold spStep
        dsimp only
        rw [if_pos h1]
        congr 2
        unfold lowOf leastStep
        split
        · rename_i hc; rw [if_pos ⟨by omega, hc⟩]
        · rename_i hc; rw [if_neg (fun e => hc e.2)]
      have hg : (ss.set i (leastStep (ss.getD i (0, 0)).1 p, max (ss.getD i (0, 0)).2 p.rc.seq)).getD i (0, 0) = (leastStep (ss.getD i (0, 0)).1 p, max (ss.getD i (0, 0)).2 p.rc.seq) := by
        rw [List.getD_eq_getElem?_getD, List.getElem?_set_self hi]; rfl
      rw [e1, tag_sp ps (j + 1) i _ (by rw [List.length_set]; exact hi) hps (by rw [hg]; dsimp only; omega), hg, List.set_set]
      rfl
    · have h0 := clean_seq ho h1
      have e1 : spStep ss (i, j, p) = ss := by unfold spStep; dsimp only; rw [if_neg h1]
      have e2 : leastStep (ss.getD i (0, 0)).1 p = (ss.getD i (0, 0)).1 := by unfold leastStep; rw [if_neg (by rintro ⟨h, _⟩; omega)]
      have e3 : mostPs (ss.getD i (0, 0)).2 (p :: ps) = mostPs (ss.getD i (0, 0)).2 ps := by
        show mostPs (max (ss.getD i (0, 0)).2 p.rc.seq) ps = _
        rw [show max (ss.getD i (0, 0)).2 p.rc.seq = (ss.getD i (0, 0)).2 by omega]
      rw [e1, tag_sp ps (j + 1) i ss hi hps h, List.foldl_cons, e2, e3]
theorem all_sp : ∀ (f : List Bk) (pre : List Span), (∀ b ∈ f, ∀ p ∈ b.pages, pageOk p = true) → (allFrom pre.length f).foldl spStep (pre ++ List.replicate f.length (0, 0)) = pre ++ f.map spn
  | [], pre, _ => rfl
  | b :: f, pre, hp => by
    have hg : (pre ++ List.replicate (f.length + 1) ((0, 0) : Span)).getD pre.length (0, 0) = (0, 0) := by
      rw [List.getD_eq_getElem?_getD, List.getElem?_append_right (Nat.le_refl _)]; simp
    rw [allFrom, List.foldl_append, List.length_cons, tag_sp b.pages 0 pre.length _ (by simp) (hp b (List.mem_cons_self ..)) (by rw [hg]; exact Int.le_refl _), hg]
    have e1 : (pre ++ List.replicate (f.length + 1) ((0, 0) : Span)).set pre.length (b.pages.foldl leastStep 0, mostPs 0 b.pages) = (pre ++ [spn b]) ++ List.replicate f.length (0, 0) := by
      rw [List.set_append_right _ _ (Nat.le_refl _), Nat.sub_self, List.replicate_succ, List.set_cons_zero]
      simp [spn, least, most]
    have e2 : (pre ++ [spn b]).length = pre.length + 1 := by simp
    have ih := all_sp f (pre ++ [spn b]) (fun c hc => hp c (List.mem_cons_of_mem _ hc))
    rw [e2] at ih
    dsimp only
    rw [e1, ih]
    simp
theorem spOf_eq {f : List Bk} (h : flashOk f = true) : spOf (allFrom 0 f) = f.map spn := by
  have := all_sp f [] (fun b hb => (bk_parts h hb).2.2.2)
  rw [flashOk_len h] at this
  exact this
theorem ordGo_some {ss : List Span} : ∀ (r : List Span) (i : Nat) (n m : Int), ordGo ss i n r = some m ↔ (∀ (k : Nat) (a : Span), r[k]? = some a → ∀ (j : Nat) (b : Span), j < i + k → ss[j]? = some b → spClash a b = false) ∧ m = r.foldl (fun n a => max n a.2) n
  | [], i, n, m => by
    unfold ordGo
    constructor
    · intro h; cases h; exact ⟨fun k a hk => by simp at hk, rfl⟩
    · rintro ⟨_, rfl⟩; rfl
  | a :: r, i, n, m => by
    unfold ordGo
    have ht : (ss.take i).any (spClash a) = true ↔ ∃ (j : Nat) (b : Span), j < i ∧ ss[j]? = some b ∧ spClash a b = true := by
      rw [List.any_eq_true]
      constructor
      · rintro ⟨b, hb, h⟩
        obtain ⟨j, hj⟩ := List.mem_iff_getElem?.1 hb
        rw [List.getElem?_take] at hj
        split at hj
        · rename_i hlt; exact ⟨j, b, hlt, hj, h⟩
        · cases hj
      · rintro ⟨j, b, hj, hb, h⟩
        exact ⟨b, List.mem_iff_getElem?.2 ⟨j, by rw [List.getElem?_take, if_pos hj]; exact hb⟩, h⟩
    by_cases hc : (ss.take i).any (spClash a) = true
    · rw [if_pos hc]
      obtain ⟨j, b, hj, hb, h⟩ := ht.1 hc
      constructor
      · intro h; cases h
      · rintro ⟨h1, _⟩
        have := h1 0 a rfl j b (by omega) hb
        rw [h] at this; cases this
    · rw [if_neg hc, ordGo_some r (i + 1) _ m, List.foldl_cons]
      constructor
      · rintro ⟨h1, h2⟩
        refine ⟨fun k x hk j b hj hb => ?_, h2⟩
        cases k with
        | zero =>
          rw [List.getElem?_cons_zero, Option.some.injEq] at hk
          subst hk
          by_cases hx : spClash a b = true
          · exact absurd (ht.2 ⟨j, b, by omega, hb, hx⟩) hc
          · simpa using hx
        | succ k => exact h1 k x (by simpa using hk) j b (by omega) hb
      · rintro ⟨h1, h2⟩
        exact ⟨fun k x hk j b hj hb => h1 (k + 1) x (by simpa using hk) j b (by omega) hb, h2⟩
theorem partOrd_iff {ss : List Span} {n : Int} : ∀ (r : List Bk) (i c : Nat), partOrd ss n i c r = true ↔ (∀ (k : Nat) (b : Bk), r[k]? = some b → partly b = true → ¬ (0 < (ss.getD (i + k) (0, 0)).2 ∧ (ss.getD (i + k) (0, 0)).2 < n)) ∧ c + r.countP partly ≤ 1
  | [], i, c => by unfold partOrd; simp
  | b :: r, i, c => by
    unfold partOrd
    rw [List.countP_cons]
    by_cases hb : partly b = true
    · rw [if_pos hb, if_pos hb]
      by_cases hx : 0 < (ss.getD i (0, 0)).2 ∧ (ss.getD i (0, 0)).2 < n
      · rw [if_pos hx]
        constructor
        · intro h; cases h
        · rintro ⟨h1, _⟩; exact absurd hx (h1 0 b rfl hb)
      · rw [if_neg hx, partOrd_iff r (i + 1) (c + 1)]
        constructor
        · rintro ⟨h1, h2⟩
          refine ⟨fun k x hk hp => ?_, by omega⟩
          cases k with
          | zero => exact hx
          | succ k => have := h1 k x (by simpa using hk) hp; rwa [show i + 1 + k = i + (k + 1) by omega] at this
        · rintro ⟨h1, h2⟩
          exact ⟨fun k x hk hp => by have := h1 (k + 1) x (by simpa using hk) hp; rwa [show i + (k + 1) = i + 1 + k by omega] at this, by omega⟩
    · rw [if_neg hb, if_neg hb, partOrd_iff r (i + 1) c]
      constructor
      · rintro ⟨h1, h2⟩
        refine ⟨fun k x hk hp => ?_, by omega⟩
        cases k with
        | zero => rw [List.getElem?_cons_zero, Option.some.injEq] at hk; subst hk; exact absurd hp hb
        | succ k => have := h1 k x (by simpa using hk) hp; rwa [show i + 1 + k = i + (k + 1) by omega] at this
      · rintro ⟨h1, h2⟩
        exact ⟨fun k x hk hp => by have := h1 (k + 1) x (by simpa using hk) hp; rwa [show i + (k + 1) = i + 1 + k by omega] at this, by omega⟩
theorem count_one {α : Type} {p : α → Bool} : ∀ (l : List α), l.countP p ≤ 1 ↔ ∀ (i j : Nat) (a b : α), i ≠ j → l[i]? = some a → l[j]? = some b → p a = true → p b = false
  | [] => by simp
  | x :: l => by
    rw [List.countP_cons]
    by_cases hx : p x = true
    · rw [if_pos hx]
      constructor
      · intro h i j a b hij ha hb hp
        have h0 : l.countP p = 0 := by omega
        rw [List.countP_eq_zero] at h0
        cases j with
        | zero =>
          cases i with
          | zero => exact absurd rfl hij
          | succ i => exact absurd hp (h0 a (List.mem_of_getElem? (by simpa using ha)))
        | succ j => simpa using h0 b (List.mem_of_getElem? (by simpa using hb))
      · intro h
        have h0 : l.countP p = 0 := by
          rw [List.countP_eq_zero]
          intro a ha
          obtain ⟨j, hj⟩ := List.mem_iff_getElem?.1 ha
          have := h 0 (j + 1) x a (by omega) rfl (by simpa using hj) hx
          rw [this]; simp
        omega
    · rw [if_neg hx, Nat.add_zero, count_one l]
      constructor
      · intro h i j a b hij ha hb hp
        cases i with
        | zero => rw [List.getElem?_cons_zero, Option.some.injEq] at ha; subst ha; exact absurd hp hx
        | succ i =>
          cases j with
          | zero => rw [List.getElem?_cons_zero, Option.some.injEq] at hb; subst hb; simpa using hx
          | succ j => exact h i j a b (by omega) (by simpa using ha) (by simpa using hb) hp
      · intro h i j a b hij ha hb hp
        exact h (i + 1) (j + 1) a b (by omega) (by simpa using ha) (by simpa using hb) hp
/-- the blocks were written one behind the other -/
structure Ord (f : List Bk) : Prop where
  apart : ∀ (i j : Nat) (a b : Bk), i ≠ j → f[i]? = some a → f[j]? = some b → 0 < most a → 0 < most b → ¬ (least a < most b ∧ least b < most a)
  begun : ∀ (i j : Nat) (a b : Bk), i ≠ j → f[i]? = some a → f[j]? = some b → partly a = true → partly b = false ∧ (0 < most a → most b ≤ most a)
theorem topSeq_le {M : Int} : ∀ {f : List Bk} {n : Int}, n ≤ M → (∀ b ∈ f, most b ≤ M) → f.foldl (fun n b => max n (most b)) n ≤ M
  | [], _, h, _ => h
  | b :: f, n, h, hb => by
    rw [List.foldl_cons]
    exact topSeq_le (by have := hb b (List.mem_cons_self ..); omega) (fun c hc => hb c (List.mem_cons_of_mem _ hc))
theorem le_topSeq0 : ∀ {f : List Bk} {n : Int}, n ≤ f.foldl (fun n b => max n (most b)) n
  | [], n => Int.le_refl n
  | b :: f, n => by
    rw [List.foldl_cons]
    have := le_topSeq0 (f := f) (n := max n (most b))
    omega
theorem le_topSeq {b : Bk} : ∀ {f : List Bk} {n : Int}, b ∈ f → most b ≤ f.foldl (fun n b => max n (most b)) n
  | a :: f, n, h => by
    rw [List.foldl_cons]
    rcases List.mem_cons.1 h with rfl | h
    · have := le_topSeq0 (f := f) (n := max n (most b))
      omega
    · exact le_topSeq h
theorem clash_iff {f : List Bk} (h : flashOk f = true) {i j : Nat} {a b : Bk} (hij : i ≠ j) (ha : f[i]? = some a) (hb : f[j]? = some b) : spClash (spn a) (spn b) = false ↔ ¬ (0 < most a ∧ 0 < most b ∧ least a < most b ∧ least b < most a) := by
  have pa := (bk_parts h (List.mem_of_getElem? ha)).2.2.2
  have pb := (bk_parts h (List.mem_of_getElem? hb)).2.2.2
  have hn := ((flashOk_iff f).1 h).2.2
  have key : spClash (spn a) (spn b) = true ↔ (0 < most a ∧ 0 < most b ∧ least a < most b ∧ least b < most a) := by
    unfold spClash spn
    simp only [Bool.and_eq_true, decide_eq_true_iff]
    constructor
    · rintro ⟨h1, h2, h3, h4⟩
      have e1 : least b ≠ most a := fun e => seqs_apart hn hij ha hb (most_mem pa h1) (e ▸ least_mem pb h2)
      have e2 : least a ≠ most b := fun e => seqs_apart hn hij ha hb (least_mem pa h1) (e ▸ most_mem pb h2)
      exact ⟨h1, h2, by omega, by omega⟩
    · rintro ⟨h1, h2, h3, h4⟩
      exact ⟨h1, h2, by omega, by omega⟩
  rw [← key]
  cases spClash (spn a) (spn b) <;> simp
theorem findOrderI_iff {f : List Bk} (h : flashOk f = true) : findOrderI f = true ↔ Ord f := by
  have hge : ∀ k b, f[k]? = some b → ((f.map spn).getD k (0, 0)).2 = most b := fun k b hb => by rw [List.getD_eq_getElem?_getD, List.getElem?_map, hb]; rfl
  have htop : ∀ n : Int, (f.map spn).foldl (fun n a => max n a.2) n = f.foldl (fun n b => max n (most b)) n := fun n => by rw [List.foldl_map]; rfl
  have hord : ∀ m : Int, ordGo (f.map spn) 0 0 (f.map spn) = some m ↔ (∀ (i j : Nat) (a b : Bk), i ≠ j → f[i]? = some a → f[j]? = some b → 0 < most a → 0 < most b → ¬ (least a < most b ∧ least b < most a)) ∧ m = topSeq f := fun m => by
    rw [ordGo_some, htop]
    unfold topSeq
    constructor
    · rintro ⟨h1, h2⟩
      refine ⟨fun i j a b hij ha hb p1 p2 hc => ?_, h2⟩
      rcases Nat.lt_or_gt_of_ne hij with hlt | hlt
      · have := h1 j (spn b) (by rw [List.getElem?_map, hb]; rfl) i (spn a) (by omega) (by rw [List.getElem?_map, ha]; rfl)
        exact (clash_iff h (Ne.symm hij) hb ha).1 this ⟨p2, p1, hc.2, hc.1⟩
      · have := h1 i (spn a) (by rw [List.getElem?_map, ha]; rfl) j (spn b) (by omega) (by rw [List.getElem?_map, hb]; rfl)
        exact (clash_iff h hij ha hb).1 this ⟨p1, p2, hc.1, hc.2⟩
    · rintro ⟨h1, h2⟩
      refine ⟨fun k x hk j y hj hy => ?_, h2⟩
      rw [List.getElem?_map] at hk hy
      obtain ⟨a, ha, rfl⟩ := Option.map_eq_some_iff.1 hk
      obtain ⟨b, hb, rfl⟩ := Option.map_eq_some_iff.1 hy
      exact (clash_iff h (by omega) ha hb).2 (fun ⟨p1, p2, p3⟩ => h1 k j a b (by omega) ha hb p1 p2 p3)
  unfold findOrderI ordI
  rw [if_pos h, spOf_eq h]
  have hpart : partOrd (f.map spn) (topSeq f) 0 0 f = true ↔ ∀ (i j : Nat) (a b : Bk), i ≠ j → f[i]? = some a → f[j]? = some b → partly a = true → partly b = false ∧ (0 < most a → most b ≤ most a) := by
    rw [partOrd_iff, Nat.zero_add, count_one]
    constructor
    · rintro ⟨h1, h2⟩ i j a b hij ha hb hp
      refine ⟨h2 i j a b hij ha hb hp, fun h0 => ?_⟩
      have := h1 i a ha hp
      rw [Nat.zero_add, hge i a ha] at this
      have h3 : most b ≤ topSeq f := le_topSeq (List.mem_of_getElem? hb)
      omega
    · intro h1
      refine ⟨fun k a ha hp => ?_, fun i j a b hij ha hb hp => (h1 i j a b hij ha hb hp).1⟩
      rw [Nat.zero_add, hge k a ha]
      rintro ⟨h2, h3⟩
      have : topSeq f ≤ most a := topSeq_le (by omega) (fun b hb => by
        obtain ⟨j, hj⟩ := List.mem_iff_getElem?.1 hb
        by_cases hkj : k = j
        · subst hkj
          rw [ha, Option.some.injEq] at hj
          rw [hj]; exact Int.le_refl _
        · exact (h1 k j a b hkj ha hj hp).2 h2)
      omega
  cases ho : ordGo (f.map spn) 0 0 (f.map spn) with
  | none =>
    constructor
    · intro h; cases h
    · intro hO
      have := (hord (topSeq f)).2 ⟨hO.apart, rfl⟩
      rw [ho] at this; cases this
  | some m =>
    obtain ⟨h1, rfl⟩ := (hord m).1 ho
    dsimp only
    rw [hpart]
    exact ⟨fun h2 => ⟨h1, h2⟩, fun h2 => h2.begun⟩
theorem order_ok {f : List Bk} (h : findOrderI f = true) : flashOk f = true := by
  unfold findOrderI at h
  split at h
  · assumption
  · cases h
end Go.Proofs.YtohkoogmbfaceaaGreat
namespace Go.Proofs.YtohkoogmbfaceaaGreat
set_option linter.unusedVariables false
set_option linter.unusedSimpArgs false
open Go.RowKit Go.Maps
set_option maxHeartbeats 400000
/-- of a clean last record the slow disk has the value -/
def diskBad (f : List Bk) (i : Nat) (v : Int) : Prop := 0 < (last f ((i : Int) + 1)).seq ∧ (last f ((i : Int) + 1)).kind = 2 ∧ (last f ((i : Int) + 1)).val ≠ v
instance (f : List Bk) (i : Nat) (v : Int) : Decidable (diskBad f i v) := by unfold diskBad; infer_instance
def diskGo (f : List Bk) : Nat → List Int → Bool
  | _, [] => true
  | i, v :: r => if valB v = true then (if diskBad f i v then false else diskGo f (i + 1) r) else false
def storeOk (s : St) : Bool := if s.disk.length = 6 then (if findOrderI s.flash = true then diskGo s.flash 0 s.disk else false) else false
theorem impl_isDirty (r : Rc) (w : World) : Calls Tryz.prog 43 #[.agg #[.int .i64 r.kind, .int .i64 r.seq, .int .i64 r.addr, .int .i64 r.val]] w fun e w' => e = .returned (.bool (decide (r.kind = 1))) ∧ Below w.heap.size w w' := by
  go_enter Tryz.func43, Tryz.ntmps43
  go_wp2
  go_ret
  exact ⟨ret_bool (by rw [Bool.eq_iff_iff]; simp), by (repeat (first | (with_reducible exact Below.refl _ _) | (with_reducible assumption) | (refine Below.setCell ?_ (by first | omega | exact hB.size | exact hb.size | (have h := hB.size; simp; omega) | (have h := hb.size; simp; omega) | (simp; omega) | simp) _) | (refine Below.alloc ?_ (by first | omega | exact hB.size | exact hb.size | (have h := hB.size; simp; omega) | (have h := hb.size; simp; omega) | (simp; omega) | simp) _) | (refine Below.drew ?_)))⟩
theorem ints_ne' {xs : List Int} (h : xs ≠ []) : ints xs ≠ [] := fun e => h (by
  have := congrArg List.length e
  rw [ints_len] at this
  exact List.length_eq_zero_iff.1 this)
theorem foundR_some {r : Rc} (h : 0 < r.seq) : foundR r = some r := by unfold foundR; rw [if_pos h]
theorem foundR_none {r : Rc} (h : ¬ 0 < r.seq) : foundR r = none := by unfold foundR; rw [if_neg h]
theorem last_pages {f : List Bk} (h : flashOk f = true) : ∀ b ∈ f, ∀ p ∈ b.pages, pageOk p = true := fun b hb => (bk_parts h hb).2.2.2
theorem last_kind {f : List Bk} (h : flashOk f = true) {a : Int} (h0 : 0 < (last f a).seq) : (last f a).kind = 1 ∨ (last f a).kind = 2 := by
  have := (last_found (last_pages h) h0).1
  unfold recOk kindB at this
  simp at this
  omega
set_option maxHeartbeats 4000000 in
set_option maxRecDepth 100000 in
theorem impl_StoreOk (s : St) (A D : Option Addr) (n m c d : Nat) (w : World) (hn : n = s.flash.length) (hm : m = s.disk.length) (hF : Fl w A s.flash) (hD : Row w D (ints s.disk)) :
    Calls Tryz.prog 30 #[.agg #[.slice A n c, .slice D m d]] w fun e w' => e = .returned (.bool (storeOk s)) ∧ Below w.heap.size w w' := by
  subst hn; subst hm
  have hB0 : Below w.heap.size w (w.alloc (.cells #[.slice A s.flash.length c, .slice D s.disk.length d] 27)) := (Below.refl _ _).alloc (Nat.le_refl _) _
  have hF0 := hF.below hB0 (Nat.le_refl _)
  have hD0 := hD.below hB0 (Nat.le_refl _)
  by_cases h6 : s.disk.length = 6
  · have H6 := Lib.hid h6
    have hfin : Hid (storeOk s = if findOrderI s.flash = true then diskGo s.flash 0 s.disk else false) := by unfold Hid storeOk; rw [if_pos h6]
    obtain ⟨db, dO, rfl⟩ := hD.addr (ints_ne' (by intro e; rw [e] at h6; simp at h6))
    rw [h6] at hB0 hF0 hD0 ⊢
    clear h6
    go_enter Tryz.func30, Tryz.ntmps30
    go_wp2_with fail
    refine (impl_FindOrder s.flash A _ c _ rfl hF0).mono ?_
    rintro e w1 ⟨rfl, hb⟩
    have hs1 := hb.size
    simp only [World.size_alloc] at hs1
    have x0 : w1.cell? ⟨w.heap.size, 0, none⟩ = some (.slice A s.flash.length c) := (hb.cell (p := ⟨w.heap.size, 0, none⟩) (by simp)).trans (by simp)
    have x1 : w1.cell? ⟨w.heap.size, 1, none⟩ = some (.slice (some ⟨db, dO, none⟩) 6 d) := (hb.cell (p := ⟨w.heap.size, 1, none⟩) (by simp)).trans (by simp)
    have hF1 := hF0.below hb (Nat.le_refl _)
    have hD1 := hD0.below hb (Nat.le_refl _)
    have hB1 := hB0.trans (hb.mono (by simp))
    clear hb hF0 hD0 hB0
    by_cases hord : findOrderI s.flash = true
    · have hok := order_ok hord
      have hfin2 : Hid (storeOk s = diskGo s.flash 0 s.disk) := by rw [Hid, hfin.out, if_pos hord]
      have hlm := Lib.hid (fun a => lastMap_eq hok a)
      have hkd := Lib.hid (fun a h => last_kind (a := a) hok h)
      have hrc := Lib.hid (fun a h => last_found (a := a) (last_pages hok) h)
      rw [hord]
      clear hord hfin
      go_wp2_with fail
      refine (impl_lastRecords s.flash A _ c _ rfl hok hF1).mono ?_
      rintro e w2 ⟨rfl, hM, hb⟩
      have hs2 := hb.size
      replace x0 := (hb.cell (p := ⟨w.heap.size, 0, none⟩) (by show w.heap.size < _; omega)).trans x0
      replace x1 := (hb.cell (p := ⟨w.heap.size, 1, none⟩) (by show w.heap.size < _; omega)).trans x1
      have hD2 := hD1.below hb (Nat.le_refl _)
      have hB2 := hB1.trans (hb.mono (by omega))
      have hMl := hM.lt
      clear hb hF1 hD1 hB1 hok
      go_wp2
      go_loopw [25] (fun i wr => ∃ k : Nat, k ≤ 6 ∧ i = .int .i64 k ∧ Below w2.heap.size w2 wr ∧ Hid (diskGo s.flash 0 s.disk = diskGo s.flash k (s.disk.drop k))) (fun i _ => 6 - (intOf i).toNat)
      case atStart => exact ⟨0, by omega, rfl, Below.refl _ _, rfl⟩
      case round =>
        obtain ⟨k, hk, rfl, hB, hT⟩ := hrel
        by_cases hlt : k < 6
        · obtain ⟨v, hv⟩ := get_some (l := s.disk) (k := k) (by rw [H6.out]; exact hlt)
          obtain ⟨cv, _⟩ := (hD2.below hB (Nat.le_refl _)).int_ hv
          have hk1 : (k : Int) < 6 := by omega
          have e1 : IntKind.i64.wrap ((k : Int) + 1) = (k : Int) + 1 := IntWalk.i64_in _ (by omega)
          have hT2 : Hid (diskGo s.flash 0 s.disk = if valB v = true then (if diskBad s.flash k v then false else diskGo s.flash (k + 1) (s.disk.drop (k + 1))) else false) := by rw [Hid, hT.out, drop_cons hv, diskGo]
          have hlk := (hM.below hB hMl).look_ok (t := 73) Tryz.underlying73 Tryz.underlying3 zero_rec (k := (k : Int) + 1) (wf_int (by omega))
          rw [hlm.out] at hlk
          have hkdk := Lib.hid (hkd.out ((k : Int) + 1))
          have hdb : Hid (diskBad s.flash k v ↔ (0 < (last s.flash ((k : Int) + 1)).seq ∧ (last s.flash ((k : Int) + 1)).kind = 2 ∧ (last s.flash ((k : Int) + 1)).val ≠ v)) := Iff.rfl
          generalize last s.flash ((k : Int) + 1) = r at *
          unfold rcV at hlk
          clear hv hT
          by_cases hvo : valB v = true
          · have hT3 := hT2.out
            rw [if_pos hvo] at hT3
            replace hT3 := Lib.hid hT3
            have hval := impl_valOk v wr
            rw [hvo] at hval
            clear hvo hT2
            by_cases hr : 0 < r.seq
            · rw [foundR_some hr] at hlk
              simp only [Option.getD_some, Option.isSome_some] at hlk
              have hBa : Below w2.heap.size w2 (wr.alloc (.cells #[.int .i64 r.kind, .int .i64 r.seq, .int .i64 r.addr, .int .i64 r.val] 64)) := hB.alloc hB.size _
              go_wp2_with fail
              refine hval.mono ?_
              rintro e w3 ⟨rfl, rfl⟩
              go_wp2_with fail
              refine (impl_isDirty r _).mono ?_
              rintro e w3 ⟨rfl, hb3⟩
              have y3 : w3.cell? ⟨wr.heap.size, 3, none⟩ = some (.int .i64 r.val) := (hb3.cell (p := ⟨wr.heap.size, 3, none⟩) (by simp)).trans (by simp)
              have hB3 := hBa.trans (hb3.mono (by have := hB.size; simp; omega))
              clear hb3 hBa hlk
              by_cases h1 : r.kind = 1
              · have hx := hT3.out
                rw [if_neg (fun e => by have := (hdb.out.1 e).2.1; omega)] at hx
                replace hx := Lib.hid hx
                rw [show decide (r.kind = 1) = true from decide_eq_true h1]
                clear hT3 h1
                go_wp2
                go_roundw
                (case rel => exact ⟨k + 1, by omega, by go_num, hB3, hx⟩)
                (case measure => simp [intOf]; omega)
              · have h2 : r.kind = 2 := by rcases hkdk.out hr with h | h; exact absurd h h1; exact h
                rw [show decide (r.kind = 1) = false from decide_eq_false h1]
                by_cases h3 : r.val = v
                · have hx := hT3.out
                  rw [if_neg (fun e => (hdb.out.1 e).2.2 h3)] at hx
                  replace hx := Lib.hid hx
                  have h3' : (r.val != v) = false := by rw [bne_eq_false_iff_eq]; exact h3
                  clear hT3 h1 h2 h3
                  go_wp2
                  go_roundw
                  (case rel => exact ⟨k + 1, by omega, by go_num, hB3, hx⟩)
                  (case measure => simp [intOf]; omega)
                · have hx := hT3.out
                  rw [if_pos (hdb.out.2 ⟨hr, h2, h3⟩)] at hx
                  replace hx := Lib.hid hx
                  have h3' : (r.val != v) = true := by rw [bne_iff_ne]; exact h3
                  clear hT3 h1 h2 h3
                  go_wp2
                  go_ret
                  exact ⟨ret_bool (by rw [hfin2.out, hx.out]), hB2.trans (hB3.mono (by omega))⟩
            · simp only [foundR_none hr, Option.getD_none, Option.isSome_none, rc0] at hlk
              have hx := hT3.out
              rw [if_neg (fun e => hr (hdb.out.1 e).1)] at hx
              replace hx := Lib.hid hx
              have hBa : Below w2.heap.size w2 (wr.alloc (.cells #[.int .i64 0, .int .i64 0, .int .i64 0, .int .i64 0] 64)) := hB.alloc hB.size _
              clear hT3
              go_wp2_with fail
              refine hval.mono ?_
              rintro e w3 ⟨rfl, rfl⟩
              go_wp2
              go_roundw
              (case rel => exact ⟨k + 1, by omega, by go_num, hBa, hx⟩)
              (case measure => simp [intOf]; omega)
          · have hx := hT2.out
            rw [if_neg hvo] at hx
            replace hx := Lib.hid hx
            have hval := impl_valOk v wr
            rw [show valB v = false from by simpa using hvo] at hval
            clear hvo hT2 hlk
            go_wp2_with fail
            refine hval.mono ?_
            rintro e w3 ⟨rfl, rfl⟩
            go_wp2
            go_ret
            exact ⟨ret_bool (by rw [hfin2.out, hx.out]), hB2.trans (hB.mono (by omega))⟩
        · have hk4 : (6 : Int) ≤ (k : Int) := by omega
          have hx : Hid (diskGo s.flash 0 s.disk = true) := by rw [Hid, hT.out, List.drop_of_length_le (by rw [H6.out]; omega)]; rfl
          clear hT
          go_wp2
          go_ret
          exact ⟨ret_bool (by rw [hfin2.out, hx.out]), hB2.trans (hB.mono (by omega))⟩
    · have hfin2 : Hid (storeOk s = false) := by rw [Hid, hfin.out, if_neg hord]
      rw [show findOrderI s.flash = false from by simpa using hord]
      clear hord
      go_wp2
      go_ret
      exact ⟨ret_bool hfin2.out.symm, hB1⟩
  · have hfin : Hid (storeOk s = false) := by unfold Hid storeOk; rw [if_neg h6]
    have h6' : ((s.disk.length : Int) != 6) = true := by rw [bne_iff_ne]; omega
    clear h6
    go_enter Tryz.func30, Tryz.ntmps30
    go_wp2
    go_ret
    exact ⟨ret_bool hfin.out.symm, hB0⟩
end Go.Proofs.YtohkoogmbfaceaaGreat
namespace Go.Proofs.YtohkoogmbfaceaaGreat
set_option linter.unusedVariables false
set_option linter.unusedSimpArgs false
open Go.RowKit Go.Maps
set_option maxHeartbeats 400000
end Go.Proofs.YtohkoogmbfaceaaGreat
namespace Go.Proofs.YtohkoogmbfaceaaGreat
set_option linter.unusedVariables false
set_option linter.unusedSimpArgs false
open Go.RowKit Go.Maps
set_option maxHeartbeats 400000
theorem storeOk_parts {s : St} (h : storeOk s = true) : s.disk.length = 6 ∧ findOrderI s.flash = true ∧ diskGo s.flash 0 s.disk = true := by
  unfold storeOk at h
  split at h
  · rename_i h1
    split at h
    · rename_i h2; exact ⟨h1, h2, h⟩
    · cases h
  · cases h
/-- a row of whole numbers of one's own, in a block from base on -/
def OwnI (w : World) (base : Nat) (v : Value) (xs : List Int) : Prop := w.ownsRow base 3 1 v xs.length (ints xs)
theorem OwnI.below {w w' : World} {base B : Nat} {v : Value} {xs : List Int} (h : OwnI w base v xs) (hb : Below B w w') (hB : w.heap.size ≤ B) : OwnI w' base v xs := ownsRow_keep h fun b _ hl => hb.block b (by omega)
theorem OwnI.agr {w w' : World} {base : Nat} {v : Value} {xs : List Int} {S : Nat → Prop} (h : OwnI w base v xs) (hb : Agr S w w') (hS : ∀ b, base ≤ b → ¬ S b) : OwnI w' base v xs := by
  refine ownsRow_keep h fun b hbl hl => hb.block b hl (hS b ?_)
  exact (World.ownsRow.lt h b hbl).1
theorem OwnI.alloc {w : World} {base : Nat} {v : Value} {xs : List Int} (h : OwnI w base v xs) (o : Obj) : OwnI (w.alloc o) base v xs := h.below (B := w.heap.size) ((Below.refl _ _).alloc (Nat.le_refl _) _) (Nat.le_refl _)
theorem OwnI.nil (w : World) (base : Nat) : OwnI w base (.slice none 0 0) [] := World.ownsRow_nil w base _ _
theorem OwnI.snoc {w : World} {base g n c : Nat} {xs : List Int} {x : Int} (hn : n = xs.length + 1) (h : w.ownsRow base 3 1 (.slice (some ⟨g, 0, none⟩) (xs.length + 1) c) (xs.length + 1) (ints xs ++ [.int .i64 x])) : OwnI w base (.slice (some ⟨g, 0, none⟩) n c) (xs ++ [x]) := by
  subst hn
  unfold OwnI ints
  rw [List.length_append, List.map_append]
  exact h
/-- a slice of one's own, written out -/
theorem OwnI.out {w : World} {base : Nat} {v : Value} {xs : List Int} (h : OwnI w base v xs) : ∃ A c, v = .slice A xs.length c ∧ Row w A (ints xs) ∧ (∀ b, blk A b → base ≤ b ∧ b < w.heap.size) ∧ xs.length ≤ c := by
  have h' := h
  obtain ⟨hl, ⟨hv, hz⟩ | ⟨g, cap, cur, hv, hb, hh, hnc, hm, hs, ht⟩⟩ := h
  · have hxs : xs = [] := List.eq_nil_of_length_eq_zero hz
    subst hxs
    exact ⟨none, 0, hv, Row.nil _ _, (fun b hb => by cases hb), Nat.le_refl _⟩
  · refine ⟨some ⟨g, 0, none⟩, cap, hv, ?_, fun b hb' => ?_, hnc⟩
    · rw [hv] at h'; exact Row.of_own h'
    · rw [blk_some] at hb'
      subst hb'
      exact ⟨hb, (Array.getElem?_eq_some_iff.1 hh).1⟩
end Go.Proofs.YtohkoogmbfaceaaGreat
namespace Go.Proofs.YtohkoogmbfaceaaGreat
set_option linter.unusedVariables false
set_option linter.unusedSimpArgs false
open Go.RowKit Go.Maps
set_option maxHeartbeats 400000
theorem OwnI.lit (w : World) (base : Nat) (hb : base ≤ w.heap.size) : OwnI (w.alloc (.cells #[] 3)) base (.slice (some ⟨w.heap.size, 0, none⟩) 0 0) [] := World.ownsRow_lit w #[] 0 hb (by unfold maxLen; omega) rfl
end Go.Proofs.YtohkoogmbfaceaaGreat
namespace Go.Proofs.YtohkoogmbfaceaaGreat
set_option linter.unusedVariables false
set_option linter.unusedSimpArgs false
theorem lastPs_none {a : Int} : ∀ {ps : List Pg} {o : Rc}, (∀ p ∈ ps, p.state ≠ 1) → lastPs a o ps = o
  | [], _, _ => rfl
  | p :: ps, o, h => by
    show lastPs a (lastStep a o p) ps = o
    have : lastStep a o p = o := by unfold lastStep; rw [if_neg (fun e => h p (List.mem_cons_self ..) e.1)]
    rw [this]
    exact lastPs_none fun q hq => h q (List.mem_cons_of_mem _ hq)
theorem last_none : ∀ {f : List Bk} {a : Int} {o : Rc}, (∀ b ∈ f, ∀ p ∈ b.pages, p.state ≠ 1) → f.foldl (fun o b => lastPs a o b.pages) o = o
  | [], _, _, _ => rfl
  | b :: f, a, o, h => by
    rw [List.foldl_cons, lastPs_none (h b (List.mem_cons_self ..))]
    exact last_none fun c hc => h c (List.mem_cons_of_mem _ hc)
theorem new_pages : ∀ b ∈ flashNew, ∀ p ∈ b.pages, p.state ≠ 1 := by decide
theorem last_new (a : Int) : last flashNew a = rc0 := last_none new_pages
theorem order_new : findOrderI flashNew = true := by decide
theorem diskGo_new : ∀ {xs : List Int} {i : Nat}, (∀ v ∈ xs, valB v = true) → diskGo flashNew i xs = true
  | [], _, _ => rfl
  | x :: xs, i, h => by
    unfold diskGo
    rw [if_pos (h x (List.mem_cons_self ..)), if_neg]
    · exact diskGo_new fun v hv => h v (List.mem_cons_of_mem _ hv)
    · unfold diskBad
      rw [last_new]
      rintro ⟨h0, _⟩
      exact absurd h0 (by decide)
theorem wiped_store {xs : List Int} (h6 : xs.length = 6) (hv : ∀ v ∈ xs, valB v = true) : storeOk ⟨flashNew, xs⟩ = true := by
  unfold storeOk
  rw [if_pos h6, if_pos order_new]
  exact diskGo_new hv
theorem disk0_vals : ∀ v ∈ disk0, valB v = true := by decide
theorem new_ok : storeOk ⟨flashNew, disk0⟩ = true := wiped_store rfl disk0_vals
end Go.Proofs.YtohkoogmbfaceaaGreat
namespace Go.Proofs.YtohkoogmbfaceaaGreat
set_option linter.unusedVariables false
set_option linter.unusedSimpArgs false
theorem most_cases {b : Bk} (hp : ∀ p ∈ b.pages, pageOk p = true) : (most b = 0 ∧ seqsP b.pages = []) ∨ (0 < most b ∧ most b ∈ seqsP b.pages ∧ least b ∈ seqsP b.pages ∧ 0 < least b ∧ least b ≤ most b) := by
  cases hs : seqsP b.pages with
  | nil => exact .inl ⟨most_none hp hs, rfl⟩
  | cons q r =>
    have hq : q ∈ seqsP b.pages := by rw [hs]; exact List.mem_cons_self ..
    have h1 := (seq_pos hp hq).1
    have h2 := most_le hp hq
    have h0 : 0 < most b := by omega
    rw [← hs]
    exact .inr ⟨h0, most_mem hp h0, least_mem hp h0, least_most hp h0⟩
theorem span_same {b c : Bk} (hb : ∀ p ∈ b.pages, pageOk p = true) (hc : ∀ p ∈ c.pages, pageOk p = true) (h : seqsP c.pages = seqsP b.pages) : most c = most b ∧ (0 < most b → least c = least b) := by
  rcases most_cases hb with ⟨b1, b2⟩ | ⟨b1, b2, b3, b4, b5⟩ <;> rcases most_cases hc with ⟨c1, c2⟩ | ⟨c1, c2, c3, c4, c5⟩
  · exact ⟨by omega, fun h => by omega⟩
  · rw [h, b2] at c2; cases c2
  · rw [← h, c2] at b2; cases b2
  · have m1 := most_le hb (h ▸ c2)
    have m2 := most_le hc (h.symm ▸ b2)
    have l1 := least_le hb (h ▸ c3)
    have l2 := least_le hc (h.symm ▸ b3)
    exact ⟨by omega, fun _ => by omega⟩
theorem span_put {b c : Bk} (hb : ∀ p ∈ b.pages, pageOk p = true) (hc : ∀ p ∈ c.pages, pageOk p = true) {s : Int} (h : (seqsP c.pages).Perm ([s] ++ seqsP b.pages)) (hs : most b < s) :
    most c = s ∧ (0 < most b → least c = least b) ∧ (most b = 0 → least c = s) := by
  have hm : ∀ q, q ∈ seqsP c.pages ↔ q = s ∨ q ∈ seqsP b.pages := fun q => by rw [h.mem_iff]; simp
  have hsm := (hm s).2 (.inl rfl)
  have h1 := most_le hc hsm
  rcases most_cases hc with ⟨c1, c2⟩ | ⟨c1, c2, c3, c4, c5⟩
  · rw [c2] at hsm; cases hsm
  · have hcs : most c = s := by
      rcases (hm _).1 c2 with e | e
      · exact e
      · have := most_le hb e; omega
    refine ⟨hcs, fun h0 => ?_, fun h0 => ?_⟩
    · have l1 := least_mem hb h0
      have l2 := least_le hc ((hm _).2 (.inr l1))
      rcases (hm _).1 c3 with e | e
      · have := least_most hb h0; omega
      · have := least_le hb e; omega
    · rcases (hm _).1 c3 with e | e
      · exact e
      · have := most_le hb e; have := (seq_pos hb e).1; omega
theorem clean4_none {b : Bk} (h4 : b.pages.length = 4) (hc : clean b = 4) : seqsP b.pages = [] := by
  have hall : ∀ p ∈ b.pages, isClean p = true := by
    rw [← List.countP_eq_length]
    have : b.pages.countP isClean = clean b := rfl
    omega
  unfold seqsP
  rw [List.map_eq_nil_iff, List.filter_eq_nil_iff]
  intro p hp
  have := hall p hp
  unfold isClean at this
  simp at this
  simp [this]
theorem getElem?_set_cases {α : Type} {l : List α} {i j : Nat} {x y : α} (h : (l.set i x)[j]? = some y) : (j = i ∧ y = x) ∨ (j ≠ i ∧ l[j]? = some y) := by
  by_cases hj : j = i
  · subst hj
    have hl := (List.getElem?_eq_some_iff.1 h).1
    rw [List.getElem?_set_self (by simpa using hl)] at h
    cases h
    exact .inl ⟨rfl, rfl⟩
  · rw [List.getElem?_set_ne (by omega)] at h
    exact .inr ⟨hj, h⟩
/-- block i alone may have been begun -/
def Sole (f : List Bk) (i : Nat) : Prop := ∀ (j : Nat) (c : Bk), j ≠ i → f[j]? = some c → partly c = false
theorem Sole.set {f : List Bk} {i : Nat} (h : Sole f i) (b : Bk) : Sole (f.set i b) i := fun j c hj hc => by
  rcases getElem?_set_cases hc with ⟨e, _⟩ | ⟨_, hc⟩
  · exact absurd e hj
  · exact h j c hj hc
theorem clean_part {b : Bk} (h4 : b.pages.length = 4) (hc : clean b ≠ 0) : partly b = true ∨ clean b = 4 := by
  have := clean_le4 h4
  by_cases h : clean b = 4
  · exact .inr h
  · left; unfold partly; simp; omega
theorem ord_put {f : List Bk} (h : flashOk f = true) (hO : Ord f) {i : Nat} {b : Bk} (hb : f[i]? = some b) {r : Rc} (hr : recOk r = true) (torn : Bool) (hc : clean b ≠ 0) (hS : Sole f i) (hs : ∀ c ∈ f, most c < r.seq) :
    Ord (f.set i (putBk b r torn)) := by
  have hbm := List.mem_of_getElem? hb
  obtain ⟨l4, _, _, hbp⟩ := bk_parts h hbm
  obtain ⟨_, kp, k3, k4, k5⟩ := putBk_parts h hbm hr torn hc
  have hbs := hs b hbm
  have hbn := most_nn hbp
  -- what the new block spans
  have hx : (most (putBk b r torn) = most b ∧ (0 < most b → least (putBk b r torn) = least b)) ∨ (most (putBk b r torn) = r.seq ∧ (0 < most b → least (putBk b r torn) = least b) ∧ (most b = 0 → least (putBk b r torn) = r.seq)) := by
    cases torn
    · exact .inr (span_put hbp kp (k5 rfl) hbs)
    · exact .inl (span_same hbp kp (k4 rfl))
  -- if it held a record it was begun: no other has a greater number
  have hbeg : 0 < most b → ∀ (j : Nat) (c : Bk), j ≠ i → f[j]? = some c → most c ≤ most b := fun h0 j c hj hcj => by
    rcases clean_part l4 hc with hp | h4
    · exact (hO.begun i j b c (Ne.symm hj) hb hcj hp).2 h0
    · have := most_none hbp (clean4_none l4 h4); omega
  have key : ∀ (j : Nat) (c : Bk), j ≠ i → f[j]? = some c → 0 < most (putBk b r torn) → 0 < most c → ¬ (least (putBk b r torn) < most c) := fun j c hj hcj h1 h2 hlt => by
    have hcm := List.mem_of_getElem? hcj
    have hcp := (bk_parts h hcm).2.2.2
    have hcs := hs c hcm
    by_cases h0 : 0 < most b
    · have hle := hbeg h0 j c hj hcj
      have e1 : least (putBk b r torn) = least b := by
        rcases hx with hx | hx
        · exact hx.2 h0
        · exact hx.2.1 h0
      have e2 : most c ≠ most b := fun e => seqs_apart ((flashOk_iff f).1 h).2.2 hj hcj hb (most_mem hcp h2) (e ▸ most_mem hbp h0)
      have := least_most hcp h2
      exact hO.apart i j b c (Ne.symm hj) hb hcj h0 h2 ⟨by omega, by omega⟩
    · rcases hx with hx | hx
      · omega
      · have := hx.2.2 (by omega); omega
  refine ⟨fun i' j a c hij ha hcj p1 p2 p3 => ?_, fun i' j a c hij ha hcj hp => ?_⟩
  · rcases getElem?_set_cases ha with ⟨rfl, rfl⟩ | ⟨hi, ha'⟩
    · rcases getElem?_set_cases hcj with ⟨rfl, _⟩ | ⟨hj, hcj⟩
      · exact hij rfl
      · exact key j c hj hcj p1 p2 p3.1
    · rcases getElem?_set_cases hcj with ⟨rfl, rfl⟩ | ⟨hj, hcj⟩
      · exact key i' a hi ha' p2 p1 p3.2
      · exact hO.apart i' j a c hij ha' hcj p1 p2 p3
  · rcases getElem?_set_cases ha with ⟨rfl, rfl⟩ | ⟨hi, ha'⟩
    · rcases getElem?_set_cases hcj with ⟨rfl, _⟩ | ⟨hj, hcj⟩
      · exact absurd rfl hij
      · refine ⟨hS j c hj hcj, fun h0 => ?_⟩
        have hcs := hs c (List.mem_of_getElem? hcj)
        rcases hx with hx | hx
        · have := hbeg (by omega) j c hj hcj; omega
        · omega
    · rw [hS i' a hi ha'] at hp; cases hp
theorem top_lt {f : List Bk} {c : Bk} (h : c ∈ f) : most c < next f := by
  have := le_topSeq (n := 0) h
  unfold next topSeq
  omega
theorem open_sole {f : List Bk} (h : flashOk f = true) (hO : Ord f) (ho : (openI f).2 = true) : ∃ (m : Nat) (b : Bk), openI f = ((m : Int), true) ∧ f[m]? = some b ∧ clean b ≠ 0 ∧ Sole f m := by
  obtain ⟨m, b, h1, h2, h3⟩ := open_true ho
  refine ⟨m, b, Prod.ext h1 ho, h2, by omega, fun j c hj hc => ?_⟩
  by_cases hp : partly c = true
  · exfalso
    unfold openI at h1
    cases hg : partGo 0 f with
    | some k =>
      obtain ⟨n, d, e1, e2, e3⟩ := partGo_some hg
      rw [hg] at h1
      have : n = m := by dsimp only at h1; omega
      subst this
      have := (hO.begun j n c d hj hc e2 hp).1
      rw [this] at e3; cases e3
    | none =>
      have := partGo_none hg c (List.mem_of_getElem? hc)
      rw [hp] at this; cases this
  · simpa using hp
/-- a wiped block holds no number and was not begun -/
theorem wiped_none (torn : Bool) (n : Int) : most ⟨List.replicate 4 (if torn then ⟨2, rc0⟩ else pg0), n⟩ = 0 ∧ partly ⟨List.replicate 4 (if torn then ⟨2, rc0⟩ else pg0), n⟩ = false := by
  cases torn
  · exact ⟨rfl, rfl⟩
  · exact ⟨rfl, rfl⟩
theorem ord_wipe {f : List Bk} (hO : Ord f) (hp : ∀ b ∈ f, 0 ≤ most b) (i : Nat) (torn : Bool) : Ord (wipe f i torn) := by
  obtain ⟨z1, z2⟩ := wiped_none torn ((f.getD i zbk).worn + 1)
  unfold wipe
  refine ⟨fun i' j a c hij ha hcj p1 p2 p3 => ?_, fun i' j a c hij ha hcj hq => ?_⟩
  · rcases getElem?_set_cases ha with ⟨rfl, rfl⟩ | ⟨hi, ha'⟩
    · omega
    · rcases getElem?_set_cases hcj with ⟨rfl, rfl⟩ | ⟨hj, hcj⟩
      · omega
      · exact hO.apart i' j a c hij ha' hcj p1 p2 p3
  · rcases getElem?_set_cases ha with ⟨rfl, rfl⟩ | ⟨hi, ha'⟩
    · rw [z2] at hq; cases hq
    · rcases getElem?_set_cases hcj with ⟨rfl, rfl⟩ | ⟨hj, hcj⟩
      · exact ⟨z2, fun _ => by have := hp a (List.mem_of_getElem? ha'); omega⟩
      · exact hO.begun i' j a c hij ha' hcj hq
/-! ### the eldest -/
theorem hiGo_min {ss : List Span} : ∀ (r : List Span) (i old : Nat), ss.drop i = r → old < ss.length → (∀ (k : Nat) (s : Span), k < i → ss[k]? = some s → (ss.getD old (0, 0)).2 ≤ s.2) →
    ∀ (k : Nat) (s : Span), ss[k]? = some s → (ss.getD (hiGo ss i old r) (0, 0)).2 ≤ s.2
  | [], i, old, hd, ho, h, k, s, hk => by
    have : ss.length ≤ i := by
      have := congrArg List.length hd
      simp at this
      omega
    exact h k s (by have := (List.getElem?_eq_some_iff.1 hk).1; omega) hk
  | a :: r, i, old, hd, ho, h, k, s, hk => by
    have ha : ss[i]? = some a := by
      have : (ss.drop i)[0]? = some a := by rw [hd]; rfl
      simpa using this
    have hd' : ss.drop (i + 1) = r := by
      have : (ss.drop i).drop 1 = r := by rw [hd]; rfl
      simpa [List.drop_drop, Nat.add_comm] using this
    have hga : ss.getD i (0, 0) = a := by rw [List.getD_eq_getElem?_getD, ha]; rfl
    unfold hiGo
    by_cases hc : a.2 < (ss.getD old (0, 0)).2
    · rw [if_pos hc]
      refine hiGo_min r (i + 1) i hd' (List.getElem?_eq_some_iff.1 ha).1 (fun k s hk1 hks => ?_) k s hk
      rw [hga]
      by_cases hki : k = i
      · subst hki; rw [ha] at hks; cases hks; exact Int.le_refl _
      · have := h k s (by omega) hks; omega
    · rw [if_neg hc]
      refine hiGo_min r (i + 1) old hd' ho (fun k s hk1 hks => ?_) k s hk
      by_cases hki : k = i
      · subst hki; rw [ha] at hks; cases hks; omega
      · exact h k s (by omega) hks
theorem findOld_min {f : List Bk} (h : flashOk f = true) {m : Nat} (hm : findOld f = m) {b : Bk} (hb : f[m]? = some b) : ∀ c ∈ f, most b ≤ most c := by
  have hl := flashOk_len h
  unfold findOld at hm
  rw [if_pos h, spOf_eq h] at hm
  have hm' : hiGo (f.map spn) 0 0 (f.map spn) = m := by omega
  intro c hc
  obtain ⟨k, hk⟩ := List.mem_iff_getElem?.1 hc
  have := hiGo_min (ss := f.map spn) (f.map spn) 0 0 rfl (by simp; omega) (fun k s hk => by omega) k (spn c) (by rw [List.getElem?_map, hk]; rfl)
  rw [hm', List.getD_eq_getElem?_getD, List.getElem?_map, hb] at this
  exact this
/-! ### the eldest wiped and written full -/
end Go.Proofs.YtohkoogmbfaceaaGreat
namespace Go.Proofs.YtohkoogmbfaceaaGreat
set_option linter.unusedVariables false
set_option linter.unusedSimpArgs false
/-- r is the record of a written page -/
def Wr (b : Bk) (r : Rc) : Prop := ∃ p ∈ b.pages, p.state = 1 ∧ p.rc = r
def Has (f : List Bk) (r : Rc) : Prop := ∃ b ∈ f, Wr b r
theorem wr_seq {b : Bk} {r : Rc} (h : Wr b r) : r.seq ∈ seqsP b.pages := by
  obtain ⟨p, hp, h1, rfl⟩ := h
  exact mem_seqsP.2 ⟨p, hp, h1, rfl⟩
theorem has_ok {f : List Bk} (h : flashOk f = true) {r : Rc} (hr : Has f r) : recOk r = true := by
  obtain ⟨b, hb, p, hp, h1, rfl⟩ := hr
  exact rec_of_written ((bk_parts h hb).2.2.2 p hp) h1
theorem has_pos {f : List Bk} (h : flashOk f = true) {r : Rc} (hr : Has f r) : 1 ≤ r.seq := by
  have := recOk_addr (has_ok h hr); omega
theorem lastPs_spec (a : Int) : ∀ (ps : List Pg) (o : Rc), o.seq ≤ (lastPs a o ps).seq ∧ (∀ p ∈ ps, p.state = 1 → p.rc.addr = a → p.rc.seq ≤ (lastPs a o ps).seq) ∧ (lastPs a o ps = o ∨ ∃ p ∈ ps, p.state = 1 ∧ p.rc.addr = a ∧ p.rc = lastPs a o ps)
  | [], o => ⟨Int.le_refl _, fun p hp => (by cases hp), .inl rfl⟩
  | p :: ps, o => by
    obtain ⟨i1, i2, i3⟩ := lastPs_spec a ps (lastStep a o p)
    have he : lastPs a o (p :: ps) = lastPs a (lastStep a o p) ps := rfl
    rw [he]
    have hs : lastStep a o p = o ∨ (p.state = 1 ∧ p.rc.addr = a ∧ o.seq < p.rc.seq ∧ lastStep a o p = p.rc) := by
      unfold lastStep
      split
      · rename_i h; exact .inr ⟨h.1, h.2.1, h.2.2, rfl⟩
      · exact .inl rfl
    have hle : o.seq ≤ (lastStep a o p).seq := by
      rcases hs with hs | ⟨_, _, h3, hs⟩
      · rw [hs]; exact Int.le_refl _
      · rw [hs]; omega
    refine ⟨by omega, fun q hq h1 h2 => ?_, ?_⟩
    · rcases List.mem_cons.1 hq with rfl | hq
      · have : q.rc.seq ≤ (lastStep a o q).seq := by
          unfold lastStep
          split
          · exact Int.le_refl _
          · rename_i hn
            have : ¬ o.seq < q.rc.seq := fun e => hn ⟨h1, h2, e⟩
            omega
        omega
      · exact i2 q hq h1 h2
    · rcases i3 with i3 | ⟨q, hq, q1, q2, q3⟩
      · rcases hs with hs | ⟨h1, h2, _, hs⟩
        · exact .inl (i3.trans hs)
        · exact .inr ⟨p, List.mem_cons_self .., h1, h2, (i3.trans hs).symm⟩
      · exact .inr ⟨q, List.mem_cons_of_mem _ hq, q1, q2, q3⟩
theorem lastF_spec (a : Int) : ∀ (f : List Bk) (o : Rc), o.seq ≤ (f.foldl (fun o b => lastPs a o b.pages) o).seq ∧ (∀ r, Has f r → r.addr = a → r.seq ≤ (f.foldl (fun o b => lastPs a o b.pages) o).seq) ∧
    (f.foldl (fun o b => lastPs a o b.pages) o = o ∨ (Has f (f.foldl (fun o b => lastPs a o b.pages) o) ∧ (f.foldl (fun o b => lastPs a o b.pages) o).addr = a))
  | [], o => ⟨Int.le_refl _, fun r hr => (by obtain ⟨b, hb, _⟩ := hr; cases hb), .inl rfl⟩
  | b :: f, o => by
    obtain ⟨p1, p2, p3⟩ := lastPs_spec a b.pages o
    obtain ⟨i1, i2, i3⟩ := lastF_spec a f (lastPs a o b.pages)
    rw [List.foldl_cons]
    refine ⟨by omega, fun r hr h => ?_, ?_⟩
    · obtain ⟨c, hc, p, hp, q1, rfl⟩ := hr
      rcases List.mem_cons.1 hc with rfl | hc
      · have := p2 p hp q1 h; omega
      · exact i2 p.rc ⟨c, hc, p, hp, q1, rfl⟩ h
    · rcases i3 with i3 | ⟨⟨c, hc, hw⟩, i4⟩
      · rcases p3 with p3 | ⟨p, hp, q1, q2, q3⟩
        · exact .inl (i3.trans p3)
        · refine .inr ⟨⟨b, List.mem_cons_self .., p, hp, q1, ?_⟩, ?_⟩
          · rw [i3]; exact q3
          · rw [i3, ← q3]; exact q2
      · exact .inr ⟨⟨c, List.mem_cons_of_mem _ hc, hw⟩, i4⟩
theorem last_max {f : List Bk} {r : Rc} (hr : Has f r) : r.seq ≤ (last f r.addr).seq := (lastF_spec r.addr f rc0).2.1 r hr rfl
theorem last_has (f : List Bk) (a : Int) : last f a = rc0 ∨ (Has f (last f a) ∧ (last f a).addr = a) := (lastF_spec a f rc0).2.2
theorem last_pos {f : List Bk} {a : Int} (h : 0 < (last f a).seq) : Has f (last f a) ∧ (last f a).addr = a := by
  rcases last_has f a with e | e
  · rw [e] at h; exact absurd h (by decide)
  · exact e
theorem nodup_inj {α β : Type} {g : α → β} : ∀ {l : List α}, (l.map g).Nodup → ∀ {x y : α}, x ∈ l → y ∈ l → g x = g y → x = y
  | [], _, x, y, hx, _, _ => by cases hx
  | a :: l, hn, x, y, hx, hy, he => by
    rw [List.map_cons, List.nodup_cons] at hn
    rcases List.mem_cons.1 hx with ex | hx' <;> rcases List.mem_cons.1 hy with ey | hy'
    · rw [ex, ey]
    · rw [ex] at he
      exact absurd (List.mem_map.2 ⟨y, hy', he.symm⟩) hn.1
    · rw [ey] at he
      exact absurd (List.mem_map.2 ⟨x, hx', he⟩) hn.1
    · exact nodup_inj hn.2 hx' hy' he
theorem seqs_nodup : ∀ {f : List Bk}, (seqsF f).Nodup → ∀ b ∈ f, (seqsP b.pages).Nodup
  | [], _, b, hb => by cases hb
  | c :: f, hn, b, hb => by
    rw [show seqsF (c :: f) = seqsP c.pages ++ seqsF f from by simp [seqsF], List.nodup_append] at hn
    rcases List.mem_cons.1 hb with rfl | hb
    · exact hn.1
    · exact seqs_nodup hn.2.1 b hb
theorem wr_inj {f : List Bk} (h : flashOk f = true) {i j : Nat} {b c : Bk} {r q : Rc} (hb : f[i]? = some b) (hc : f[j]? = some c) (hr : Wr b r) (hq : Wr c q) (he : r.seq = q.seq) : i = j ∧ r = q := by
  have hn := ((flashOk_iff f).1 h).2.2
  have hij : i = j := by
    by_cases hij : i = j
    · exact hij
    · exact absurd (he ▸ wr_seq hq) (seqs_apart hn hij hb hc (wr_seq hr))
  subst hij
  rw [hb, Option.some.injEq] at hc
  subst hc
  refine ⟨rfl, ?_⟩
  obtain ⟨p, hp, p1, rfl⟩ := hr
  obtain ⟨p', hp', p1', rfl⟩ := hq
  have hnb := seqs_nodup hn b (List.mem_of_getElem? hb)
  unfold seqsP at hnb
  have := nodup_inj hnb (List.mem_filter.2 ⟨hp, by simpa using p1⟩) (List.mem_filter.2 ⟨hp', by simpa using p1'⟩) he
  rw [this]
theorem has_inj {f : List Bk} (h : flashOk f = true) {r q : Rc} (hr : Has f r) (hq : Has f q) (he : r.seq = q.seq) : r = q := by
  obtain ⟨b, hb, hr⟩ := hr
  obtain ⟨c, hc, hq⟩ := hq
  obtain ⟨i, hi⟩ := List.mem_iff_getElem?.1 hb
  obtain ⟨j, hj⟩ := List.mem_iff_getElem?.1 hc
  exact (wr_inj h hi hj hr hq he).2
theorem last_eq {f : List Bk} (h : flashOk f = true) {r : Rc} (hr : Has f r) (hm : ∀ q, Has f q → q.addr = r.addr → q.seq ≤ r.seq) : last f r.addr = r := by
  have h1 := last_max hr
  have h2 := has_pos h hr
  obtain ⟨h3, h4⟩ := last_pos (f := f) (a := r.addr) (by omega)
  have h5 := hm _ h3 h4
  exact has_inj h h3 hr (by omega)
theorem last_noneB {f : List Bk} {a : Int} (h : ∀ r, Has f r → r.addr ≠ a) : last f a = rc0 := by
  rcases last_has f a with e | e
  · exact e
  · exact absurd e.2 (h _ e.1)
theorem last_congr {f g : List Bk} (hf : flashOk f = true) (hg : flashOk g = true) {a : Int} (h : ∀ r, r.addr = a → (Has f r ↔ Has g r)) : last g a = last f a := by
  rcases last_has f a with e | ⟨e1, e2⟩
  · rw [e]
    refine last_noneB fun r hr ha => ?_
    have h1 := (h r ha).2 hr
    have h2 := last_max h1
    have h3 := has_pos hf h1
    rw [ha, e] at h2
    have : rc0.seq = 0 := rfl
    omega
  · have h1 := (h _ e2).1 e1
    have := last_eq hg h1 (fun q hq ha => by
      have h3 := (h q (ha.trans e2)).2 hq
      have := last_max h3
      rwa [ha, e2] at this)
    rwa [e2] at this
/-! ### a record written -/
theorem wr_put {f : List Bk} (h : flashOk f = true) {b : Bk} (hb : b ∈ f) {r : Rc} (hr : recOk r = true) (torn : Bool) (hc : clean b ≠ 0) (x : Rc) : Wr (putBk b r torn) x ↔ (torn = false ∧ x = r) ∨ Wr b x := by
  obtain ⟨l4, _, hs, hbp⟩ := bk_parts h hb
  obtain ⟨_, ⟨p, hp, hp0⟩, _⟩ := shape_put l4 hs (putPg_ok hr torn).2 hc
  have hk := (List.getElem?_eq_some_iff.1 hp).1
  unfold putBk
  constructor
  · rintro ⟨q, hq, q1, rfl⟩
    dsimp only at hq
    obtain ⟨j, hj⟩ := List.mem_iff_getElem?.1 hq
    rcases getElem?_set_cases hj with ⟨_, rfl⟩ | ⟨_, hj⟩
    · cases torn
      · exact .inl ⟨rfl, rfl⟩
      · exact absurd q1 (by show ¬ (2 : Int) = 1; decide)
    · exact .inr ⟨q, List.mem_of_getElem? hj, q1, rfl⟩
  · rintro (⟨rfl, rfl⟩ | ⟨q, hq, q1, rfl⟩)
    · exact ⟨⟨1, x⟩, List.mem_iff_getElem?.2 ⟨_, List.getElem?_set_self hk⟩, rfl, rfl⟩
    · obtain ⟨j, hj⟩ := List.mem_iff_getElem?.1 hq
      have hne : 4 - b.pages.countP isClean ≠ j := fun e => by
        rw [← e, hp, Option.some.injEq] at hj
        rw [hj] at hp0
        omega
      exact ⟨q, List.mem_iff_getElem?.2 ⟨j, by show (b.pages.set (4 - b.pages.countP isClean) (putPg r torn))[j]? = _; rw [List.getElem?_set_ne hne]; exact hj⟩, q1, rfl⟩
theorem has_put {f : List Bk} (h : flashOk f = true) {i : Nat} {b : Bk} (hb : f[i]? = some b) {r : Rc} (hr : recOk r = true) (torn : Bool) (hc : clean b ≠ 0) (x : Rc) : Has (f.set i (putBk b r torn)) x ↔ (torn = false ∧ x = r) ∨ Has f x := by
  have hw := wr_put h (List.mem_of_getElem? hb) hr torn hc x
  have hi := (List.getElem?_eq_some_iff.1 hb).1
  constructor
  · rintro ⟨c, hc', hx⟩
    obtain ⟨j, hj⟩ := List.mem_iff_getElem?.1 hc'
    rcases getElem?_set_cases hj with ⟨_, rfl⟩ | ⟨_, hj⟩
    · rcases hw.1 hx with hx | hx
      · exact .inl hx
      · exact .inr ⟨b, List.mem_of_getElem? hb, hx⟩
    · exact .inr ⟨c, List.mem_of_getElem? hj, hx⟩
  · rintro (hx | ⟨c, hc', hx⟩)
    · exact ⟨_, List.mem_iff_getElem?.2 ⟨i, List.getElem?_set_self hi⟩, hw.2 (.inl hx)⟩
    · obtain ⟨j, hj⟩ := List.mem_iff_getElem?.1 hc'
      by_cases hij : i = j
      · subst hij
        rw [hb, Option.some.injEq] at hj
        subst hj
        exact ⟨_, List.mem_iff_getElem?.2 ⟨i, List.getElem?_set_self hi⟩, hw.2 (.inr hx)⟩
      · exact ⟨c, List.mem_iff_getElem?.2 ⟨j, by rw [List.getElem?_set_ne hij]; exact hj⟩, hx⟩
theorem has_below {f : List Bk} (h : flashOk f = true) {s : Int} (hs : ∀ c ∈ f, most c < s) {x : Rc} (hx : Has f x) : x.seq < s := by
  obtain ⟨c, hc, hw⟩ := hx
  have := most_le (bk_parts h hc).2.2.2 (wr_seq hw)
  have := hs c hc
  omega
theorem not_seqIn {f : List Bk} (h : flashOk f = true) {s : Int} (hs : ∀ c ∈ f, most c < s) : seqIn f s ≠ true := fun e => by
  obtain ⟨c, hc, hq⟩ := mem_seqsF.1 (seqIn_iff.1 e)
  have := most_le (bk_parts h hc).2.2.2 hq
  have := hs c hc
  omega
theorem last_put {f : List Bk} (h : flashOk f = true) {i : Nat} {b : Bk} (hb : f[i]? = some b) {r : Rc} (hr : recOk r = true) (hc : clean b ≠ 0) (hs : ∀ c ∈ f, most c < r.seq) (a : Int) :
    last (f.set i (putBk b r false)) a = if a = r.addr then r else last f a := by
  have hok := put_ok4 h hb hr false hc (not_seqIn h hs)
  by_cases ha : a = r.addr
  · rw [if_pos ha, ha]
    refine last_eq hok ((has_put h hb hr false hc r).2 (.inl ⟨rfl, rfl⟩)) fun q hq _ => ?_
    rcases (has_put h hb hr false hc q).1 hq with ⟨_, rfl⟩ | hq
    · exact Int.le_refl _
    · have := has_below h hs hq; omega
  · rw [if_neg ha]
    refine last_congr h hok fun x hx => ?_
    rw [has_put h hb hr false hc x]
    constructor
    · exact .inr
    · rintro (⟨_, rfl⟩ | hx')
      · exact absurd hx.symm ha
      · exact hx'
theorem last_torn {f : List Bk} (h : flashOk f = true) {i : Nat} {b : Bk} (hb : f[i]? = some b) {r : Rc} (hr : recOk r = true) (hc : clean b ≠ 0) (hs : ∀ c ∈ f, most c < r.seq) (a : Int) :
    last (f.set i (putBk b r true)) a = last f a := by
  have hok := put_ok4 h hb hr true hc (not_seqIn h hs)
  refine last_congr h hok fun x hx => ?_
  rw [has_put h hb hr true hc x]
  simp
/-! ### a block wiped -/
theorem has_wipe {f : List Bk} {i : Nat} (hi : i < f.length) (torn : Bool) (x : Rc) : Has (wipe f i torn) x ↔ ∃ (j : Nat) (c : Bk), j ≠ i ∧ f[j]? = some c ∧ Wr c x := by
  constructor
  · rintro ⟨c, hc, hx⟩
    obtain ⟨j, hj⟩ := List.mem_iff_getElem?.1 hc
    unfold wipe at hj
    rcases getElem?_set_cases hj with ⟨_, rfl⟩ | ⟨hne, hj⟩
    · obtain ⟨p, hp, p1, _⟩ := hx
      dsimp only at hp
      rw [List.mem_replicate] at hp
      rw [hp.2] at p1
      cases torn
      · exact absurd p1 (by show ¬ (0 : Int) = 1; decide)
      · exact absurd p1 (by show ¬ (2 : Int) = 1; decide)
    · exact ⟨j, c, hne, hj, hx⟩
  · rintro ⟨j, c, hne, hj, hx⟩
    exact ⟨c, List.mem_iff_getElem?.2 ⟨j, by rw [wipe_ne hne]; exact hj⟩, hx⟩
/-- the eldest block's records are the eldest -/
theorem eldest {f : List Bk} (h : flashOk f = true) (hO : Ord f) {i j : Nat} {b c : Bk} (hij : j ≠ i) (hb : f[i]? = some b) (hc : f[j]? = some c) (hmin : ∀ d ∈ f, most b ≤ most d) {r q : Rc} (hr : Wr b r) (hq : Wr c q) : r.seq < q.seq := by
  have pb := (bk_parts h (List.mem_of_getElem? hb)).2.2.2
  have pc := (bk_parts h (List.mem_of_getElem? hc)).2.2.2
  have b1 := most_le pb (wr_seq hr)
  have b2 := least_le pb (wr_seq hr)
  have c1 := most_le pc (wr_seq hq)
  have c2 := least_le pc (wr_seq hq)
  have p1 := (seq_pos pb (wr_seq hr)).1
  have p2 := (seq_pos pc (wr_seq hq)).1
  have h1 := hO.apart i j b c (Ne.symm hij) hb hc (by omega) (by omega)
  have h2 := hmin c (List.mem_of_getElem? hc)
  have hne : r.seq ≠ q.seq := fun e => hij (wr_inj h hb hc hr hq e).1.symm
  have h3 : most b ≠ most c := fun e => seqs_apart ((flashOk_iff f).1 h).2.2 (Ne.symm hij) hb hc (most_mem pb (by omega)) (e ▸ most_mem pc (by omega))
  have h4 := least_most pb (by omega)
  have h5 := least_most pc (by omega)
  have h6 : least c ≠ most b := fun e => seqs_apart ((flashOk_iff f).1 h).2.2 (Ne.symm hij) hb hc (most_mem pb (by omega)) (e ▸ least_mem pc (by omega))
  by_cases h7 : least c < most b
  · exact absurd ⟨by omega, h7⟩ h1
  · omega
theorem last_wipe {f : List Bk} (h : flashOk f = true) (hO : Ord f) {i : Nat} {b : Bk} (hb : f[i]? = some b) (hmin : ∀ d ∈ f, most b ≤ most d) (hw : b.worn ≠ 200) (torn : Bool) (a : Int) :
    (Wr b (last f a) → last (wipe f i torn) a = rc0) ∧ (¬ Wr b (last f a) → last (wipe f i torn) a = last f a) := by
  have hi := (List.getElem?_eq_some_iff.1 hb).1
  have hok := wiped_ok h (by rw [flashOk_len h] at hi; exact hi) torn (by rw [getD_of hb]; exact hw)
  constructor
  · intro hl
    refine last_noneB fun x hx ha => ?_
    obtain ⟨j, c, hne, hj, hx⟩ := (has_wipe hi torn x).1 hx
    have h1 := eldest h hO hne hb hj hmin hl hx
    have h2 := last_max (f := f) ⟨c, List.mem_of_getElem? hj, hx⟩
    rw [ha] at h2
    omega
  · intro hl
    rcases last_has f a with e | ⟨⟨c, hc, hx⟩, e2⟩
    · rw [e]
      refine last_noneB fun x hx ha => ?_
      obtain ⟨j, c, hne, hj, hx⟩ := (has_wipe hi torn x).1 hx
      have hh : Has f x := ⟨c, List.mem_of_getElem? hj, hx⟩
      have h2 := last_max hh
      have h3 := has_pos h hh
      rw [ha, e] at h2
      have : rc0.seq = 0 := rfl
      omega
    · obtain ⟨j, hj⟩ := List.mem_iff_getElem?.1 hc
      have hne : j ≠ i := by
        rintro rfl
        rw [hb, Option.some.injEq] at hj
        subst hj
        exact hl hx
      have := last_eq hok ((has_wipe hi torn _).2 ⟨j, c, hne, hj, hx⟩) (fun q hq ha => by
        obtain ⟨j', c', _, hj', hq⟩ := (has_wipe hi torn q).1 hq
        have := last_max (f := f) ⟨c', List.mem_of_getElem? hj', hq⟩
        rwa [ha, e2] at this)
      rwa [e2] at this
end Go.Proofs.YtohkoogmbfaceaaGreat
namespace Go.Proofs.YtohkoogmbfaceaaGreat
set_option linter.unusedVariables false
set_option linter.unusedSimpArgs false
theorem diskGo_iff {f : List Bk} : ∀ (xs : List Int) (i : Nat), diskGo f i xs = true ↔ ∀ (k : Nat) (v : Int), xs[k]? = some v → valB v = true ∧ ¬ diskBad f (i + k) v
  | [], i => by simp [diskGo]
  | x :: xs, i => by
    unfold diskGo
    constructor
    · intro h k v hk
      split at h
      · rename_i h1
        split at h
        · cases h
        · rename_i h2
          cases k with
          | zero => rw [List.getElem?_cons_zero, Option.some.injEq] at hk; subst hk; exact ⟨h1, h2⟩
          | succ k =>
            have := (diskGo_iff xs (i + 1)).1 h k v (by simpa using hk)
            rwa [show i + 1 + k = i + (k + 1) by omega] at this
      · cases h
    · intro h
      have h0 := h 0 x rfl
      rw [if_pos h0.1, if_neg (by simpa using h0.2)]
      refine (diskGo_iff xs (i + 1)).2 fun k v hk => ?_
      have := h (k + 1) v (by simpa using hk)
      rwa [show i + (k + 1) = i + 1 + k by omega] at this
/-- the value of an address on the slow disk -/
def dk (s : St) (a : Int) : Int := s.disk.getD (a - 1).toNat 0
structure Okay (s : St) : Prop where
  len : s.disk.length = 6
  ord : findOrderI s.flash = true
  val : ∀ a : Int, 1 ≤ a → a ≤ 6 → valB (dk s a) = true
  agree : ∀ a : Int, 1 ≤ a → a ≤ 6 → 0 < (last s.flash a).seq → (last s.flash a).kind = 2 → (last s.flash a).val = dk s a
theorem dk_get {s : St} (h6 : s.disk.length = 6) {a : Int} (h1 : 1 ≤ a) (h2 : a ≤ 6) : s.disk[(a - 1).toNat]? = some (dk s a) := by
  obtain ⟨v, hv⟩ := get_some (l := s.disk) (k := (a - 1).toNat) (by omega)
  unfold dk
  rw [List.getD_eq_getElem?_getD, hv]; rfl
theorem dk_at {s : St} {k : Nat} {v : Int} (h : s.disk[k]? = some v) : dk s ((k : Int) + 1) = v := by
  unfold dk
  rw [show ((k : Int) + 1 - 1).toNat = k by omega, List.getD_eq_getElem?_getD, h]; rfl
theorem storeOk_iff {s : St} : storeOk s = true ↔ Okay s := by
  constructor
  · intro h
    obtain ⟨h6, ho, hd⟩ := storeOk_parts h
    have hd' := (diskGo_iff s.disk 0).1 hd
    refine ⟨h6, ho, fun a h1 h2 => (hd' _ _ (dk_get h6 h1 h2)).1, fun a h1 h2 h3 h4 => ?_⟩
    have := (hd' _ _ (dk_get h6 h1 h2)).2
    unfold diskBad at this
    rw [show ((0 + (a - 1).toNat : Nat) : Int) + 1 = a by omega] at this
    by_cases he : (last s.flash a).val = dk s a
    · exact he
    · exact absurd ⟨h3, h4, he⟩ this
  · intro h
    unfold storeOk
    rw [if_pos h.len, if_pos h.ord]
    refine (diskGo_iff s.disk 0).2 fun k v hk => ?_
    have hk6 : k < 6 := by rw [← h.len]; exact (List.getElem?_eq_some_iff.1 hk).1
    have e := dk_at hk
    have h1 := h.val ((k : Int) + 1) (by omega) (by omega)
    have h2 := h.agree ((k : Int) + 1) (by omega) (by omega)
    rw [e] at h1 h2
    refine ⟨h1, ?_⟩
    unfold diskBad
    rw [Nat.zero_add]
    rintro ⟨h3, h4, h5⟩
    exact h5 (h2 h3 h4)
theorem readV_dk (s : St) (a : Int) : readV s a = if 0 < (last s.flash a).seq then (last s.flash a).val else dk s a := rfl
def Same (s t : St) : Prop := ∀ a : Int, 1 ≤ a → a ≤ 6 → readV t a = readV s a
theorem Same.refl (s : St) : Same s s := fun _ _ _ => rfl
theorem Same.trans {s t u : St} (h : Same s t) (k : Same t u) : Same s u := fun a h1 h2 => (k a h1 h2).trans (h a h1 h2)
theorem Okay.flash {s : St} (h : Okay s) : flashOk s.flash = true := order_ok h.ord
theorem Okay.isOrd {s : St} (h : Okay s) : Ord s.flash := (findOrderI_iff h.flash).1 h.ord
theorem dk_set {s : St} (h6 : s.disk.length = 6) {a b v : Int} (h1 : 1 ≤ a) (h2 : a ≤ 6) (h3 : 1 ≤ b) : dk ⟨s.flash, s.disk.set (a - 1).toNat v⟩ b = if b = a then v else dk s b := by
  unfold dk
  rw [List.getD_eq_getElem?_getD, List.getD_eq_getElem?_getD]
  by_cases hb : b = a
  · subst hb
    rw [if_pos rfl, List.getElem?_set_self (by omega)]; rfl
  · rw [if_neg hb, List.getElem?_set_ne (by omega)]
/-- a value told that has a dirty record -/
theorem tell_ok {s : St} (h : Okay s) {a v : Int} (h1 : 1 ≤ a) (h2 : a ≤ 6) (hv : valB v = true) (hl : 0 < (last s.flash a).seq) (hk : (last s.flash a).kind = 1) :
    Okay ⟨s.flash, s.disk.set (a - 1).toNat v⟩ ∧ Same s ⟨s.flash, s.disk.set (a - 1).toNat v⟩ := by
  refine ⟨⟨by rw [List.length_set]; exact h.len, h.ord, fun b b1 b2 => ?_, fun b b1 b2 b3 b4 => ?_⟩, fun b b1 b2 => ?_⟩
  · rw [dk_set h.len h1 h2 b1]
    split
    · exact hv
    · exact h.val b b1 b2
  · dsimp only at b3 b4 ⊢
    rw [dk_set h.len h1 h2 b1]
    split
    · rename_i e; subst e; omega
    · exact h.agree b b1 b2 b3 b4
  · rw [readV_dk, readV_dk, dk_set h.len h1 h2 b1]
    dsimp only
    by_cases e : b = a
    · subst e; rw [if_pos hl, if_pos hl]
    · rw [if_neg e]
/-! ### a run of steps, safe wherever it falls -/
def Safe (K E : St → Prop) : St → List Sp → Prop
  | s, [] => E s
  | s, x :: xs => K s ∧ K (doStep s x true) ∧ Safe K E (doStep s x false) xs
theorem Safe.mono {K E K' E' : St → Prop} (hK : ∀ s, K s → K' s) (hE : ∀ s, E s → E' s) : ∀ {xs : List Sp} {s : St}, Safe K E s xs → Safe K' E' s xs
  | [], _, h => hE _ h
  | _ :: _, _, h => ⟨hK _ h.1, hK _ h.2.1, Safe.mono hK hE h.2.2⟩
theorem Safe.append {K E : St → Prop} {ys : List Sp} : ∀ {xs : List Sp} {s : St}, Safe K (fun t => Safe K E t ys) s xs → Safe K E s (xs ++ ys)
  | [], _, h => h
  | _ :: _, _, h => ⟨h.1, h.2.1, Safe.append h.2.2⟩
theorem doTo_cons {s : St} {x : Sp} {xs : List Sp} {n : Nat} {torn : Bool} : doTo s (x :: xs) ((n + 1 : Nat) : Int) torn = doTo (doStep s x false) xs n torn := by
  unfold doTo
  rw [show (((n + 1 : Nat) : Int)).toNat = n + 1 by omega, Int.toNat_natCast, List.take_succ_cons]
  have hd : doAllOf s (x :: xs.take n) = doAllOf (doStep s x false) (xs.take n) := rfl
  rw [hd]
  by_cases hc : torn = true ∧ (0 : Int) ≤ ((n + 1 : Nat) : Int) ∧ ((n + 1 : Nat) : Int) < ((x :: xs).length : Nat)
  · rw [if_pos hc, if_pos ⟨hc.1, by omega, by have := hc.2.2; rw [List.length_cons] at this; omega⟩, List.getD_cons_succ]
  · rw [if_neg hc, if_neg (fun e => hc ⟨e.1, by omega, by rw [List.length_cons]; omega⟩)]
theorem doTo_zero {s : St} {x : Sp} {xs : List Sp} {cut : Int} (h : cut.toNat = 0) {torn : Bool} : doTo s (x :: xs) cut torn = s ∨ doTo s (x :: xs) cut torn = doStep s x true := by
  unfold doTo
  rw [h]
  split
  · exact .inr rfl
  · exact .inl rfl
theorem Safe.to {K E : St → Prop} : ∀ {xs : List Sp} {s : St}, Safe K E s xs → ∀ (cut : Int) (torn : Bool), (xs.length ≤ cut.toNat → E (doTo s xs cut torn)) ∧ (cut.toNat < xs.length → K (doTo s xs cut torn))
  | [], s, h, cut, torn => by
    have he : doTo s [] cut torn = s := by
      unfold doTo
      rw [if_neg (by rintro ⟨_, h1, h2⟩; simp at h2; omega)]
      simp [doAllOf]
    rw [he]
    exact ⟨fun _ => h, fun hc => by simp at hc⟩
  | x :: xs, s, h, cut, torn => by
    by_cases h0 : cut.toNat = 0
    · refine ⟨fun hl => by rw [h0] at hl; simp at hl, fun _ => ?_⟩
      rcases doTo_zero (s := s) (x := x) (xs := xs) h0 (torn := torn) with e | e
      · rw [e]; exact h.1
      · rw [e]; exact h.2.1
    · obtain ⟨n, hn⟩ : ∃ n : Nat, cut = ((n + 1 : Nat) : Int) := ⟨cut.toNat - 1, by omega⟩
      subst hn
      rw [doTo_cons]
      have := h.2.2.to n torn
      rw [Int.toNat_natCast] at this
      rw [Int.toNat_natCast, List.length_cons]
      exact ⟨fun hl => this.1 (by omega), fun hl => this.2 (by omega)⟩
/-! ### the eldest, by the program and by the reference -/
theorem oldGo_hi {f : List Bk} : ∀ (r : List Bk) (i out : Nat), hiGo (f.map spn) i out (r.map spn) = oldGo f i out r
  | [], _, _ => rfl
  | b :: r, i, out => by
    have he : ((f.map spn).getD out (0, 0)).2 = most (f.getD out zbk) := by
      rw [List.getD_eq_getElem?_getD, List.getD_eq_getElem?_getD, List.getElem?_map]
      cases f[out]? <;> rfl
    rw [List.map_cons]
    unfold hiGo oldGo
    rw [he]
    show (if most b < most (f.getD out zbk) then _ else _) = _
    rw [oldGo_hi r, oldGo_hi r]
theorem findOld_old {f : List Bk} (h : flashOk f = true) : findOld f = (old f : Nat) := by
  unfold findOld
  rw [if_pos h, spOf_eq h]
  have hl := flashOk_len h
  congr 1
  cases f with
  | nil => simp at hl
  | cons b r =>
    unfold old
    rw [List.map_cons]
    show hiGo ((b :: r).map spn) 0 0 (spn b :: r.map spn) = _
    unfold hiGo
    rw [if_neg (by show ¬ most b < most b; omega)]
    exact oldGo_hi r 1 0
theorem old_min {f : List Bk} (h : flashOk f = true) {b : Bk} (hb : f[old f]? = some b) : ∀ d ∈ f, most b ≤ most d := findOld_min h (findOld_old h) hb
def wearS (f : List Bk) : Int := f.foldr (fun b n => b.worn + n) 0
theorem wearS_set : ∀ {f : List Bk} {i : Nat} {b : Bk} (c : Bk), f[i]? = some b → wearS (f.set i c) = wearS f + c.worn - b.worn
  | [], _, _, _, h => by simp at h
  | a :: f, 0, b, c, h => by
    rw [List.getElem?_cons_zero, Option.some.injEq] at h
    subst h
    rw [List.set_cons_zero]
    show c.worn + wearS f = a.worn + wearS f + c.worn - a.worn
    omega
  | a :: f, i + 1, b, c, h => by
    rw [List.getElem?_cons_succ] at h
    rw [List.set_cons_succ]
    show a.worn + wearS (f.set i c) = a.worn + wearS f + c.worn - b.worn
    rw [wearS_set c h]
    omega
theorem wearS_mem {b : Bk} : ∀ {f : List Bk}, (∀ c ∈ f, 0 ≤ c.worn) → b ∈ f → b.worn ≤ wearS f
  | [], _, h => by cases h
  | a :: f, hp, h => by
    have h0 : ∀ {g : List Bk}, (∀ c ∈ g, 0 ≤ c.worn) → 0 ≤ wearS g := by
      intro g
      induction g with
      | nil => intro _; exact Int.le_refl _
      | cons c g ih =>
        intro hg
        have h1 := hg c (List.mem_cons_self ..)
        have h2 := ih fun d hd => hg d (List.mem_cons_of_mem _ hd)
        show 0 ≤ c.worn + wearS g
        omega
    show b.worn ≤ a.worn + wearS f
    have hpf := fun c hc => hp c (List.mem_cons_of_mem _ hc)
    rcases List.mem_cons.1 h with rfl | h
    · have := h0 hpf; omega
    · have := wearS_mem hpf h
      have := hp a (List.mem_cons_self ..)
      omega
theorem next_le {f g : List Bk} (h : ∀ c ∈ g, most c < next f) (h0 : 1 ≤ next f) : next g ≤ next f := by
  have : topSeq g ≤ next f - 1 := topSeq_le (by omega) (fun b hb => by have := h b hb; omega)
  unfold next at *
  omega
theorem next_pos (f : List Bk) : 1 ≤ next f := by have := le_topSeq0 (f := f) (n := 0); unfold next topSeq; omega
/-- a state in the midst of steps -/
structure Mid (s t : St) : Prop where
  ok : Okay t
  same : Same s t
  nx : next t.flash ≤ next s.flash
  wear : wearS t.flash ≤ wearS s.flash + 1
  drt : ∀ b, dirty t.flash b = true → dirty s.flash b = true
  dsk : ∀ c : Int, 1 ≤ c → c ≤ 6 → dk t c = dk s c ∨ dk t c = readV s c
theorem Mid.refl {s : St} (h : Okay s) : Mid s s := ⟨h, Same.refl s, Int.le_refl _, by omega, fun _ h => h, fun _ _ _ => .inl rfl⟩
/-- behind them -/
structure Fin (s : St) (k a v : Int) (t : St) : Prop where
  ok : Okay t
  read : ∀ b : Int, 1 ≤ b → b ≤ 6 → readV t b = if b = a then v else readV s b
  rec_ : last t.flash a = ⟨k, next s.flash, a, v⟩
  nx : next t.flash ≤ next s.flash + 1
  wear : wearS t.flash ≤ wearS s.flash + 1
  drt : ∀ b, b ≠ a → dirty t.flash b = true → dirty s.flash b = true
  dsk : ∀ c : Int, 1 ≤ c → c ≤ 6 → dk t c = dk s c ∨ dk t c = readV s c
/-- told: on the flash of s still, with the values told -/
def Told (s t : St) : Prop := Mid s t ∧ t.flash = s.flash ∧ ∀ c : Int, 1 ≤ c → c ≤ 6 → dk t c = dk s c ∨ dk t c = readV s c
theorem told_page {f : List Bk} (h : flashOk f = true) {b : Bk} (hb : b ∈ f) {p : Pg} (hp : p ∈ b.pages) (ht : told f p = true) :
    (1 ≤ p.rc.addr ∧ p.rc.addr ≤ 6) ∧ valB p.rc.val = true ∧ last f p.rc.addr = p.rc ∧ 0 < p.rc.seq ∧ p.rc.kind = 1 := by
  unfold told live at ht
  rw [Bool.and_eq_true, Bool.and_eq_true, decide_eq_true_iff, decide_eq_true_iff, decide_eq_true_iff] at ht
  obtain ⟨⟨h1, h2⟩, h3⟩ := ht
  have hr := recOk_addr (rec_of_written ((bk_parts h hb).2.2.2 p hp) h1)
  exact ⟨⟨by omega, by omega⟩, by unfold valB; simp; omega, h2, by omega, h3⟩
theorem tells_safe {s0 : St} {b : Bk} (h : flashOk s0.flash = true) (hb : b ∈ s0.flash) : ∀ (ps qs : List Pg) (s : St), (∀ p ∈ ps, p ∈ b.pages ∧ told s0.flash p = true) → (∀ p ∈ qs, p ∈ b.pages ∧ told s0.flash p = true ∧ dk s p.rc.addr = p.rc.val) → Told s0 s →
    Safe (Told s0) (fun t => Told s0 t ∧ ∀ p ∈ qs ++ ps, dk t p.rc.addr = p.rc.val) s (ps.map tellP)
  | [], qs, s, _, hq, hs => ⟨hs, fun p hp => (hq p (by simpa using hp)).2.2⟩
  | p :: ps, qs, s, hp, hq, hs => by
    obtain ⟨hpb, hpt⟩ := hp p (List.mem_cons_self ..)
    obtain ⟨⟨a1, a2⟩, av, al, as_, ak⟩ := told_page h hb hpb hpt
    have hl : last s.flash p.rc.addr = p.rc := by rw [hs.2.1]; exact al
    have ht := tell_ok hs.1.ok a1 a2 av (by rw [hl]; exact as_) (by rw [hl]; exact ak)
    have hX : ∀ c : Int, 1 ≤ c → c ≤ 6 → dk ⟨s.flash, s.disk.set (p.rc.addr - 1).toNat p.rc.val⟩ c = dk s0 c ∨ dk ⟨s.flash, s.disk.set (p.rc.addr - 1).toNat p.rc.val⟩ c = readV s0 c := fun c c1 c2 => by
      rw [dk_set hs.1.ok.len a1 a2 c1]
      split
      · rename_i e
        right
        rw [e, readV_dk, al, if_pos as_]
      · exact hs.2.2 c c1 c2
    have hT : Told s0 ⟨s.flash, s.disk.set (p.rc.addr - 1).toNat p.rc.val⟩ := ⟨⟨ht.1, hs.1.same.trans ht.2, hs.1.nx, hs.1.wear, hs.1.drt, hX⟩, hs.2.1, hX⟩
    have hd : doStep s (tellP p) false = ⟨s.flash, s.disk.set (p.rc.addr - 1).toNat p.rc.val⟩ := rfl
    have hdt : doStep s (tellP p) true = s := rfl
    rw [List.map_cons]
    refine ⟨hs, by rw [hdt]; exact hs, ?_⟩
    rw [hd]
    have ih := tells_safe h hb ps (qs ++ [p]) _ (fun q hq' => hp q (List.mem_cons_of_mem _ hq')) (fun q hq' => ?_) hT
    · refine ih.mono (fun _ h => h) fun t ht => ⟨ht.1, fun q hq' => ht.2 q ?_⟩
      simpa using hq'
    · rcases List.mem_append.1 hq' with hq' | hq'
      · obtain ⟨q1, q2, q3⟩ := hq q hq'
        refine ⟨q1, q2, ?_⟩
        obtain ⟨⟨c1, c2⟩, _, cl, _, _⟩ := told_page h hb q1 q2
        rw [dk_set hs.1.ok.len a1 a2 c1]
        split
        · rename_i e
          rw [e, al] at cl
          rw [cl]
        · exact q3
      · rw [List.mem_singleton] at hq'
        subst hq'
        exact ⟨hpb, hpt, by rw [dk_set hs.1.ok.len a1 a2 a1, if_pos rfl]⟩
theorem dirty_of_last {f g : List Bk} {b : Int} (h : last g b = rc0 ∨ last g b = last f b) (hd : dirty g b = true) : dirty f b = true := by
  unfold dirty at hd ⊢
  rcases h with h | h
  · rw [h] at hd
    exact absurd hd (by decide)
  · rwa [← h]
/-- the eldest wiped, when its dirty values are told -/
theorem wipe_mid {s t : St} (hT : Told s t) {i : Nat} {b : Bk} (hb : s.flash[i]? = some b) (hmin : ∀ d ∈ s.flash, most b ≤ most d) (hw : b.worn ≠ 200) (hd : ∀ p ∈ b.pages, told s.flash p = true → dk t p.rc.addr = p.rc.val) (torn : Bool) :
    Mid s ⟨wipe t.flash i torn, t.disk⟩ ∧ (∀ a, last (wipe s.flash i torn) a = rc0 ∨ last (wipe s.flash i torn) a = last s.flash a) := by
  obtain ⟨hM, hf, hX⟩ := hT
  have hok := hM.ok
  rw [hf]
  have hfl := hok.flash
  rw [hf] at hfl
  have hO : Ord s.flash := by have := hok.isOrd; rwa [hf] at this
  have hl := flashOk_len hfl
  have hi : i < 4 := by rw [← hl]; exact (List.getElem?_eq_some_iff.1 hb).1
  have hok' := wiped_ok hfl hi torn (by rw [getD_of hb]; exact hw)
  have hlast := fun a => last_wipe hfl hO hb hmin hw torn a
  have hnn : ∀ c ∈ s.flash, 0 ≤ most c := fun c hc => most_nn (bk_parts hfl hc).2.2.2
  have hord := (findOrderI_iff hok').2 (ord_wipe hO hnn i torn)
  have hcase : ∀ a, last (wipe s.flash i torn) a = rc0 ∨ last (wipe s.flash i torn) a = last s.flash a := fun a => by
    by_cases h : Wr b (last s.flash a)
    · exact .inl ((hlast a).1 h)
    · exact .inr ((hlast a).2 h)
  have hread : ∀ a : Int, 1 ≤ a → a ≤ 6 → readV ⟨wipe s.flash i torn, t.disk⟩ a = readV t a := fun a a1 a2 => by
    rw [readV_dk, readV_dk]
    dsimp only
    rw [hf]
    show (if 0 < (last (wipe s.flash i torn) a).seq then (last (wipe s.flash i torn) a).val else dk t a) = _
    by_cases h : Wr b (last s.flash a)
    · rw [(hlast a).1 h, if_neg (by decide)]
      by_cases h0 : 0 < (last s.flash a).seq
      · rw [if_pos h0]
        obtain ⟨h1, h2⟩ := last_pos h0
        rcases last_kind hfl h0 with hk | hk
        · obtain ⟨p, hp, p1, p2⟩ := h
          have ht : told s.flash p = true := by
            unfold told live
            rw [p2, h2, p1, hk]; simp
          have := hd p hp ht
          rw [p2, h2] at this
          exact this
        · have := hok.agree a a1 a2
          rw [hf] at this
          exact (this h0 hk).symm
      · rw [if_neg h0]
    · rw [(hlast a).2 h]
  refine ⟨⟨⟨hok.len, hord, fun a a1 a2 => hok.val a a1 a2, fun a a1 a2 a3 a4 => ?_⟩, fun a a1 a2 => (hread a a1 a2).trans (hM.same a a1 a2), ?_, ?_, fun c hc => dirty_of_last (hcase c) hc, fun c c1 c2 => hX c c1 c2⟩, hcase⟩
  · dsimp only at a3 a4 ⊢
    rcases hcase a with e | e
    · rw [e] at a3; exact absurd a3 (by decide)
    · rw [e] at a3 a4 ⊢
      have := hok.agree a a1 a2
      rw [hf] at this
      exact this a3 a4
  · refine next_le (fun c hc => ?_) (next_pos _)
    dsimp only at hc
    unfold wipe at hc
    rcases mem_set hc with hc | rfl
    · exact top_lt hc
    · have h1 := (wiped_none torn ((s.flash.getD i zbk).worn + 1)).1
      have h2 := next_pos s.flash
      rw [h1]; omega
  · show wearS (wipe s.flash i torn) ≤ _
    unfold wipe
    rw [wearS_set _ hb, getD_of hb]
    dsimp only
    omega
/-- a record written, or torn -/
theorem write_fin {s t : St} {k a v : Int} (hok : Okay t) (hsame : Same s t) (hnx : next t.flash ≤ next s.flash) (hwear : wearS t.flash ≤ wearS s.flash + 1) (hdr : ∀ b, dirty t.flash b = true → dirty s.flash b = true) (hX : ∀ c : Int, 1 ≤ c → c ≤ 6 → dk t c = dk s c ∨ dk t c = readV s c) {i : Nat} {b : Bk} (hb : t.flash[i]? = some b) (hc : clean b ≠ 0) (hS : Sole t.flash i)
    (hr : recOk ⟨k, next s.flash, a, v⟩ = true) (h2 : k = 2 → dk t a = v) :
    (doStep t ⟨3, 0, 0, i, ⟨k, next s.flash, a, v⟩⟩ true = ⟨t.flash.set i (putBk b ⟨k, next s.flash, a, v⟩ true), t.disk⟩ ∧ Mid s (doStep t ⟨3, 0, 0, i, ⟨k, next s.flash, a, v⟩⟩ true)) ∧
    (doStep t ⟨3, 0, 0, i, ⟨k, next s.flash, a, v⟩⟩ false = ⟨t.flash.set i (putBk b ⟨k, next s.flash, a, v⟩ false), t.disk⟩ ∧ Fin s k a v (doStep t ⟨3, 0, 0, i, ⟨k, next s.flash, a, v⟩⟩ false)) := by
  have hfl := hok.flash
  have hlt : ∀ c ∈ t.flash, most c < (⟨k, next s.flash, a, v⟩ : Rc).seq := fun c hc => by have := top_lt hc; dsimp only; omega
  have hnot := not_seqIn hfl hlt
  have hwr : ∀ torn, writeR t.flash i ⟨k, next s.flash, a, v⟩ torn = (t.flash.set i (putBk b ⟨k, next s.flash, a, v⟩ torn), true) := fun torn => by
    unfold writeR
    rw [getD_of hb, if_neg (by rintro (e | e); exact hc e; exact hnot e)]
    rfl
  have hstep : ∀ torn, doStep t ⟨3, 0, 0, i, ⟨k, next s.flash, a, v⟩⟩ torn = ⟨t.flash.set i (putBk b ⟨k, next s.flash, a, v⟩ torn), t.disk⟩ := fun torn => by
    unfold doStep
    rw [if_neg (by dsimp only; decide), if_neg (by dsimp only; decide), if_pos rfl]
    dsimp only
    rw [Int.toNat_natCast, hwr]
  have hok4 : ∀ torn, flashOk (t.flash.set i (putBk b ⟨k, next s.flash, a, v⟩ torn)) = true := fun torn => put_ok4 hfl hb hr torn hc hnot
  have hord : ∀ torn, findOrderI (t.flash.set i (putBk b ⟨k, next s.flash, a, v⟩ torn)) = true := fun torn => (findOrderI_iff (hok4 torn)).2 (ord_put hfl hok.isOrd hb hr torn hc hS hlt)
  have hw : ∀ torn, wearS (t.flash.set i (putBk b ⟨k, next s.flash, a, v⟩ torn)) = wearS t.flash := fun torn => by
    rw [wearS_set _ hb]
    show wearS t.flash + b.worn - b.worn = _
    omega
  have hlt' := last_torn hfl hb hr hc hlt
  have hlp := last_put hfl hb hr hc hlt
  have hmem := List.mem_of_getElem? hb
  have hmost : ∀ torn, ∀ c ∈ t.flash.set i (putBk b ⟨k, next s.flash, a, v⟩ torn), most c ≤ next s.flash ∧ (torn = true → most c < next s.flash) := fun torn c hcm => by
    rcases mem_set hcm with hcm | rfl
    · have := top_lt hcm; exact ⟨by omega, fun _ => by omega⟩
    · obtain ⟨_, kp, _, k4, k5⟩ := putBk_parts hfl hmem hr torn hc
      have hbp := (bk_parts hfl hmem).2.2.2
      have := hlt b hmem
      dsimp only at this
      cases torn
      · have := (span_put hbp kp (k5 rfl) (hlt b hmem)).1
        exact ⟨by rw [this]; exact Int.le_refl _, fun e => by cases e⟩
      · have := (span_same hbp kp (k4 rfl)).1
        exact ⟨by omega, fun _ => by omega⟩
  refine ⟨⟨hstep true, ?_⟩, ⟨hstep false, ?_⟩⟩
  · rw [hstep true]
    refine ⟨⟨hok.len, hord true, fun c c1 c2 => hok.val c c1 c2, fun c c1 c2 c3 c4 => ?_⟩, fun c c1 c2 => ?_, next_le (fun c hc => (hmost true c hc).2 rfl) (next_pos _), by rw [hw]; exact hwear, fun c hcd => ?_, fun c c1 c2 => hX c c1 c2⟩
    · dsimp only at c3 c4 ⊢
      rw [hlt'] at c3 c4 ⊢
      exact hok.agree c c1 c2 c3 c4
    · rw [← hsame c c1 c2, readV_dk, readV_dk]
      dsimp only
      rw [hlt']; rfl
    · refine hdr c ?_
      unfold dirty at hcd ⊢
      dsimp only at hcd
      rwa [hlt'] at hcd
  · rw [hstep false]
    refine ⟨⟨hok.len, hord false, fun c c1 c2 => hok.val c c1 c2, fun c c1 c2 c3 c4 => ?_⟩, fun c c1 c2 => ?_, ?_, ?_, by rw [hw]; exact hwear, fun c hne hcd => ?_, fun c c1 c2 => hX c c1 c2⟩
    · dsimp only at c3 c4 ⊢
      rw [hlp] at c3 c4 ⊢
      by_cases e : c = a
      · rw [if_pos e] at c4 ⊢
        dsimp only at c4 ⊢
        rw [e]
        exact (h2 c4).symm
      · rw [if_neg e] at c3 c4 ⊢
        exact hok.agree c c1 c2 c3 c4
    · rw [readV_dk]
      dsimp only
      rw [hlp]
      by_cases e : c = a
      · rw [if_pos e, if_pos e, if_pos (by have := next_pos s.flash; dsimp only; omega)]
      · rw [if_neg e, if_neg e, ← hsame c c1 c2, readV_dk]; rfl
    · dsimp only
      rw [hlp, if_pos rfl]
    · have : topSeq (t.flash.set i (putBk b ⟨k, next s.flash, a, v⟩ false)) ≤ next s.flash := topSeq_le (by have := next_pos s.flash; omega) (fun c hc => (hmost false c hc).1)
      show topSeq (t.flash.set i (putBk b ⟨k, next s.flash, a, v⟩ false)) + 1 ≤ next s.flash + 1
      omega
    · refine hdr c ?_
      unfold dirty at hcd ⊢
      dsimp only at hcd
      rwa [hlp, if_neg hne] at hcd
theorem open_false' {f : List Bk} (h : flashOk f = true) (ho : (openB f).2 = false) : ∀ b ∈ f, clean b = 0 := by
  have h4 := fun b hb => (flashOk_shape h b hb).1
  rw [openI_eq h4] at ho
  exact open_false h4 ho
/-- the steps by which a record is written -/
theorem wr_safe {s : St} (h : Okay s) {k a v : Int} (hne : wr s.flash k a v ≠ []) (h2 : k = 2 → dk s a = v ∧ readV s a = v) : Safe (Mid s) (Fin s k a v) s (wr s.flash k a v) := by
  have hfl := h.flash
  have h4 := fun b hb => (flashOk_shape hfl b hb).1
  have hl := flashOk_len hfl
  unfold wr at hne ⊢
  by_cases hc : (room s.flash).2.2 = false ∨ recOk ⟨k, next s.flash, a, v⟩ = false
  · rw [if_pos hc] at hne; exact absurd rfl hne
  · rw [if_neg hc]
    have hr : recOk ⟨k, next s.flash, a, v⟩ = true := by simpa using fun e => hc (.inr e)
    have hroom : (room s.flash).2.2 ≠ false := fun e => hc (.inl e)
    clear hne hc
    by_cases ho : (openB s.flash).2 = true
    · obtain ⟨m, b, h1, hb, hcb, hS⟩ := open_sole hfl h.isOrd (by rw [← openI_eq h4]; exact ho)
      have hob : (openB s.flash).1 = m := by rw [openI_eq h4, h1]
      unfold room
      rw [if_pos ho, hob]
      dsimp only
      rw [List.nil_append]
      obtain ⟨w1, w2⟩ := write_fin (s := s) (t := s) h (Same.refl s) (Int.le_refl _) (by omega) (fun _ h => h) (fun _ _ _ => .inl rfl) hb hcb hS hr (fun e => (h2 e).1)
      exact ⟨Mid.refl h, w1.2, w2.2⟩
    · have ho' : (openB s.flash).2 = false := by simpa using ho
      have h0 := open_false' hfl ho'
      have hi := old_lt4 hl
      obtain ⟨b, hb⟩ := get_some (l := s.flash) (k := old s.flash) (by omega)
      have hmin := old_min hfl hb
      have hbm := List.mem_of_getElem? hb
      unfold room at hroom ⊢
      rw [if_neg ho] at hroom ⊢
      dsimp only at hroom ⊢
      rw [getD_of hb] at hroom ⊢
      have hw : b.worn < 200 := by simpa using hroom
      rw [List.append_assoc]
      refine Safe.append ?_
      have ht := tells_safe (s0 := s) hfl hbm (b.pages.filter (told s.flash)) [] s (fun p hp => List.mem_filter.1 hp) (fun p hp => by cases hp) ⟨Mid.refl h, rfl, fun _ _ _ => .inl rfl⟩
      refine ht.mono (fun _ h => h.1) fun t ⟨hT, hd⟩ => ?_
      have hd' : ∀ p ∈ b.pages, told s.flash p = true → dk t p.rc.addr = p.rc.val := fun p hp hp2 => hd p (by simpa using ⟨hp, hp2⟩)
      have hwm := fun torn => wipe_mid hT hb hmin (by omega) hd' torn
      have hst : ∀ torn, doStep t ⟨2, 0, 0, (old s.flash : Nat), rc0⟩ torn = ⟨wipe t.flash (old s.flash) torn, t.disk⟩ := fun torn => by
        unfold doStep
        rw [if_neg (by dsimp only; decide), if_pos rfl]
        dsimp only
        unfold wipeR
        rw [Int.toNat_natCast, hT.2.1, getD_of hb, if_neg (by omega)]
      have hbw : (wipe t.flash (old s.flash) false)[old s.flash]? = some ⟨List.replicate 4 pg0, b.worn + 1⟩ := by rw [hT.2.1]; exact wiped_b hb false
      obtain ⟨w1, w2⟩ := write_fin (s := s) (t := ⟨wipe t.flash (old s.flash) false, t.disk⟩) (k := k) (a := a) (v := v) (hwm false).1.ok (hwm false).1.same (hwm false).1.nx (hwm false).1.wear (hwm false).1.drt (hwm false).1.dsk hbw (by rw [clean_new]; decide) (fun j c hj hcj => by
          dsimp only at hcj
          rw [hT.2.1, wipe_ne hj] at hcj
          unfold partly
          rw [h0 c (List.mem_of_getElem? hcj)]; rfl) hr (fun e => by
          have hra := recOk_addr hr
          dsimp only at hra
          show dk t a = v
          rcases hT.2.2 a hra.1 hra.2.1 with q | q
          · rw [q]; exact (h2 e).1
          · rw [q]; exact (h2 e).2)
      refine ⟨hT.1, by rw [hst]; exact (hwm true).1, ?_⟩
      rw [hst]
      exact ⟨(hwm false).1, w1.2, w2.2⟩
end Go.Proofs.YtohkoogmbfaceaaGreat
