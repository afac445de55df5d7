/- What the laws' walks share: words, plain laws, and the walks of functions, part 6. -/
import Derived.Deep.RegionHeld3
import Derived.BigQuiet
import Derived.Test.YtbekihiiildgmaaW5
namespace Go.Proofs.Ytbekihiiildgmaa
set_option linter.unusedVariables false
set_option linter.unusedSimpArgs false
open Go.RowKit Go.Maps Go.Shelf
attribute [local go_sem] Oper.semAt_some
set_option maxHeartbeats 400000
def rcV (r : Rc) : Value := .agg #[.int .i64 r.kind, .int .i64 r.seq, .int .i64 r.addr, .int .i64 r.val]
def recD (r : Rc) : DataW Unit := .agg [.lit (.int .i64 r.kind), .lit (.int .i64 r.seq), .lit (.int .i64 r.addr), .lit (.int .i64 r.val)]
def recL : List Value → Option Rc
  | [.int .i64 a, .int .i64 b, .int .i64 c, .int .i64 d] => some ⟨a, b, c, d⟩
  | _ => none
def recElem (v : Value) : Option (DataW Unit × List MemPlace) := match v with
  | .agg cs => (recL cs.toList).map fun r => (recD r, [])
  | _ => none
theorem recElem_mk (r : Rc) : recElem (rcV r) = some (recD r, []) := rfl
theorem recL_inv {l : List Value} {r : Rc} (h : recL l = some r) : l = [.int .i64 r.kind, .int .i64 r.seq, .int .i64 r.addr, .int .i64 r.val] := by
  unfold recL at h
  split at h
  · cases h; rfl
  · cases h
theorem recD_inj {r s : Rc} (h : recD r = recD s) : r = s := by
  unfold recD at h
  cases r; cases s
  simp only [DataW.agg.injEq, List.cons.injEq, DataW.lit.injEq, Lit.int.injEq, true_and, and_true] at h
  obtain ⟨rfl, rfl, rfl, rfl⟩ := h
  rfl
theorem recElem_inv {v : Value} {r : Rc} {ps : List MemPlace} (h : recElem v = some (recD r, ps)) : v = rcV r := by
  unfold recElem at h
  cases v with
  | agg cs =>
    dsimp only at h
    cases hl : recL cs.toList with
    | none => rw [hl] at h; cases h
    | some s =>
      rw [hl] at h
      simp only [Option.map_some, Option.some.injEq, Prod.mk.injEq] at h
      have hr := recD_inj h.1
      subst hr
      have := recL_inv hl
      unfold rcV
      rw [← this]
  | _ => cases h
/-- block b is a map from int to records (type K of its keys) of at most n entries, that answers F -/
def RMap (P : Program) (K : TypeId) (w : World) (b n : Nat) (F : Int → Option Rc) : Prop :=
  ∃ D : DataW Unit, w.ownsMap P K recElem b n D ∧ IsMap D ∧ ∀ k, (Lit.int .i64 k).wf = true → D.atKey (.int .i64 k) (recD rc0) = recD ((F k).getD rc0) ∧ has D (.int .i64 k) = (F k).isSome
section
variable {P : Program} {t K E : TypeId} {w w' : World} {b n : Nat} {F : Int → Option Rc}
theorem RMap.made (P : Program) (K : TypeId) (w : World) : RMap P K (w.alloc (.map #[] 0)) w.heap.size 0 (fun _ => none) := ⟨_, World.ownsMap_made _ _ _ _, isMap_empty, fun k _ => ⟨rfl, rfl⟩⟩
theorem RMap.mono (h : RMap P K w b n F) {m : Nat} (hm : n ≤ m) : RMap P K w b m F := by
  obtain ⟨D, h1, h2⟩ := h; exact ⟨D, h1.mono hm, h2⟩
theorem RMap.lt (h : RMap P K w b n F) : b < w.heap.size := by obtain ⟨D, h1, _⟩ := h; exact h1.lt
theorem RMap.at_ (h : RMap P K w b n F) : ∃ es clock, w.heap[b]? = some (.map es clock) := by obtain ⟨D, ⟨es, clock, e, _⟩, _⟩ := h; exact ⟨es, clock, e⟩
theorem RMap.below {B : Nat} (h : RMap P K w b n F) (hb : Below B w w') (hB : b < B) : RMap P K w' b n F := by
  obtain ⟨D, ⟨es, clock, e, r⟩, h2⟩ := h
  exact ⟨D, ⟨es, clock, (hb.block b hB).trans e, r⟩, h2⟩
theorem RMap.kept {row : Option Nat} (h : RMap P K w b n F) (hg : w.grownBy w' row) (hne : some b ≠ row) : RMap P K w' b n F := by
  obtain ⟨D, h1, h2⟩ := h; exact ⟨D, h1.kept hg hne, h2⟩
theorem RMap.alloc (h : RMap P K w b n F) (o : Obj) : RMap P K (w.alloc o) b n F := by
  obtain ⟨D, h1, h2⟩ := h; exact ⟨D, h1.alloc o, h2⟩
theorem RMap.look (h : RMap P K w b n F) (ht : P.underlying t = some (.map K E)) (hK : P.underlying K = some (.int .i64)) (hz : ∀ w : World, (zeroValue E).run P w = .ok (rcV rc0) w) {k : Int} (hk : (Lit.int .i64 k).wf = true) :
    (Instr.lookup t (.map (some b)) (.int .i64 k) false).run P w = .ok (rcV ((F k).getD rc0)) w := by
  obtain ⟨D, h1, _, h3⟩ := h
  obtain ⟨v, ps, hrun, hv⟩ := h1.lookup (int_keyed hK) ht (hz w) (recElem_mk rc0) (keyOf_int_mk hK hk)
  rw [(h3 k hk).1] at hv
  rw [hrun, recElem_inv hv]
theorem RMap.look_ok (h : RMap P K w b n F) (ht : P.underlying t = some (.map K E)) (hK : P.underlying K = some (.int .i64)) (hz : ∀ w : World, (zeroValue E).run P w = .ok (rcV rc0) w) {k : Int} (hk : (Lit.int .i64 k).wf = true) :
    (Instr.lookup t (.map (some b)) (.int .i64 k) true).run P w = .ok (.tuple #[rcV ((F k).getD rc0), .bool (F k).isSome]) w := by
  obtain ⟨D, h1, _, h3⟩ := h
  obtain ⟨v, ps, hrun, hv⟩ := h1.look_ok (int_keyed hK) ht (hz w) (recElem_mk rc0) (keyOf_int_mk hK hk)
  rw [(h3 k hk).1] at hv
  rw [(h3 k hk).2] at hrun
  rw [hrun, recElem_inv hv]
theorem RMap.put (h : RMap P K w b n F) (ht : P.underlying t = some (.map K E)) (hK : P.underlying K = some (.int .i64)) (hn : n < maxLen) {k : Int} (r : Rc) (hk : (Lit.int .i64 k).wf = true) :
    ∃ w', (Instr.mapUpdate t (.map (some b)) (.int .i64 k) (rcV r)).run P w = .ok () w' ∧ RMap P K w' b (n + 1) (fun x => if x = k then some r else F x) ∧ w.grownBy w' (some b) := by
  obtain ⟨D, h1, h2, h3⟩ := h
  obtain ⟨w', hrun, g1, g2⟩ := h1.update (int_keyed hK) ht hn (keyOf_int_mk hK hk) (recElem_mk r)
  refine ⟨w', hrun, ⟨_, g1, h2.put _ _, fun x hx => ?_⟩, g2⟩
  dsimp only
  by_cases e : x = k
  · subst e
    rw [if_pos rfl, atKey_put_same h2 (isKeyLit_int _ hk), has_put_same h2 (isKeyLit_int _ hk)]
    exact ⟨rfl, rfl⟩
  · have hne : Lit.int .i64 x ≠ Lit.int .i64 k := by intro e'; injection e' with _ e''; exact e e''
    rw [if_neg e, atKey_put_other hne, has_put_other hne]
    exact h3 x hx
end
/-! ### what the program's map holds -/
def lmStep (F : Int → Option Rc) (x : PgAt) : Int → Option Rc :=
  if x.2.2.state = 1 ∧ ((F x.2.2.rc.addr).getD rc0).seq < x.2.2.rc.seq then fun a => if a = x.2.2.rc.addr then some x.2.2.rc else F a else F
def lastMap (pre : List PgAt) : Int → Option Rc := pre.foldl lmStep (fun _ => none)
theorem lastMap_snoc (pre : List PgAt) (x : PgAt) : lastMap (pre ++ [x]) = lmStep (lastMap pre) x := by unfold lastMap; rw [List.foldl_append]; rfl
def foundR (r : Rc) : Option Rc := if 0 < r.seq then some r else none
theorem foundR_getD {r : Rc} (h : r = rc0 ∨ 0 < r.seq) : (foundR r).getD rc0 = r := by
  unfold foundR
  split
  · rfl
  · rcases h with rfl | h
    · rfl
    · contradiction
theorem lm_step {F : Int → Option Rc} {o : Int → Rc} {x : PgAt} (hx : pageOk x.2.2 = true) (h : ∀ a, F a = foundR (o a)) (h0 : ∀ a, o a = rc0 ∨ 0 < (o a).seq) (a : Int) :
    lmStep F x a = foundR (lastStep a (o a) x.2.2) ∧ (lastStep a (o a) x.2.2 = rc0 ∨ 0 < (lastStep a (o a) x.2.2).seq) := by
  have hL0 : ∀ r : Rc, ¬ (x.2.2.state = 1 ∧ x.2.2.rc.addr = a ∧ r.seq < x.2.2.rc.seq) → lastStep a r x.2.2 = r := fun r hr => by unfold lastStep; rw [if_neg hr]
  by_cases hc : x.2.2.state = 1 ∧ (o x.2.2.rc.addr).seq < x.2.2.rc.seq
  · have hs := (recOk_addr (rec_of_written hx hc.1)).2.2.2.2.1
    have hM : lmStep F x = fun a => if a = x.2.2.rc.addr then some x.2.2.rc else F a := by unfold lmStep; rw [h, foundR_getD (h0 _), if_pos hc]
    rw [hM]
    by_cases ha : a = x.2.2.rc.addr
    · have hL : lastStep a (o a) x.2.2 = x.2.2.rc := by rw [ha]; unfold lastStep; rw [if_pos ⟨hc.1, rfl, hc.2⟩]
      rw [hL]
      exact ⟨by dsimp only; rw [if_pos ha]; unfold foundR; rw [if_pos (by omega)], .inr (by omega)⟩
    · rw [hL0 _ (fun e => ha e.2.1.symm)]
      exact ⟨by dsimp only; rw [if_neg ha]; exact h a, h0 a⟩
  · have hM : lmStep F x = F := by unfold lmStep; rw [h, foundR_getD (h0 _), if_neg hc]
    rw [hM, hL0 _ (fun e => hc ⟨e.1, by rw [e.2.1]; exact e.2.2⟩)]
    exact ⟨h a, h0 a⟩
theorem lm_tag : ∀ (ps : List Pg) (i j : Nat) (F : Int → Option Rc) (o : Int → Rc), (∀ p ∈ ps, pageOk p = true) → (∀ a, F a = foundR (o a)) → (∀ a, o a = rc0 ∨ 0 < (o a).seq) →
    ∀ a, (tagFrom i j ps).foldl lmStep F a = foundR (lastPs a (o a) ps) ∧ (lastPs a (o a) ps = rc0 ∨ 0 < (lastPs a (o a) ps).seq)
  | [], _, _, F, o, _, h, h0, a => ⟨h a, h0 a⟩
  | p :: ps, i, j, F, o, hp, h, h0, a => by
    have hst := fun a => lm_step (x := (i, j, p)) (hp p (List.mem_cons_self ..)) h h0 a
    rw [tagFrom, List.foldl_cons]
    exact lm_tag ps i (j + 1) (lmStep F (i, j, p)) (fun a => lastStep a (o a) p) (fun q hq => hp q (List.mem_cons_of_mem _ hq)) (fun a => (hst a).1) (fun a => (hst a).2) a
theorem lm_all : ∀ (f : List Bk) (i : Nat) (F : Int → Option Rc) (o : Int → Rc), (∀ b ∈ f, ∀ p ∈ b.pages, pageOk p = true) → (∀ a, F a = foundR (o a)) → (∀ a, o a = rc0 ∨ 0 < (o a).seq) →
    ∀ a, (allFrom i f).foldl lmStep F a = foundR (f.foldl (fun o b => lastPs a o b.pages) (o a))
  | [], _, F, o, _, h, _, a => h a
  | b :: f, i, F, o, hp, h, h0, a => by
    have hst := fun a => lm_tag b.pages i 0 F o (hp b (List.mem_cons_self ..)) h h0 a
    rw [allFrom, List.foldl_append]
    exact lm_all f (i + 1) _ (fun a => lastPs a (o a) b.pages) (fun c hc => hp c (List.mem_cons_of_mem _ hc)) (fun a => (hst a).1) (fun a => (hst a).2) a
theorem lastMap_eq {f : List Bk} (h : flashOk f = true) (a : Int) : lastMap (allFrom 0 f) a = foundR (last f a) :=
  lm_all f 0 (fun _ => none) (fun _ => rc0) (fun b hb => (bk_parts h hb).2.2.2) (fun _ => rfl) (fun _ => .inl rfl) a
theorem tag_len (i : Nat) : ∀ (ps : List Pg) (j : Nat), (tagFrom i j ps).length = ps.length
  | [], _ => rfl
  | _ :: ps, j => by rw [tagFrom, List.length_cons, tag_len i ps, List.length_cons]
theorem all_len : ∀ (f : List Bk) (i : Nat), (∀ b ∈ f, b.pages.length = 4) → (allFrom i f).length = 4 * f.length
  | [], _, _ => rfl
  | b :: f, i, h => by
    rw [allFrom, List.length_append, tag_len, all_len f (i + 1) (fun c hc => h c (List.mem_cons_of_mem _ hc)), h b (List.mem_cons_self ..), List.length_cons]
    omega
theorem zero_rec (w : World) : (zeroValue 45).run Try.prog w = .ok (rcV rc0) w := by kernel_rfl
theorem field_seq (a b c d : Int) (w : World) : (Instr.field 45 (.agg #[.int .i64 a, .int .i64 b, .int .i64 c, .int .i64 d]) 1).run Try.prog w = .ok (.int .i64 b) w := by kernel_rfl
theorem wf_int {k : Int} (h : -1000 ≤ k ∧ k ≤ 1000) : (Lit.int .i64 k).wf = true := by
  have h1 : IntKind.i64.min ≤ k := Int.le_trans (by decide) h.1
  have h2 : k ≤ IntKind.i64.max := Int.le_trans h.2 (by decide)
  simp only [Lit.wf, Bool.and_eq_true, decide_eq_true_iff]
  exact ⟨h1, h2⟩
/-! ### the walk -/
abbrev PgOf (f : List Bk) := { x : PgAt // x ∈ allFrom 0 f }
theorem eachPageF_stops (F : Fence) (n : Nat) (hF : F.fn 141) (hro : F.round = none) (hn : 1 ≤ n) (Bs n₀ g o c : Nat) (f : List Bk) (hs : List (Option Addr × Nat)) (w : World) (hB : Bs < w.heap.size) (hn₀ : n₀ ≤ w.heap.size)
    (hBs : w.cell? ⟨Bs, 0, none⟩ = some (.slice (some ⟨g, o, none⟩) f.length c)) (hl : f.length < 1000000000000) (hp : ∀ b ∈ f, b.pages.length < 1000000000000)
    (hBk : Bks w (some ⟨g, o, none⟩) f hs) (hlow : ∀ b, fblk (some ⟨g, o, none⟩) hs b → b < n₀) :
    SeqStopsK F n Try.prog 141 #[.pointer (some ⟨Bs, 0, none⟩)] (fun x : PgOf f => encP x.1) (Below n₀) (fun ys => ys.map Subtype.val = allFrom 0 f) (fun pre => pre.map Subtype.val <+: allFrom 0 f) (allFrom 0 f).length w := fun l J Jx W hW hJ _ hY h0 => by
  refine (eachPage1_in F n hF hro hn l Bs n₀ g o c f hs (fun pre V => ∃ pre' : List (PgOf f), pre'.map Subtype.val = pre ∧ J pre' V) (fun pre V => ∃ pre' : List (PgOf f), pre'.map Subtype.val = pre ∧ Jx pre' V) W (Nat.le_trans hn₀ hW.size)
    (fun s X Y row hs hg hr => by obtain ⟨p, e, h⟩ := hs; exact ⟨p, e, hJ p X Y row h hg hr⟩) (fun pre x W1 h1 h2 h3 => ?_) ((hW.cell (p := ⟨Bs, 0, none⟩) hB).trans hBs) hl hp (hBk.keep fun q hq hl => hW.block q (by omega)) hlow ⟨[], rfl, h0⟩).mono ?_
  · obtain ⟨pre', rfl, hj⟩ := h1
    refine (hY pre' ⟨x, h3.2⟩ W1 hj (by simpa using h2)).mono ?_
    rintro e V (⟨rfl, hj2, hk⟩ | ⟨rfl, hj2⟩)
    · exact .inl ⟨rfl, ⟨_, by simp, hj2⟩, hk⟩
    · exact .inr ⟨rfl, _, by simp, hj2⟩
  · rintro e V ⟨he, ⟨ys, rfl, pre', h1, h2⟩ | ⟨pre, h0, pre', rfl, h2⟩⟩
    · exact ⟨he, .inl ⟨pre', h1, h2⟩⟩
    · exact ⟨he, .inr ⟨pre', h0, h2⟩⟩
theorem page_of {f : List Bk} (h : flashOk f = true) (x : PgOf f) : pageOk x.1.2.2 = true := by
  obtain ⟨b, hb, hx⟩ := mem_all x.2
  exact (bk_parts h hb).2.2.2 _ hx
def lmOf {f : List Bk} (pre : List (PgOf f)) : Int → Option Rc := lastMap (pre.map Subtype.val)
theorem lmOf_snoc {f : List Bk} (pre : List (PgOf f)) (x : PgOf f) : lmOf (pre ++ [x]) = lmStep (lmOf pre) x.1 := by unfold lmOf; rw [List.map_append]; exact lastMap_snoc _ _
theorem rmap_kept {P : Program} {K : TypeId} {f : List Bk} (b n₀ : Nat) (hb : b < n₀) : OwnFrom n₀ (fun (pre : List (PgOf f)) W => RMap P K W b pre.length (lmOf pre)) := fun _ _ _ _ hs hg hr =>
  hs.kept hg (fun e => by have := (hr _ e.symm).1; omega)
set_option maxRecDepth 100000 in
set_option maxHeartbeats 4000000 in
theorem impl_lastRecords (f : List Bk) (A : Option Addr) (n c : Nat) (w : World) (hn : n = f.length) (hok : flashOk f = true) (hF : Fl w A f) :
    Calls Try.prog 67 #[.slice A n c] w fun e w' => e = .returned (.map (some w.heap.size)) ∧ RMap Try.prog 3 w' w.heap.size 16 (lastMap (allFrom 0 f)) ∧ Below w.heap.size w w' := by
  subst hn
  refine (callsIn_wide (n := 6)).1 ?_
  refine callsIn_of_wp_marks Try.func67 rfl trivial ?_ rfl
  simp only [Try.ntmps67, List.size_toArray, List.length_cons, List.length_nil, Nat.reduceAdd, Nat.reduceSub, Array.replicate_succ, Array.replicate_zero, List.push_toArray, List.append_toArray, List.nil_append, List.cons_append]
  have hmm := @run_makeMap Try.prog
  have hfd := field_seq
  have hfl := flashOk_len hok
  have HFL := Lib.hid hfl
  have HOK := Lib.hid hok
  have HP := Lib.hid (show ∀ b ∈ f, b.pages.length < 1000000000000 from fun b hb => by rw [(flashOk_shape hok b hb).1]; omega)
  have HPL := Lib.hid (fun b hb => (flashOk_shape hok b hb).1)
  have HAL := Lib.hid (all_len f 0 HPL.out)
  obtain ⟨hs, hBk⟩ := hF
  obtain ⟨g, o, rfl⟩ := hBk.addr (by intro e; have := HFL.out; rw [e] at this; simp at this)
  clear hfl hok
  gi_wp2_with (refine ⟨trivial, ?_⟩; gi_at_call 94; refine (eachPage_in Fence.wide _ trivial rfl _ _ _ _).mono ?_; rintro e w2 ⟨rfl, rfl⟩)
  have hlow : ∀ b, fblk (some ⟨g, o, none⟩) hs b → b < w.heap.size := fun b hb => by
    have h4 := HFL.out
    rcases hb with hb | ⟨i, x, hx, hb⟩
    · rw [blk_some] at hb
      subst hb
      obtain ⟨B, hB⟩ := get_some (l := f) (k := 0) (by omega)
      obtain ⟨_, _, c0, _⟩ := hBk.at_ hB
      exact lt_of_cell c0
    · obtain ⟨B, hB⟩ := get_some (l := f) (k := i) (by rw [← hBk.len]; exact (List.getElem?_eq_some_iff.1 hx).1)
      have hr := (hBk.pg i B x hB hx).1
      have hn : B.pages ≠ [] := by intro hn; have := HPL.out B (List.mem_of_getElem? hB); rw [hn] at this; simp at this
      obtain ⟨b', o', he, hc⟩ := hr (pgs_ne hn)
      rw [he, blk_some] at hb
      subst hb
      obtain ⟨q, hq⟩ := get_some (l := pgs B.pages) (k := 0) (by rw [pgs_len]; have := List.length_pos_iff.2 hn; omega)
      exact lt_of_cell (hc 0 q hq).1
  have hm0 := ((RMap.made Try.prog 3 w).alloc (.cells #[.map (some w.heap.size)] 86)).alloc (.cells #[.slice (some ⟨g, o, none⟩) f.length c] 23)
  have bS := (Boxed.new (w.alloc (.map #[] 0)) 86 (.map (some w.heap.size))).alloc (.cells #[.slice (some ⟨g, o, none⟩) f.length c] 23)
  have bA := Boxed.new ((w.alloc (.map #[] 0)).alloc (.cells #[.map (some w.heap.size)] 86)) 23 (.slice (some ⟨g, o, none⟩) f.length c)
  simp only [World.size_alloc] at bS bA
  have hB0 : Below w.heap.size w (((w.alloc (.map #[] 0)).alloc (.cells #[.map (some w.heap.size)] 86)).alloc (.cells #[.slice (some ⟨g, o, none⟩) f.length c] 23)) := (((Below.refl _ w).alloc (Nat.le_refl _) _).alloc (by simp) _).alloc (by simp; omega) _
  have hsz : (((w.alloc (.map #[] 0)).alloc (.cells #[.map (some w.heap.size)] 86)).alloc (.cells #[.slice (some ⟨g, o, none⟩) f.length c] 23)).heap.size = w.heap.size + 3 := by simp
  have hBk2 := ((hBk.alloc (.map #[] 0)).alloc (.cells #[.map (some w.heap.size)] 86)).alloc (.cells #[.slice (some ⟨g, o, none⟩) f.length c] 23)
  obtain ⟨W0, hW0⟩ : ∃ W0, ((w.alloc (.map #[] 0)).alloc (.cells #[.map (some w.heap.size)] 86)).alloc (.cells #[.slice (some ⟨g, o, none⟩) f.length c] 23) = W0 := ⟨_, rfl⟩
  rw [hW0] at bS bA hB0 hsz hBk2 hm0 ⊢
  have hl4 : f.length < 1000000000000 := by rw [HFL.out]; omega
  clear hW0 hBk
  refine wpIn_rangeFunc_ownH rfl (by omega) (gf := 141) (lb := #[.pointer (some ⟨w.heap.size + 1 + 1, 0, none⟩)]) rfl trivial (enters_of Try.func141 (by kernel_rfl) rfl)
    (eachPageF_stops Fence.wide _ trivial rfl (by omega) (w.heap.size + 1 + 1) w.heap.size g o c f hs W0 (by omega) (by omega) bA.cell hl4 HP.out hBk2 hlow) belowK_t (belowK_b (by omega)) (Below.refl _ _) (fun _ => rfl)
    (fun pre W => (Boxed W (w.heap.size + 1) 86 (.map (some w.heap.size)) ∧ RMap Try.prog 3 W w.heap.size pre.length (lmOf pre)) ∧ Below w.heap.size w W)
    (fun _ _ _ => False)
    (OwnFrom.and (OwnFrom.and (Own.from (boxed_own _ _ (fun _ => _)) _) (rmap_kept _ _ (by omega))) (ownFrom_below (Nat.le_refl _) (by omega)))
    (fun _ _ _ _ _ hs _ _ => hs)
    ⟨⟨bS, hm0⟩, hB0⟩
    (fun x a' W => ∃ Bx, w.heap.size + 1 < Bx ∧ Laid W Bx 119 (pgv x.1.2.2) ∧ a' = { tmps := #[.slice (some ⟨g, o, none⟩) f.length c, undef, .map none, .pointer (some ⟨w.heap.size + 1, 0, none⟩), undef, .pointer (some ⟨Bx, 0, none⟩), .map (some w.heap.size), .slice (some ⟨g, o, none⟩) f.length c, .func (.func 141) #[] #[.pointer (some ⟨w.heap.size + 1 + 1, 0, none⟩)], .agg #[.int .i64 (x.1.1 : Int), .int .i64 (x.1.2.1 : Int)], .agg (pgv x.1.2.2), undef, undef, undef, undef, undef, undef, undef, undef, undef, undef, undef, undef, undef, undef, undef, undef, undef, undef, undef, undef, undef, undef], defers := [] })
    (fun x a' _ X Y row hs hg hr => by obtain ⟨Bx, h1, h2, h3⟩ := hs; exact ⟨Bx, h1, laid_own Bx _ _ _ () X Y row h2 hg hr, h3⟩)
    ?assign ?body ?done ?stop
  case assign =>
    rintro l pre x W K ⟨⟨bS1, hR1⟩, hB1⟩ hK
    dsimp only [encP]
    gi_wp2
    exact hK _ _ ((KeepsOthers.alloc _ _).from _) ((Below.refl _ W).alloc hB1.size _) ⟨⟨bS1.alloc _, hR1.alloc _⟩, hB1.alloc hB1.size _⟩ ⟨W.heap.size, bS1.lt, World.alloc_heap_new W _, rfl⟩
  case body =>
    rintro l pre x a' W hl ⟨r, hr⟩ ⟨⟨bS1, hR1⟩, hB1⟩ ⟨Bx, hBx, bX, rfl⟩ hlt
    have hpk := page_of HOK.out x
    have cS := bS1.cell
    have x0 : W.cell? ⟨Bx, 0, none⟩ = some (.int .i64 x.1.2.2.state) := bX.cell 0 rfl
    have x1 : W.cell? ⟨Bx, 1, none⟩ = some (.int .i64 x.1.2.2.rc.kind) := bX.cell 1 rfl
    have x2 : W.cell? ⟨Bx, 2, none⟩ = some (.int .i64 x.1.2.2.rc.seq) := bX.cell 2 rfl
    have x3 : W.cell? ⟨Bx, 3, none⟩ = some (.int .i64 x.1.2.2.rc.addr) := bX.cell 3 rfl
    have x4 : W.cell? ⟨Bx, 4, none⟩ = some (.int .i64 x.1.2.2.rc.val) := bX.cell 4 rfl
    have hst : Hid (lmOf (pre ++ [x]) = lmStep (lmOf pre) x.1) := lmOf_snoc pre x
    have hll : (pre ++ [x]).length = pre.length + 1 := by simp
    by_cases h1 : x.1.2.2.state = 1
    · have hra := recOk_addr (rec_of_written hpk h1)
      have hwf := wf_int (k := x.1.2.2.rc.addr) (by omega)
      have hlk := hR1.look (t := 86) Try.underlying86 Try.underlying3 zero_rec hwf
      have hmax : pre.length < maxLen := by have := HAL.out; have := HFL.out; unfold maxLen; omega
      obtain ⟨w1, hrun, hR2, hg⟩ := hR1.put (t := 86) Try.underlying86 Try.underlying3 hmax x.1.2.2.rc hwf
      have HSM := Lib.hid (show lmStep (lmOf pre) x.1 = if (((lmOf pre) x.1.2.2.rc.addr).getD rc0).seq < x.1.2.2.rc.seq then (fun a => if a = x.1.2.2.rc.addr then some x.1.2.2.rc else lmOf pre a) else lmOf pre from by
        unfold lmStep
        by_cases hc : (((lmOf pre) x.1.2.2.rc.addr).getD rc0).seq < x.1.2.2.rc.seq
        · rw [if_pos ⟨h1, hc⟩, if_pos hc]
        · rw [if_neg (fun e => hc e.2), if_neg hc])
      unfold rcV at hlk hrun
      obtain ⟨es, ck, hmap⟩ := hR1.at_
      generalize ((lmOf pre) x.1.2.2.rc.addr).getD rc0 = q at *
      rw [h1] at x0
      clear h1 hra hwf hmax hpk
      by_cases hc : q.seq < x.1.2.2.rc.seq
      · have hH := HSM.out
        rw [if_pos hc] at hH
        replace HSM := Lib.hid hH
        have H2 := Lib.hid hR2
        have HM := Lib.hid hmap
        clear hH hmap hR2
        gi_wp2
        exact ⟨KeepsFrom.of_grownBy hg (fun j e => by cases e; omega), (Below.refl _ W).grown hg hB1.size (fun k e => by cases e; exact Nat.le_refl _),
          ⟨bS1.kept hg (fun e => by injection e with e; omega), by rw [hst.out, HSM.out, hll]; exact H2.out⟩, hB1.grown hg hB1.size (fun k e => by cases e; exact Nat.le_refl _)⟩
      · have hH := HSM.out
        rw [if_neg hc] at hH
        replace HSM := Lib.hid hH
        clear hH hmap hR2 hg hrun
        gi_wp2
        exact ⟨KeepsFrom.refl _ _, Below.refl _ _, ⟨bS1, by rw [hst.out, HSM.out]; exact hR1.mono (by omega)⟩, hB1⟩
    · have hH : lmStep (lmOf pre) x.1 = lmOf pre := by unfold lmStep; rw [if_neg (fun e => h1 e.1)]
      have HSM := Lib.hid hH
      have h1' : (x.1.2.2.state == 1) = false := by simpa using h1
      clear hH h1 hpk
      gi_wp2
      exact ⟨KeepsFrom.refl _ _, Below.refl _ _, ⟨bS1, by rw [hst.out, HSM.out]; exact hR1.mono (by omega)⟩, hB1⟩
  case done =>
    rintro D ys W hD hys ⟨⟨bS1, hR1⟩, hB1⟩ hK
    have cS := bS1.cell
    gi_wp2
    refine ⟨by simp, .inl ⟨_, _, rfl, run_takeDeferred hK, ?_⟩⟩
    have hyl : ys.length ≤ 16 := by have h1 := HAL.out; have h2 := HFL.out; rw [← hys, List.length_map] at h1; omega
    have hRf : RMap Try.prog 3 W w.heap.size 16 (lastMap (allFrom 0 f)) := by rw [← hys]; exact hR1.mono hyl
    exact ⟨_, results_tmp rfl _ _ _, rfl, hRf.kept (grownBy_putObj' _ D _) (fun e => by cases e; omega), hB1.trans (belowK_b (w := w) (Nat.le_refl _) W D _ _ (by omega) hK rfl rfl)⟩
  case stop =>
    rintro D c pre W _ _ h _
    exact h.elim
end Go.Proofs.Ytbekihiiildgmaa
namespace Go.Proofs.Ytbekihiiildgmaa
set_option linter.unusedVariables false
set_option linter.unusedSimpArgs false
open Go.RowKit Go.Maps
set_option maxHeartbeats 400000
def partGo : Nat → List Bk → Option Nat
  | _, [] => none
  | i, b :: r => if partly b = true then some i else partGo (i + 1) r
def bestGo (f : List Bk) : Nat → Nat → Bool → List Bk → Nat × Bool
  | _, best, found, [] => (best, found)
  | i, best, found, b :: r => if clean b = 4 ∧ (found = false ∨ b.worn < (f.getD best zbk).worn) then bestGo f (i + 1) i true r else bestGo f (i + 1) best found r
def openI (f : List Bk) : Int × Bool :=
  match partGo 0 f with
  | some i => ((i : Int), true)
  | none => (((bestGo f 0 0 false f).1 : Int), (bestGo f 0 0 false f).2)
theorem openGo_eq {f : List Bk} : ∀ (r : List Bk) (i best : Nat) (found : Bool) (out : Int), (∀ b ∈ r, b.pages.length = 4) → (found = false → best = 0 ∧ out = -1) → (found = true → out = best) →
    openGo f i out r = match partGo i r with
      | some j => ((j : Int), true)
      | none => (((bestGo f i best found r).1 : Int), (bestGo f i best found r).2)
  | [], i, best, found, out, _, h1, h2 => by
    cases found
    · obtain ⟨rfl, rfl⟩ := h1 rfl; rfl
    · obtain rfl := h2 rfl
      unfold openGo partGo bestGo
      simp
  | b :: r, i, best, found, out, hp, h1, h2 => by
    have hc := clean_le4 (hp b (List.mem_cons_self ..))
    have hp' : ∀ c ∈ r, c.pages.length = 4 := fun c hc => hp c (List.mem_cons_of_mem _ hc)
    unfold openGo partGo bestGo
    by_cases hpt : 0 < clean b ∧ clean b < 4
    · have hpb : partly b = true := by unfold partly; simp [hpt.1, hpt.2]
      rw [if_pos hpt, if_pos hpb]
    · have hpb : ¬ partly b = true := by unfold partly; simpa using hpt
      rw [if_neg hpt, if_neg hpb]
      by_cases h4 : clean b = 4 ∧ (found = false ∨ b.worn < (f.getD best zbk).worn)
      · have hcond : 0 < clean b ∧ (out < 0 ∨ b.worn < (f.getD out.toNat zbk).worn) := by
          refine ⟨by omega, ?_⟩
          cases found
          · obtain ⟨_, rfl⟩ := h1 rfl; exact .inl (by omega)
          · obtain rfl := h2 rfl
            rcases h4.2 with h | h
            · cases h
            · exact .inr (by rw [Int.toNat_natCast]; exact h)
        rw [if_pos hcond, if_pos h4]
        exact openGo_eq r (i + 1) i true i hp' (fun h => by cases h) (fun _ => rfl)
      · have hcond : ¬ (0 < clean b ∧ (out < 0 ∨ b.worn < (f.getD out.toNat zbk).worn)) := by
          rintro ⟨ha, hb⟩
          have hcl : clean b = 4 := by omega
          refine h4 ⟨hcl, ?_⟩
          cases found
          · exact .inl rfl
          · obtain rfl := h2 rfl
            rcases hb with hb | hb
            · omega
            · exact .inr (by rw [Int.toNat_natCast] at hb; exact hb)
        rw [if_neg hcond, if_neg h4]
        exact openGo_eq r (i + 1) best found out hp' h1 h2
theorem openI_eq {f : List Bk} (h : ∀ b ∈ f, b.pages.length = 4) : openB f = openI f := openGo_eq f 0 0 false (-1) h (fun _ => ⟨rfl, rfl⟩) (fun h => by cases h)
def findOpen (f : List Bk) : Int × Bool := if flashOk f = true then openB f else (0, false)
set_option maxHeartbeats 4000000 in
set_option maxRecDepth 100000 in
theorem impl_FindOpen (f : List Bk) (A : Option Addr) (n c : Nat) (w : World) (hn : n = f.length) (hF : Fl w A f) :
    Calls Try.prog 128 #[.slice A n c] w fun e w' => e = .returned (.tuple #[.int .i64 (findOpen f).1, .bool (findOpen f).2]) ∧ Below w.heap.size w w' := by
  subst hn
  go_enter Try.func128, Try.ntmps128
  go_wp2_with fail
  refine (impl_FlashOk f A c _ hF).mono ?_
  rintro e w1 ⟨rfl, hb1⟩
  have hF1 := hF.below hb1 (Nat.le_refl _)
  by_cases hok : flashOk f = true
  · have HSH := Lib.hid (fun b hb => (flashOk_shape hok b hb).1)
    have hfin : Hid (findOpen f = openI f) := by unfold Hid findOpen; rw [if_pos hok, openI_eq HSH.out]
    have HL := Lib.hid (flashOk_len hok)
    rw [hok]
    clear hok
    obtain ⟨hs, hBk⟩ := hF1
    obtain ⟨g, o, rfl⟩ := hBk.addr (by intro e; have := HL.out; rw [e] at this; simp at this)
    go_wp2
    go_loopw [15] (fun i wr => ∃ k : Nat, k ≤ f.length ∧ i = .int .i64 k ∧ Below w1.heap.size w1 wr ∧ Hid (partGo 0 f = partGo k (f.drop k))) (fun i _ => f.length - (intOf i).toNat)
    case atStart => exact ⟨0, by omega, rfl, Below.refl _ _, rfl⟩
    case round =>
      obtain ⟨k, hk, rfl, hB, hT⟩ := hrel
      by_cases hlt : k < f.length
      · obtain ⟨B, hb⟩ := get_some hlt
        obtain ⟨⟨Z, cz⟩, _, c0, c1, _, _, hR, _⟩ := (hBk.below hB (Nat.le_refl _)).at_ hb
        dsimp only at c0 hR
        have hpl : B.pages.length < 1000000000000 := by rw [HSH.out B (List.mem_of_getElem? hb)]; omega
        have hk1 : (k : Int) < f.length := by omega
        have hl4 := HL.out
        have e1 : IntKind.i64.wrap ((k : Int) + 1) = (k : Int) + 1 := IntWalk.i64_in _ (by omega)
        clear hl4
        have hT2 : Hid (partGo 0 f = if partly B = true then some k else partGo (k + 1) (f.drop (k + 1))) := by rw [Hid, hT.out, drop_cons hb]; rfl
        have hRa := hR.alloc (.cells #[.slice Z B.pages.length cz, .int .i64 B.worn] 137)
        have hBa : Below w1.heap.size w1 (wr.alloc (.cells #[.slice Z B.pages.length cz, .int .i64 B.worn] 137)) := hB.alloc hB.size _
        have hsz : (wr.alloc (.cells #[.slice Z B.pages.length cz, .int .i64 B.worn] 137)).heap.size = wr.heap.size + 1 := by simp
        clear hb hT
        go_wp2_with fail
        refine (impl_partlyUsed B Z _ cz _ rfl hpl hRa).mono ?_
        rintro e w2 ⟨rfl, hb2⟩
        have hB2 := hBa.trans (hb2.mono (by have := hB.size; omega))
        by_cases hpt : partly B = true
        · have h3 : Hid (openI f = ((k : Int), true)) := by rw [Hid]; unfold openI; rw [hT2.out, if_pos hpt]
          rw [hpt]
          go_wp2
          go_ret2
          exact ⟨by rw [hfin.out, h3.out]; rfl, hb1.trans (hB2.mono hb1.size)⟩
        · have h3 : Hid (partGo 0 f = partGo (k + 1) (f.drop (k + 1))) := by rw [Hid, hT2.out, if_neg hpt]
          rw [show partly B = false from by simpa using hpt]
          go_wp2
          go_roundw
          (case rel => exact ⟨k + 1, by omega, by go_num, hB2, h3⟩)
          (case measure => simp [intOf]; omega)
      · obtain rfl : k = f.length := by omega
        have hnone : Hid (openI f = (((bestGo f 0 0 false f).1 : Int), (bestGo f 0 0 false f).2)) := by
          rw [Hid]; unfold openI; rw [hT.out, List.drop_of_length_le (Nat.le_refl _)]; rfl
        clear hT
        have hl4 := HL.out
        have hfp : 0 < f.length := by omega
        clear hl4
        go_wp2
        go_loopw [6, 7, 26] (fun q u i wl => ∃ (k m : Nat) (fd : Bool), k ≤ f.length ∧ m < f.length ∧ i = .int .i64 k ∧ q = .int .i64 m ∧ u = .bool fd ∧ Below w1.heap.size w1 wl ∧ Hid (bestGo f 0 0 false f = bestGo f k m fd (f.drop k))) (fun _ _ i _ => f.length - (intOf i).toNat)
        case atStart => exact ⟨0, 0, false, by omega, hfp, rfl, rfl, rfl, hB, rfl⟩
        case round =>
          obtain ⟨k, m, fd, hk, hm, rfl, rfl, rfl, hBl, hT⟩ := hrel
          by_cases hlt : k < f.length
          · obtain ⟨B, hb⟩ := get_some hlt
            obtain ⟨Bm, hbm⟩ := get_some hm
            have hBkl := hBk.below hBl (Nat.le_refl _)
            obtain ⟨⟨Z, cz⟩, _, c0, c1, _, _, hR, _⟩ := hBkl.at_ hb
            obtain ⟨_, _, _, m1, _⟩ := hBkl.at_ hbm
            dsimp only at c0 hR
            have hpl : B.pages.length < 1000000000000 := by rw [HSH.out B (List.mem_of_getElem? hb)]; omega
            have hcl := clean_le4 (HSH.out B (List.mem_of_getElem? hb))
            have hgm : f.getD m zbk = Bm := by rw [List.getD_eq_getElem?_getD, hbm]; rfl
            have hT2 : Hid (bestGo f 0 0 false f = if clean B = 4 ∧ (fd = false ∨ B.worn < Bm.worn) then bestGo f (k + 1) k true (f.drop (k + 1)) else bestGo f (k + 1) m fd (f.drop (k + 1))) := by rw [Hid, hT.out, drop_cons hb, bestGo, hgm]
            have hk1 : (k : Int) < f.length := by omega
            have hm1 : (m : Int) < f.length := by omega
            clear hb hbm hgm hT hBkl
            have hl4 := HL.out
            have e1 : IntKind.i64.wrap ((k : Int) + 1) = (k : Int) + 1 := IntWalk.i64_in _ (by omega)
            clear hl4
            have hnw := Row.new wr #[.slice Z B.pages.length cz, .int .i64 B.worn] 137
            obtain ⟨y0, _⟩ := hnw.at0 (j := 0) rfl
            obtain ⟨y1, _⟩ := hnw.at0 (j := 1) rfl
            have l9 : wr.heap.size < (wr.alloc (.cells #[.slice Z B.pages.length cz, .int .i64 B.worn] 137)).heap.size := by simp
            have lg0 := lt_of_cell m1
            have y2 : (wr.alloc (.cells #[.slice Z B.pages.length cz, .int .i64 B.worn] 137)).cell? ⟨g, o + m * 2 + 1, none⟩ = some (.int .i64 Bm.worn) := (((Below.refl wr.heap.size wr).alloc (Nat.le_refl _) _).cell (p := ⟨g, o + m * 2 + 1, none⟩) lg0).trans m1
            have lg : g < (wr.alloc (.cells #[.slice Z B.pages.length cz, .int .i64 B.worn] 137)).heap.size := by omega
            have hRd := (hR.alloc (.cells #[.slice Z B.pages.length cz, .int .i64 B.worn] 137)).drew
            have hBa : Below w1.heap.size w1 (wr.alloc (.cells #[.slice Z B.pages.length cz, .int .i64 B.worn] 137)) := hBl.alloc hBl.size _
            have hsz := hBa.size
            clear hnw
            by_cases hq : clean B = 4
            · have HQ := Lib.hid hq
              cases fd
              · have h3 : Hid (bestGo f 0 0 false f = bestGo f (k + 1) k true (f.drop (k + 1))) := by rw [Hid, hT2.out, if_pos ⟨hq, .inl rfl⟩]
                clear hq
                go_wp2
                refine wp_region_held_drew (S := (fun w' => w'.cell? ⟨wr.heap.size, 0, none⟩ = some (.slice Z B.pages.length cz) ∧ w'.cell? ⟨wr.heap.size, 1, none⟩ = some (.int .i64 B.worn) ∧ w'.cell? ⟨g, o + m * 2 + 1, none⟩ = some (.int .i64 Bm.worn))) (by kernel_rfl) ⟨y0, y1, y2⟩ (fun hHeld => ?_)
                refine wpAnyH_take (i := 0) (v := ?va0) rfl (by kernel_rfl) (by kernel_rfl) (by kernel_rfl) (fun _ _ _ h => h) (Or.inl ⟨by rfl, ?ya0⟩) hHeld ?ra0
                case ya0 => (intro w' hS; (try dsimp only at hS); obtain ⟨s0, s1, s2⟩ := hS; (try go_simp); (try with_reducible rfl))
                try simp only [Act.put, jA, jB, jC, jD, jE, jF]
                refine wpAnyH_ready (rs := [1]) (by kernel_rfl) (by simp) ?_
                refine AllReadyH.cons rfl (fun K hK => ?_) AllReadyH.nil
                go_simp
                refine (impl_freePages B Z _ cz _ rfl hpl hRd).mono ?_
                rw [HQ.out]
                rintro e w10 ⟨rfl, hb10⟩
                replace hb10 := undrew hb10
                go_wp2_with fail
                refine hK.out _ _ ⟨(hb10.cell (p := ⟨wr.heap.size, 0, none⟩) l9).trans y0, (hb10.cell (p := ⟨wr.heap.size, 1, none⟩) l9).trans y1, (hb10.cell (p := ⟨g, o + m * 2 + 1, none⟩) lg).trans y2⟩ (fun hHeld2 => ?_)
                clear hK K
                try simp only [Act.put, jA, jB, jC, jD, jE, jF]
                refine wpAnyH_take (i := 2) (v := ?va2) rfl (by kernel_rfl) (by kernel_rfl) (by kernel_rfl) (fun _ _ _ h => h) (Or.inl ⟨by rfl, ?ya2⟩) hHeld2 ?ra2
                case ya2 => (intro w' hS; (try dsimp only at hS); obtain ⟨s0, s1, s2⟩ := hS; (try go_simp); (try with_reducible rfl))
                try simp only [Act.put, jA, jB, jC, jD, jE, jF]
                refine wpAnyH_take (i := 3) (v := ?va3) rfl (by kernel_rfl) (by kernel_rfl) (by kernel_rfl) (fun _ _ _ h => h) (Or.inl ⟨by rfl, ?ya3⟩) hHeld2 ?ra3
                case ya3 => (intro w' hS; (try dsimp only at hS); obtain ⟨s0, s1, s2⟩ := hS; (try go_simp); (try with_reducible rfl))
                try simp only [Act.put, jA, jB, jC, jD, jE, jF]
                refine wpAnyH_take (i := 4) (v := ?va4) rfl (by kernel_rfl) (by kernel_rfl) (by kernel_rfl) (fun _ _ _ h => h) (Or.inl ⟨by rfl, ?ya4⟩) hHeld2 ?ra4
                case ya4 => (intro w' hS; (try dsimp only at hS); obtain ⟨s0, s1, s2⟩ := hS; (try go_simp); (try with_reducible rfl))
                try simp only [Act.put, jA, jB, jC, jD, jE, jF]
                refine wpAnyH_take (i := 5) (v := ?va5) rfl (by kernel_rfl) (by kernel_rfl) (by kernel_rfl) (fun _ _ _ h => h) (Or.inl ⟨by rfl, ?ya5⟩) hHeld2 ?ra5
                case ya5 => (intro w' hS; (try dsimp only at hS); obtain ⟨s0, s1, s2⟩ := hS; (try go_simp); (try with_reducible rfl))
                try simp only [Act.put, jA, jB, jC, jD, jE, jF]
                refine wpAnyH_take (i := 6) (v := ?va6) rfl (by kernel_rfl) (by kernel_rfl) (by kernel_rfl) (fun _ _ _ h => h) (Or.inl ⟨by rfl, ?ya6⟩) hHeld2 ?ra6
                case ya6 => (intro w' hS; (try dsimp only at hS); obtain ⟨s0, s1, s2⟩ := hS; (try go_simp); (try with_reducible rfl))
                try simp only [Act.put, jA, jB, jC, jD, jE, jF]
                refine wpAnyH_take (i := 7) (v := undef) rfl (by kernel_rfl) (by kernel_rfl) (by kernel_rfl) (fun _ _ _ h => h) (Or.inr ⟨by rfl, rfl⟩) hHeld2 ?_
                try simp only [Act.put, jA, jB, jC, jD, jE, jF]
                refine wpAnyH_take (i := 8) (v := undef) rfl (by kernel_rfl) (by kernel_rfl) (by kernel_rfl) (fun _ _ _ h => h) (Or.inr ⟨by rfl, rfl⟩) hHeld2 ?_
                try simp only [Act.put, jA, jB, jC, jD, jE, jF]
                refine wpAnyH_take (i := 9) (v := undef) rfl (by kernel_rfl) (by kernel_rfl) (by kernel_rfl) (fun _ _ _ h => h) (Or.inr ⟨by rfl, rfl⟩) hHeld2 ?_
                try simp only [Act.put, jA, jB, jC, jD, jE, jF]
                refine wpAnyH_take (i := 10) (v := undef) rfl (by kernel_rfl) (by kernel_rfl) (by kernel_rfl) (fun _ _ _ h => h) (Or.inr ⟨by rfl, rfl⟩) hHeld2 ?_
                try simp only [Act.put, jA, jB, jC, jD, jE, jF]
                refine wpAnyH_take (i := 11) (v := undef) rfl (by kernel_rfl) (by kernel_rfl) (by kernel_rfl) (fun _ _ _ h => h) (Or.inr ⟨by rfl, rfl⟩) hHeld2 ?_
                try simp only [Act.put, jA, jB, jC, jD, jE, jF]
                refine wpAnyH_take (i := 12) (v := undef) rfl (by kernel_rfl) (by kernel_rfl) (by kernel_rfl) (fun _ _ _ h => h) (Or.inr ⟨by rfl, rfl⟩) hHeld2 ?_
                try simp only [Act.put, jA, jB, jC, jD, jE, jF]
                refine wpAnyH_take (i := 13) (v := undef) rfl (by kernel_rfl) (by kernel_rfl) (by kernel_rfl) (fun _ _ _ h => h) (Or.inr ⟨by rfl, rfl⟩) hHeld2 ?_
                try simp only [Act.put, jA, jB, jC, jD, jE, jF]
                refine wpAnyH_take (i := 14) (v := undef) rfl (by kernel_rfl) (by kernel_rfl) (by kernel_rfl) (fun _ _ _ h => h) (Or.inr ⟨by rfl, rfl⟩) hHeld2 ?_
                try simp only [Act.put, jA, jB, jC, jD, jE, jF]
                refine wpAnyH_take (i := 15) (v := ?va15) rfl (by kernel_rfl) (by kernel_rfl) (by kernel_rfl) (fun _ _ _ h => h) (Or.inl ⟨by rfl, ?ya15⟩) hHeld2 ?ra15
                case ya15 => (intro w' hS; (try dsimp only at hS); obtain ⟨s0, s1, s2⟩ := hS; (try go_simp); (try with_reducible rfl))
                try simp only [Act.put, jA, jB, jC, jD, jE, jF]
                refine wpAnyH_take (i := 16) (v := ?va16) rfl (by kernel_rfl) (by kernel_rfl) (by kernel_rfl) (fun _ _ _ h => h) (Or.inl ⟨by rfl, ?ya16⟩) hHeld2 ?ra16
                case ya16 => (intro w' hS; (try dsimp only at hS); obtain ⟨s0, s1, s2⟩ := hS; (try go_simp); (try with_reducible rfl))
                try simp only [Act.put, jA, jB, jC, jD, jE, jF]
                refine wpAnyH_done (by kernel_rfl) ?_ _
                have hB10 := hBa.trans (hb10.mono hsz)
                clear y0 y1 y2 hb10
                go_wp2
                go_roundw
                (case rel => exact ⟨k + 1, k, true, by omega, by omega, by go_num, rfl, rfl, hB10, h3⟩)
                (case measure => simp [intOf]; omega)
              · by_cases hwn : B.worn < Bm.worn
                · have h3 : Hid (bestGo f 0 0 false f = bestGo f (k + 1) k true (f.drop (k + 1))) := by rw [Hid, hT2.out, if_pos ⟨hq, .inr hwn⟩]
                  clear hq
                  go_wp2
                  refine wp_region_held_drew (S := (fun w' => w'.cell? ⟨wr.heap.size, 0, none⟩ = some (.slice Z B.pages.length cz) ∧ w'.cell? ⟨wr.heap.size, 1, none⟩ = some (.int .i64 B.worn) ∧ w'.cell? ⟨g, o + m * 2 + 1, none⟩ = some (.int .i64 Bm.worn))) (by kernel_rfl) ⟨y0, y1, y2⟩ (fun hHeld => ?_)
                  refine wpAnyH_take (i := 0) (v := ?vb0) rfl (by kernel_rfl) (by kernel_rfl) (by kernel_rfl) (fun _ _ _ h => h) (Or.inl ⟨by rfl, ?yb0⟩) hHeld ?rb0
                  case yb0 => (intro w' hS; (try dsimp only at hS); obtain ⟨s0, s1, s2⟩ := hS; (try go_simp); (try with_reducible rfl))
                  try simp only [Act.put, jA, jB, jC, jD, jE, jF]
                  refine wpAnyH_ready (rs := [1]) (by kernel_rfl) (by simp) ?_
                  refine AllReadyH.cons rfl (fun K hK => ?_) AllReadyH.nil
                  go_simp
                  refine (impl_freePages B Z _ cz _ rfl hpl hRd).mono ?_
                  rw [HQ.out]
                  rintro e w10 ⟨rfl, hb10⟩
                  replace hb10 := undrew hb10
                  go_wp2_with fail
                  refine hK.out _ _ ⟨(hb10.cell (p := ⟨wr.heap.size, 0, none⟩) l9).trans y0, (hb10.cell (p := ⟨wr.heap.size, 1, none⟩) l9).trans y1, (hb10.cell (p := ⟨g, o + m * 2 + 1, none⟩) lg).trans y2⟩ (fun hHeld2 => ?_)
                  clear hK K
                  try simp only [Act.put, jA, jB, jC, jD, jE, jF]
                  refine wpAnyH_take (i := 2) (v := ?vb2) rfl (by kernel_rfl) (by kernel_rfl) (by kernel_rfl) (fun _ _ _ h => h) (Or.inl ⟨by rfl, ?yb2⟩) hHeld2 ?rb2
                  case yb2 => (intro w' hS; (try dsimp only at hS); obtain ⟨s0, s1, s2⟩ := hS; (try go_simp); (try with_reducible rfl))
                  try simp only [Act.put, jA, jB, jC, jD, jE, jF]
                  refine wpAnyH_take (i := 3) (v := ?vb3) rfl (by kernel_rfl) (by kernel_rfl) (by kernel_rfl) (fun _ _ _ h => h) (Or.inl ⟨by rfl, ?yb3⟩) hHeld2 ?rb3
                  case yb3 => (intro w' hS; (try dsimp only at hS); obtain ⟨s0, s1, s2⟩ := hS; (try go_simp); (try with_reducible rfl))
                  try simp only [Act.put, jA, jB, jC, jD, jE, jF]
                  refine wpAnyH_take (i := 4) (v := ?vb4) rfl (by kernel_rfl) (by kernel_rfl) (by kernel_rfl) (fun _ _ _ h => h) (Or.inl ⟨by rfl, ?yb4⟩) hHeld2 ?rb4
                  case yb4 => (intro w' hS; (try dsimp only at hS); obtain ⟨s0, s1, s2⟩ := hS; (try go_simp); (try with_reducible rfl))
                  try simp only [Act.put, jA, jB, jC, jD, jE, jF]
                  refine wpAnyH_take (i := 5) (v := ?vb5) rfl (by kernel_rfl) (by kernel_rfl) (by kernel_rfl) (fun _ _ _ h => h) (Or.inl ⟨by rfl, ?yb5⟩) hHeld2 ?rb5
                  case yb5 => (intro w' hS; (try dsimp only at hS); obtain ⟨s0, s1, s2⟩ := hS; (try go_simp); (try with_reducible rfl))
                  try simp only [Act.put, jA, jB, jC, jD, jE, jF]
                  refine wpAnyH_take (i := 6) (v := ?vb6) rfl (by kernel_rfl) (by kernel_rfl) (by kernel_rfl) (fun _ _ _ h => h) (Or.inl ⟨by rfl, ?yb6⟩) hHeld2 ?rb6
                  case yb6 => (intro w' hS; (try dsimp only at hS); obtain ⟨s0, s1, s2⟩ := hS; (try go_simp); (try with_reducible rfl))
                  try simp only [Act.put, jA, jB, jC, jD, jE, jF]
                  refine wpAnyH_take (i := 7) (v := ?vb7) rfl (by kernel_rfl) (by kernel_rfl) (by kernel_rfl) (fun _ _ _ h => h) (Or.inl ⟨by rfl, ?yb7⟩) hHeld2 ?rb7
                  case yb7 => (intro w' hS; (try dsimp only at hS); obtain ⟨s0, s1, s2⟩ := hS; (try go_simp); (try with_reducible rfl))
                  try simp only [Act.put, jA, jB, jC, jD, jE, jF]
                  refine wpAnyH_take (i := 8) (v := ?vb8) rfl (by kernel_rfl) (by kernel_rfl) (by kernel_rfl) (fun _ _ _ h => h) (Or.inl ⟨by rfl, ?yb8⟩) hHeld2 ?rb8
                  case yb8 => (intro w' hS; (try dsimp only at hS); obtain ⟨s0, s1, s2⟩ := hS; (try go_simp); (try with_reducible rfl))
                  try simp only [Act.put, jA, jB, jC, jD, jE, jF]
                  refine wpAnyH_take (i := 9) (v := ?vb9) rfl (by kernel_rfl) (by kernel_rfl) (by kernel_rfl) (fun _ _ _ h => h) (Or.inl ⟨by rfl, ?yb9⟩) hHeld2 ?rb9
                  case yb9 => (intro w' hS; (try dsimp only at hS); obtain ⟨s0, s1, s2⟩ := hS; (try go_simp); (try with_reducible rfl))
                  try simp only [Act.put, jA, jB, jC, jD, jE, jF]
                  refine wpAnyH_take (i := 10) (v := ?vb10) rfl (by kernel_rfl) (by kernel_rfl) (by kernel_rfl) (fun _ _ _ h => h) (Or.inl ⟨by rfl, ?yb10⟩) hHeld2 ?rb10
                  case yb10 => (intro w' hS; (try dsimp only at hS); obtain ⟨s0, s1, s2⟩ := hS; (try go_simp); (try with_reducible rfl))
                  try simp only [Act.put, jA, jB, jC, jD, jE, jF]
                  refine wpAnyH_take (i := 11) (v := ?vb11) rfl (by kernel_rfl) (by kernel_rfl) (by kernel_rfl) (fun _ _ _ h => h) (Or.inl ⟨by rfl, ?yb11⟩) hHeld2 ?rb11
                  case yb11 => (intro w' hS; (try dsimp only at hS); obtain ⟨s0, s1, s2⟩ := hS; (try go_simp); (try with_reducible rfl))
                  try simp only [Act.put, jA, jB, jC, jD, jE, jF]
                  refine wpAnyH_take (i := 12) (v := ?vb12) rfl (by kernel_rfl) (by kernel_rfl) (by kernel_rfl) (fun _ _ _ h => h) (Or.inl ⟨by rfl, ?yb12⟩) hHeld2 ?rb12
                  case yb12 => (intro w' hS; (try dsimp only at hS); obtain ⟨s0, s1, s2⟩ := hS; (try go_simp); (try with_reducible rfl))
                  try simp only [Act.put, jA, jB, jC, jD, jE, jF]
                  refine wpAnyH_take (i := 13) (v := ?vb13) rfl (by kernel_rfl) (by kernel_rfl) (by kernel_rfl) (fun _ _ _ h => h) (Or.inl ⟨by rfl, ?yb13⟩) hHeld2 ?rb13
                  case yb13 => (intro w' hS; (try dsimp only at hS); obtain ⟨s0, s1, s2⟩ := hS; (try go_simp); (try with_reducible rfl))
                  try simp only [Act.put, jA, jB, jC, jD, jE, jF]
                  refine wpAnyH_take (i := 14) (v := ?vb14) rfl (by kernel_rfl) (by kernel_rfl) (by kernel_rfl) (fun _ _ _ h => h) (Or.inl ⟨by rfl, ?yb14⟩) hHeld2 ?rb14
                  case yb14 => (intro w' hS; (try dsimp only at hS); obtain ⟨s0, s1, s2⟩ := hS; (try go_simp); (try with_reducible rfl))
                  try simp only [Act.put, jA, jB, jC, jD, jE, jF]
                  refine wpAnyH_take (i := 15) (v := ?vb15) rfl (by kernel_rfl) (by kernel_rfl) (by kernel_rfl) (fun _ _ _ h => h) (Or.inl ⟨by rfl, ?yb15⟩) hHeld2 ?rb15
                  case yb15 => (intro w' hS; (try dsimp only at hS); obtain ⟨s0, s1, s2⟩ := hS; (try go_simp); (try with_reducible rfl))
                  try simp only [Act.put, jA, jB, jC, jD, jE, jF]
                  refine wpAnyH_take (i := 16) (v := ?vb16) rfl (by kernel_rfl) (by kernel_rfl) (by kernel_rfl) (fun _ _ _ h => h) (Or.inl ⟨by rfl, ?yb16⟩) hHeld2 ?rb16
                  case yb16 => (intro w' hS; (try dsimp only at hS); obtain ⟨s0, s1, s2⟩ := hS; (try go_simp); (try with_reducible rfl))
                  try simp only [Act.put, jA, jB, jC, jD, jE, jF]
                  refine wpAnyH_done (by kernel_rfl) ?_ _
                  have hB10 := hBa.trans (hb10.mono hsz)
                  clear y0 y1 y2 hb10
                  go_wp2
                  go_roundw
                  (case rel => exact ⟨k + 1, k, true, by omega, by omega, by go_num, rfl, rfl, hB10, h3⟩)
                  (case measure => simp [intOf]; omega)
                · have h3 : Hid (bestGo f 0 0 false f = bestGo f (k + 1) m true (f.drop (k + 1))) := by rw [Hid, hT2.out, if_neg (by rintro ⟨_, h | h⟩; cases h; exact hwn h)]
                  clear hq
                  go_wp2
                  refine wp_region_held_drew (S := (fun w' => w'.cell? ⟨wr.heap.size, 0, none⟩ = some (.slice Z B.pages.length cz) ∧ w'.cell? ⟨wr.heap.size, 1, none⟩ = some (.int .i64 B.worn) ∧ w'.cell? ⟨g, o + m * 2 + 1, none⟩ = some (.int .i64 Bm.worn))) (by kernel_rfl) ⟨y0, y1, y2⟩ (fun hHeld => ?_)
                  refine wpAnyH_take (i := 0) (v := ?vc0) rfl (by kernel_rfl) (by kernel_rfl) (by kernel_rfl) (fun _ _ _ h => h) (Or.inl ⟨by rfl, ?yc0⟩) hHeld ?rc0
                  case yc0 => (intro w' hS; (try dsimp only at hS); obtain ⟨s0, s1, s2⟩ := hS; (try go_simp); (try with_reducible rfl))
                  try simp only [Act.put, jA, jB, jC, jD, jE, jF]
                  refine wpAnyH_ready (rs := [1]) (by kernel_rfl) (by simp) ?_
                  refine AllReadyH.cons rfl (fun K hK => ?_) AllReadyH.nil
                  go_simp
                  refine (impl_freePages B Z _ cz _ rfl hpl hRd).mono ?_
                  rw [HQ.out]
                  rintro e w10 ⟨rfl, hb10⟩
                  replace hb10 := undrew hb10
                  go_wp2_with fail
                  refine hK.out _ _ ⟨(hb10.cell (p := ⟨wr.heap.size, 0, none⟩) l9).trans y0, (hb10.cell (p := ⟨wr.heap.size, 1, none⟩) l9).trans y1, (hb10.cell (p := ⟨g, o + m * 2 + 1, none⟩) lg).trans y2⟩ (fun hHeld2 => ?_)
                  clear hK K
                  try simp only [Act.put, jA, jB, jC, jD, jE, jF]
                  refine wpAnyH_take (i := 2) (v := ?vc2) rfl (by kernel_rfl) (by kernel_rfl) (by kernel_rfl) (fun _ _ _ h => h) (Or.inl ⟨by rfl, ?yc2⟩) hHeld2 ?rc2
                  case yc2 => (intro w' hS; (try dsimp only at hS); obtain ⟨s0, s1, s2⟩ := hS; (try go_simp); (try with_reducible rfl))
                  try simp only [Act.put, jA, jB, jC, jD, jE, jF]
                  refine wpAnyH_take (i := 3) (v := ?vc3) rfl (by kernel_rfl) (by kernel_rfl) (by kernel_rfl) (fun _ _ _ h => h) (Or.inl ⟨by rfl, ?yc3⟩) hHeld2 ?rc3
                  case yc3 => (intro w' hS; (try dsimp only at hS); obtain ⟨s0, s1, s2⟩ := hS; (try go_simp); (try with_reducible rfl))
                  try simp only [Act.put, jA, jB, jC, jD, jE, jF]
                  refine wpAnyH_take (i := 4) (v := ?vc4) rfl (by kernel_rfl) (by kernel_rfl) (by kernel_rfl) (fun _ _ _ h => h) (Or.inl ⟨by rfl, ?yc4⟩) hHeld2 ?rc4
                  case yc4 => (intro w' hS; (try dsimp only at hS); obtain ⟨s0, s1, s2⟩ := hS; (try go_simp); (try with_reducible rfl))
                  try simp only [Act.put, jA, jB, jC, jD, jE, jF]
                  refine wpAnyH_take (i := 5) (v := ?vc5) rfl (by kernel_rfl) (by kernel_rfl) (by kernel_rfl) (fun _ _ _ h => h) (Or.inl ⟨by rfl, ?yc5⟩) hHeld2 ?rc5
                  case yc5 => (intro w' hS; (try dsimp only at hS); obtain ⟨s0, s1, s2⟩ := hS; (try go_simp); (try with_reducible rfl))
                  try simp only [Act.put, jA, jB, jC, jD, jE, jF]
                  refine wpAnyH_take (i := 6) (v := ?vc6) rfl (by kernel_rfl) (by kernel_rfl) (by kernel_rfl) (fun _ _ _ h => h) (Or.inl ⟨by rfl, ?yc6⟩) hHeld2 ?rc6
                  case yc6 => (intro w' hS; (try dsimp only at hS); obtain ⟨s0, s1, s2⟩ := hS; (try go_simp); (try with_reducible rfl))
                  try simp only [Act.put, jA, jB, jC, jD, jE, jF]
                  refine wpAnyH_take (i := 7) (v := ?vc7) rfl (by kernel_rfl) (by kernel_rfl) (by kernel_rfl) (fun _ _ _ h => h) (Or.inl ⟨by rfl, ?yc7⟩) hHeld2 ?rc7
                  case yc7 => (intro w' hS; (try dsimp only at hS); obtain ⟨s0, s1, s2⟩ := hS; (try go_simp); (try with_reducible rfl))
                  try simp only [Act.put, jA, jB, jC, jD, jE, jF]
                  refine wpAnyH_take (i := 8) (v := ?vc8) rfl (by kernel_rfl) (by kernel_rfl) (by kernel_rfl) (fun _ _ _ h => h) (Or.inl ⟨by rfl, ?yc8⟩) hHeld2 ?rc8
                  case yc8 => (intro w' hS; (try dsimp only at hS); obtain ⟨s0, s1, s2⟩ := hS; (try go_simp); (try with_reducible rfl))
                  try simp only [Act.put, jA, jB, jC, jD, jE, jF]
                  refine wpAnyH_take (i := 9) (v := ?vc9) rfl (by kernel_rfl) (by kernel_rfl) (by kernel_rfl) (fun _ _ _ h => h) (Or.inl ⟨by rfl, ?yc9⟩) hHeld2 ?rc9
                  case yc9 => (intro w' hS; (try dsimp only at hS); obtain ⟨s0, s1, s2⟩ := hS; (try go_simp); (try with_reducible rfl))
                  try simp only [Act.put, jA, jB, jC, jD, jE, jF]
                  refine wpAnyH_take (i := 10) (v := ?vc10) rfl (by kernel_rfl) (by kernel_rfl) (by kernel_rfl) (fun _ _ _ h => h) (Or.inl ⟨by rfl, ?yc10⟩) hHeld2 ?rc10
                  case yc10 => (intro w' hS; (try dsimp only at hS); obtain ⟨s0, s1, s2⟩ := hS; (try go_simp); (try with_reducible rfl))
                  try simp only [Act.put, jA, jB, jC, jD, jE, jF]
                  refine wpAnyH_take (i := 11) (v := ?vc11) rfl (by kernel_rfl) (by kernel_rfl) (by kernel_rfl) (fun _ _ _ h => h) (Or.inl ⟨by rfl, ?yc11⟩) hHeld2 ?rc11
                  case yc11 => (intro w' hS; (try dsimp only at hS); obtain ⟨s0, s1, s2⟩ := hS; (try go_simp); (try with_reducible rfl))
                  try simp only [Act.put, jA, jB, jC, jD, jE, jF]
                  refine wpAnyH_take (i := 12) (v := ?vc12) rfl (by kernel_rfl) (by kernel_rfl) (by kernel_rfl) (fun _ _ _ h => h) (Or.inl ⟨by rfl, ?yc12⟩) hHeld2 ?rc12
                  case yc12 => (intro w' hS; (try dsimp only at hS); obtain ⟨s0, s1, s2⟩ := hS; (try go_simp); (try with_reducible rfl))
                  try simp only [Act.put, jA, jB, jC, jD, jE, jF]
                  refine wpAnyH_take (i := 13) (v := ?vc13) rfl (by kernel_rfl) (by kernel_rfl) (by kernel_rfl) (fun _ _ _ h => h) (Or.inl ⟨by rfl, ?yc13⟩) hHeld2 ?rc13
                  case yc13 => (intro w' hS; (try dsimp only at hS); obtain ⟨s0, s1, s2⟩ := hS; (try go_simp); (try with_reducible rfl))
                  try simp only [Act.put, jA, jB, jC, jD, jE, jF]
                  refine wpAnyH_take (i := 14) (v := ?vc14) rfl (by kernel_rfl) (by kernel_rfl) (by kernel_rfl) (fun _ _ _ h => h) (Or.inl ⟨by rfl, ?yc14⟩) hHeld2 ?rc14
                  case yc14 => (intro w' hS; (try dsimp only at hS); obtain ⟨s0, s1, s2⟩ := hS; (try go_simp); (try with_reducible rfl))
                  try simp only [Act.put, jA, jB, jC, jD, jE, jF]
                  refine wpAnyH_take (i := 15) (v := ?vc15) rfl (by kernel_rfl) (by kernel_rfl) (by kernel_rfl) (fun _ _ _ h => h) (Or.inl ⟨by rfl, ?yc15⟩) hHeld2 ?rc15
                  case yc15 => (intro w' hS; (try dsimp only at hS); obtain ⟨s0, s1, s2⟩ := hS; (try go_simp); (try with_reducible rfl))
                  try simp only [Act.put, jA, jB, jC, jD, jE, jF]
                  refine wpAnyH_take (i := 16) (v := ?vc16) rfl (by kernel_rfl) (by kernel_rfl) (by kernel_rfl) (fun _ _ _ h => h) (Or.inl ⟨by rfl, ?yc16⟩) hHeld2 ?rc16
                  case yc16 => (intro w' hS; (try dsimp only at hS); obtain ⟨s0, s1, s2⟩ := hS; (try go_simp); (try with_reducible rfl))
                  try simp only [Act.put, jA, jB, jC, jD, jE, jF]
                  refine wpAnyH_done (by kernel_rfl) ?_ _
                  have hB10 := hBa.trans (hb10.mono hsz)
                  clear y0 y1 y2 hb10
                  go_wp2
                  go_roundw
                  (case rel => exact ⟨k + 1, m, true, by omega, hm, by go_num, rfl, rfl, hB10, h3⟩)
                  (case measure => simp [intOf]; omega)
            · have h3 : Hid (bestGo f 0 0 false f = bestGo f (k + 1) m fd (f.drop (k + 1))) := by rw [Hid, hT2.out, if_neg (fun h => hq h.1)]
              have e4 : ((clean B : Int) == 4) = false := by rw [beq_eq_false_iff_ne]; omega
              clear hq
              go_wp2
              refine wp_region_held_drew (S := (fun w' => w'.cell? ⟨wr.heap.size, 0, none⟩ = some (.slice Z B.pages.length cz) ∧ w'.cell? ⟨wr.heap.size, 1, none⟩ = some (.int .i64 B.worn) ∧ w'.cell? ⟨g, o + m * 2 + 1, none⟩ = some (.int .i64 Bm.worn))) (by kernel_rfl) ⟨y0, y1, y2⟩ (fun hHeld => ?_)
              refine wpAnyH_take (i := 0) (v := ?vd0) rfl (by kernel_rfl) (by kernel_rfl) (by kernel_rfl) (fun _ _ _ h => h) (Or.inl ⟨by rfl, ?yd0⟩) hHeld ?rd0
              case yd0 => (intro w' hS; (try dsimp only at hS); obtain ⟨s0, s1, s2⟩ := hS; (try go_simp); (try with_reducible rfl))
              try simp only [Act.put, jA, jB, jC, jD, jE, jF]
              refine wpAnyH_ready (rs := [1]) (by kernel_rfl) (by simp) ?_
              refine AllReadyH.cons rfl (fun K hK => ?_) AllReadyH.nil
              go_simp
              refine (impl_freePages B Z _ cz _ rfl hpl hRd).mono ?_
              rintro e w10 ⟨rfl, hb10⟩
              replace hb10 := undrew hb10
              go_wp2_with fail
              refine hK.out _ _ ⟨(hb10.cell (p := ⟨wr.heap.size, 0, none⟩) l9).trans y0, (hb10.cell (p := ⟨wr.heap.size, 1, none⟩) l9).trans y1, (hb10.cell (p := ⟨g, o + m * 2 + 1, none⟩) lg).trans y2⟩ (fun hHeld2 => ?_)
              clear hK K
              try simp only [Act.put, jA, jB, jC, jD, jE, jF]
              refine wpAnyH_take (i := 2) (v := ?vd2) rfl (by kernel_rfl) (by kernel_rfl) (by kernel_rfl) (fun _ _ _ h => h) (Or.inl ⟨by rfl, ?yd2⟩) hHeld2 ?rd2
              case yd2 => (intro w' hS; (try dsimp only at hS); obtain ⟨s0, s1, s2⟩ := hS; (try go_simp); (try with_reducible rfl))
              try simp only [Act.put, jA, jB, jC, jD, jE, jF]
              refine wpAnyH_take (i := 3) (v := ?vd3) rfl (by kernel_rfl) (by kernel_rfl) (by kernel_rfl) (fun _ _ _ h => h) (Or.inl ⟨by rfl, ?yd3⟩) hHeld2 ?rd3
              case yd3 => (intro w' hS; (try dsimp only at hS); obtain ⟨s0, s1, s2⟩ := hS; (try go_simp); (try with_reducible rfl))
              try simp only [Act.put, jA, jB, jC, jD, jE, jF]
              refine wpAnyH_take (i := 4) (v := undef) rfl (by kernel_rfl) (by kernel_rfl) (by kernel_rfl) (fun _ _ _ h => h) (Or.inr ⟨by rfl, rfl⟩) hHeld2 ?_
              try simp only [Act.put, jA, jB, jC, jD, jE, jF]
              refine wpAnyH_take (i := 5) (v := undef) rfl (by kernel_rfl) (by kernel_rfl) (by kernel_rfl) (fun _ _ _ h => h) (Or.inr ⟨by rfl, rfl⟩) hHeld2 ?_
              try simp only [Act.put, jA, jB, jC, jD, jE, jF]
              refine wpAnyH_take (i := 6) (v := undef) rfl (by kernel_rfl) (by kernel_rfl) (by kernel_rfl) (fun _ _ _ h => h) (Or.inr ⟨by rfl, rfl⟩) hHeld2 ?_
              try simp only [Act.put, jA, jB, jC, jD, jE, jF]
              refine wpAnyH_take (i := 7) (v := undef) rfl (by kernel_rfl) (by kernel_rfl) (by kernel_rfl) (fun _ _ _ h => h) (Or.inr ⟨by rfl, rfl⟩) hHeld2 ?_
              try simp only [Act.put, jA, jB, jC, jD, jE, jF]
              refine wpAnyH_take (i := 8) (v := undef) rfl (by kernel_rfl) (by kernel_rfl) (by kernel_rfl) (fun _ _ _ h => h) (Or.inr ⟨by rfl, rfl⟩) hHeld2 ?_
              try simp only [Act.put, jA, jB, jC, jD, jE, jF]
              refine wpAnyH_take (i := 9) (v := undef) rfl (by kernel_rfl) (by kernel_rfl) (by kernel_rfl) (fun _ _ _ h => h) (Or.inr ⟨by rfl, rfl⟩) hHeld2 ?_
              try simp only [Act.put, jA, jB, jC, jD, jE, jF]
              refine wpAnyH_take (i := 10) (v := undef) rfl (by kernel_rfl) (by kernel_rfl) (by kernel_rfl) (fun _ _ _ h => h) (Or.inr ⟨by rfl, rfl⟩) hHeld2 ?_
              try simp only [Act.put, jA, jB, jC, jD, jE, jF]
              refine wpAnyH_take (i := 11) (v := undef) rfl (by kernel_rfl) (by kernel_rfl) (by kernel_rfl) (fun _ _ _ h => h) (Or.inr ⟨by rfl, rfl⟩) hHeld2 ?_
              try simp only [Act.put, jA, jB, jC, jD, jE, jF]
              refine wpAnyH_take (i := 12) (v := undef) rfl (by kernel_rfl) (by kernel_rfl) (by kernel_rfl) (fun _ _ _ h => h) (Or.inr ⟨by rfl, rfl⟩) hHeld2 ?_
              try simp only [Act.put, jA, jB, jC, jD, jE, jF]
              refine wpAnyH_take (i := 13) (v := undef) rfl (by kernel_rfl) (by kernel_rfl) (by kernel_rfl) (fun _ _ _ h => h) (Or.inr ⟨by rfl, rfl⟩) hHeld2 ?_
              try simp only [Act.put, jA, jB, jC, jD, jE, jF]
              refine wpAnyH_take (i := 14) (v := undef) rfl (by kernel_rfl) (by kernel_rfl) (by kernel_rfl) (fun _ _ _ h => h) (Or.inr ⟨by rfl, rfl⟩) hHeld2 ?_
              try simp only [Act.put, jA, jB, jC, jD, jE, jF]
              refine wpAnyH_take (i := 15) (v := undef) rfl (by kernel_rfl) (by kernel_rfl) (by kernel_rfl) (fun _ _ _ h => h) (Or.inr ⟨by rfl, rfl⟩) hHeld2 ?_
              try simp only [Act.put, jA, jB, jC, jD, jE, jF]
              refine wpAnyH_take (i := 16) (v := ?vd16) rfl (by kernel_rfl) (by kernel_rfl) (by kernel_rfl) (fun _ _ _ h => h) (Or.inl ⟨by rfl, ?yd16⟩) hHeld2 ?rd16
              case yd16 => (intro w' hS; (try dsimp only at hS); obtain ⟨s0, s1, s2⟩ := hS; (try go_simp); (try with_reducible rfl))
              try simp only [Act.put, jA, jB, jC, jD, jE, jF]
              refine wpAnyH_done (by kernel_rfl) ?_ _
              have hB10 := hBa.trans (hb10.mono hsz)
              clear y0 y1 y2 hb10
              go_wp2
              go_roundw
              (case rel => exact ⟨k + 1, m, fd, by omega, hm, by go_num, rfl, rfl, hB10, h3⟩)
              (case measure => simp [intOf]; omega)
          · obtain rfl : k = f.length := by omega
            have h3 : Hid (bestGo f 0 0 false f = (m, fd)) := by rw [Hid, hT.out, List.drop_of_length_le (Nat.le_refl _)]; rfl
            go_wp2
            go_ret2
            exact ⟨by rw [hfin.out, hnone.out, h3.out]; rfl, hb1.trans (hBl.mono hb1.size)⟩
  · have hok' : flashOk f = false := by simpa using hok
    have hfin : Hid (findOpen f = (0, false)) := by unfold Hid findOpen; rw [if_neg hok]
    rw [hok']
    go_wp2
    go_ret2
    exact ⟨by rw [hfin.out]; rfl, hb1⟩
end Go.Proofs.Ytbekihiiildgmaa
namespace Go.Proofs.Ytbekihiiildgmaa
set_option linter.unusedVariables false
set_option linter.unusedSimpArgs false
open Go.RowKit Go.Maps
set_option maxHeartbeats 400000
def hiGo (ss : List Span) : Nat → Nat → List Span → Nat
  | _, old, [] => old
  | i, old, s :: r => if s.2 < (ss.getD old (0, 0)).2 then hiGo ss (i + 1) i r else hiGo ss (i + 1) old r
def findOld (f : List Bk) : Int := if flashOk f = true then (hiGo (spOf (allFrom 0 f)) 0 0 (spOf (allFrom 0 f)) : Nat) else -1
set_option maxHeartbeats 4000000 in
set_option maxRecDepth 100000 in
theorem impl_FindOld (f : List Bk) (A : Option Addr) (n c : Nat) (w : World) (hn : n = f.length) (hF : Fl w A f) :
    Calls Try.prog 129 #[.slice A n c] w fun e w' => e = .returned (.int .i64 (findOld f)) ∧ Below w.heap.size w w' := by
  subst hn
  go_enter Try.func129, Try.ntmps129
  go_wp2_with fail
  refine (impl_FlashOk f A c _ hF).mono ?_
  rintro e w1 ⟨rfl, hb1⟩
  by_cases hok : flashOk f = true
  · have HSH := Lib.hid (fun b hb => (flashOk_shape hok b hb).1)
    have HL := Lib.hid (flashOk_len hok)
    have hfin : Hid (findOld f = (hiGo (spOf (allFrom 0 f)) 0 0 (spOf (allFrom 0 f)) : Nat)) := by unfold Hid findOld; rw [if_pos hok]
    have hln := spOf_len (allFrom 0 f)
    rw [hok]
    clear hok
    obtain ⟨hs, hBk⟩ := hF
    obtain ⟨g, o, rfl⟩ := hBk.addr (by intro e; have := HL.out; rw [e] at this; simp at this)
    have hlow : ∀ b, fblk (some ⟨g, o, none⟩) hs b → b < w1.heap.size := fun b hb => by
      have h4 := HL.out
      have hs1 := hb1.size
      rcases hb with hb | ⟨i, x, hx, hb⟩
      · rw [blk_some] at hb
        subst hb
        obtain ⟨B, hB⟩ := get_some (l := f) (k := 0) (by omega)
        obtain ⟨_, _, c0, _⟩ := hBk.at_ hB
        have := lt_of_cell c0
        omega
      · obtain ⟨B, hB⟩ := get_some (l := f) (k := i) (by rw [← hBk.len]; exact (List.getElem?_eq_some_iff.1 hx).1)
        have hr := (hBk.pg i B x hB hx).1
        have hB4 := HSH.out B (List.mem_of_getElem? hB)
        obtain ⟨b', o', he, hc⟩ := hr (pgs_ne (by intro e; rw [e] at hB4; simp at hB4))
        rw [he, blk_some] at hb
        subst hb
        obtain ⟨q, hq⟩ := get_some (l := pgs B.pages) (k := 0) (by rw [pgs_len]; omega)
        have := lt_of_cell (hc 0 q hq).1
        omega
    have hcall := impl_spansOf f hs g o c _ HL.out HSH.out (hBk.below hb1 (Nat.le_refl _)) hlow
    rw [← HL.out] at hcall
    go_wp2_with fail
    refine hcall.mono ?_
    clear hcall
    rw [HL.out]
    rintro e w2 ⟨sb, rfl, hsb, hR, hb2⟩
    generalize spOf (allFrom 0 f) = ss at *
    have HLN := Lib.hid hln
    have hB2 := hb1.trans (hb2.mono hb1.size)
    clear hln hb2 hlow hBk
    go_wp2
    go_loopw [3, 14] (fun q i wr => ∃ k m : Nat, k ≤ 4 ∧ m < 4 ∧ i = .int .i64 k ∧ q = .int .i64 m ∧ Below w2.heap.size w2 wr ∧ Hid (hiGo ss 0 0 ss = hiGo ss k m (ss.drop k))) (fun _ i _ => 4 - (intOf i).toNat)
    case atStart => exact ⟨0, 0, by omega, by omega, rfl, rfl, Below.refl _ _, rfl⟩
    case round =>
      obtain ⟨k, m, hk, hm, rfl, rfl, hB, hT⟩ := hrel
      have hRk := hR.below hB (Nat.le_refl _)
      by_cases hlt : k < 4
      · obtain ⟨s, hsk⟩ := get_some (l := ss) (k := k) (by rw [HLN.out]; exact hlt)
        obtain ⟨sm, hsm⟩ := get_some (l := ss) (k := m) (by rw [HLN.out]; exact hm)
        obtain ⟨a0, a1, _, _⟩ := hRk.span hsk
        obtain ⟨_, m1, _, _⟩ := hRk.span hsm
        have hgm : ss.getD m (0, 0) = sm := by rw [List.getD_eq_getElem?_getD, hsm]; rfl
        have hT2 : Hid (hiGo ss 0 0 ss = if s.2 < sm.2 then hiGo ss (k + 1) k (ss.drop (k + 1)) else hiGo ss (k + 1) m (ss.drop (k + 1))) := by rw [Hid, hT.out, drop_cons hsk, hiGo, hgm]
        have hk1 : (k : Int) < 4 := by omega
        have hm1 : (m : Int) < 4 := by omega
        have hBa := fun (o : Obj) => hB.alloc hB.size o
        have lb := lt_of_cell m1
        have y1 : (wr.alloc (.cells #[.int .i64 s.1, .int .i64 s.2] 144)).cell? ⟨sb, m * 2 + 1, none⟩ = some (.int .i64 sm.2) := (((Below.refl wr.heap.size wr).alloc (Nat.le_refl _) _).cell (p := ⟨sb, m * 2 + 1, none⟩) lb).trans m1
        clear hsk hsm hgm hT hRk
        by_cases hh : s.2 < sm.2
        · have h3 : Hid (hiGo ss 0 0 ss = hiGo ss (k + 1) k (ss.drop (k + 1))) := by rw [Hid, hT2.out, if_pos hh]
          go_wp2
          go_quiet (fail)
          have hBq : Below w2.heap.size w2 ((wr.alloc (.cells #[.int .i64 s.1, .int .i64 s.2] 144)).drewN nq) := (hBa _).trans ⟨rfl, rfl, rfl, Nat.le_refl _, fun _ _ => rfl⟩
          go_wp2
          go_roundw
          (case rel => exact ⟨k + 1, k, by omega, by omega, by go_num, rfl, hBq, h3⟩)
          (case measure => simp [intOf]; omega)
        · have h3 : Hid (hiGo ss 0 0 ss = hiGo ss (k + 1) m (ss.drop (k + 1))) := by rw [Hid, hT2.out, if_neg hh]
          go_wp2
          go_quiet (fail)
          have hBq : Below w2.heap.size w2 ((wr.alloc (.cells #[.int .i64 s.1, .int .i64 s.2] 144)).drewN nq) := (hBa _).trans ⟨rfl, rfl, rfl, Nat.le_refl _, fun _ _ => rfl⟩
          go_wp2
          go_roundw
          (case rel => exact ⟨k + 1, m, by omega, by omega, by go_num, rfl, hBq, h3⟩)
          (case measure => simp [intOf]; omega)
      · obtain rfl : k = 4 := by omega
        have h3 : Hid (hiGo ss 0 0 ss = m) := by rw [Hid, hT.out, List.drop_of_length_le (by rw [HLN.out]; omega)]; rfl
        go_wp2
        go_ret
        exact ⟨ret_int (by rw [hfin.out, h3.out]), hB2.trans (hB.mono hB2.size)⟩
  · have hok' : flashOk f = false := by simpa using hok
    have hfin : Hid (findOld f = -1) := by unfold Hid findOld; rw [if_neg hok]
    rw [hok']
    go_wp2
    go_ret
    exact ⟨ret_int (by rw [hfin.out]), hb1⟩
end Go.Proofs.Ytbekihiiildgmaa
namespace Go.Proofs.Ytbekihiiildgmaa
set_option linter.unusedVariables false
set_option linter.unusedSimpArgs false
open Go.RowKit Go.Maps
set_option maxHeartbeats 400000
set_option maxHeartbeats 8000000 in
set_option maxRecDepth 100000 in
theorem impl_FindOrder (f : List Bk) (A : Option Addr) (n c : Nat) (w : World) (hn : n = f.length) (hF : Fl w A f) :
    Calls Try.prog 68 #[.slice A n c] w fun e w' => e = .returned (.bool (findOrderI f)) ∧ Below w.heap.size w w' := by
  subst hn
  go_enter Try.func68, Try.ntmps68
  go_wp2_with fail
  refine (impl_FlashOk f A c _ hF).mono ?_
  rintro e w1 ⟨rfl, hb1⟩
  by_cases hok : flashOk f = true
  · have HSH := Lib.hid (fun b hb => (flashOk_shape hok b hb).1)
    have HL := Lib.hid (flashOk_len hok)
    have hfin : Hid (findOrderI f = ordI (spOf (allFrom 0 f)) f) := by unfold Hid findOrderI; rw [if_pos hok]
    have hln := spOf_len (allFrom 0 f)
    rw [hok]
    clear hok
    obtain ⟨hs, hBk⟩ := hF
    obtain ⟨g, o, rfl⟩ := hBk.addr (by intro e; have := HL.out; rw [e] at this; simp at this)
    have hlow : ∀ b, fblk (some ⟨g, o, none⟩) hs b → b < w1.heap.size := fun b hb => by
      have h4 := HL.out
      have hs1 := hb1.size
      rcases hb with hb | ⟨i, x, hx, hb⟩
      · rw [blk_some] at hb
        subst hb
        obtain ⟨B, hB⟩ := get_some (l := f) (k := 0) (by omega)
        obtain ⟨_, _, c0, _⟩ := hBk.at_ hB
        have := lt_of_cell c0
        omega
      · obtain ⟨B, hB⟩ := get_some (l := f) (k := i) (by rw [← hBk.len]; exact (List.getElem?_eq_some_iff.1 hx).1)
        have hr := (hBk.pg i B x hB hx).1
        have hB4 := HSH.out B (List.mem_of_getElem? hB)
        obtain ⟨b', o', he, hc⟩ := hr (pgs_ne (by intro e; rw [e] at hB4; simp at hB4))
        rw [he, blk_some] at hb
        subst hb
        obtain ⟨q, hq⟩ := get_some (l := pgs B.pages) (k := 0) (by rw [pgs_len]; omega)
        have := lt_of_cell (hc 0 q hq).1
        omega
    have hcall := impl_spansOf f hs g o c _ HL.out HSH.out (hBk.below hb1 (Nat.le_refl _)) hlow
    rw [← HL.out] at hcall
    go_wp2_with fail
    refine hcall.mono ?_
    clear hcall
    rw [HL.out]
    rintro e w2 ⟨sb, rfl, hsb, hR, hb2⟩
    generalize spOf (allFrom 0 f) = ss at *
    have HLN := Lib.hid hln
    have hB2 := hb1.trans (hb2.mono hb1.size)
    have hBk2 := hBk.below hB2 (Nat.le_refl _)
    have hs2 := hb2.size
    clear hln hb2 hlow hBk
    go_wp2
    go_loopw [4, 19] (fun q i wr => ∃ (k : Nat) (m : Int), k ≤ 4 ∧ i = .int .i64 k ∧ q = .int .i64 m ∧ Below w2.heap.size w2 wr ∧ Hid (ordGo ss 0 0 ss = ordGo ss k m (ss.drop k))) (fun _ i _ => 4 - (intOf i).toNat)
    case atStart => exact ⟨0, 0, by omega, rfl, rfl, Below.refl _ _, rfl⟩
    case round =>
      obtain ⟨k, m, hk, rfl, rfl, hB, hT⟩ := hrel
      by_cases hlt : k < 4
      · obtain ⟨s, hsk⟩ := get_some (l := ss) (k := k) (by rw [HLN.out]; exact hlt)
        have hRk := hR.below hB (Nat.le_refl _)
        obtain ⟨a0, a1, _, _⟩ := hRk.span hsk
        have hT2 : Hid (ordGo ss 0 0 ss = if (ss.take k).any (spClash s) = true then none else ordGo ss (k + 1) (max m s.2) (ss.drop (k + 1))) := by rw [Hid, hT.out, drop_cons hsk, ordGo]
        obtain ⟨wo, rfl⟩ : ∃ wo : World, wo = wr := ⟨_, rfl⟩
        have hk1 : (k : Int) < 4 := by omega
        have hk4 : (k : Int) ≤ 4 := by omega
        have hBa : Below w2.heap.size w2 (wo.alloc (.cells #[.int .i64 s.1, .int .i64 s.2] 144)) := hB.alloc hB.size _
        have hsz : (wo.alloc (.cells #[.int .i64 s.1, .int .i64 s.2] 144)).heap.size = wo.heap.size + 1 := by simp
        have p0 : (wo.alloc (.cells #[.int .i64 s.1, .int .i64 s.2] 144)).cell? ⟨wo.heap.size, 0, none⟩ = some (.int .i64 s.1) := by simp [go_sem]
        have p1 : (wo.alloc (.cells #[.int .i64 s.1, .int .i64 s.2] 144)).cell? ⟨wo.heap.size, 1, none⟩ = some (.int .i64 s.2) := by simp [go_sem]
        clear hsk hT hRk
        rcases Int.lt_or_le m s.2 with hmx | hmx
        case' inl => have hT3 : Hid (ordGo ss 0 0 ss = if (ss.take k).any (spClash s) = true then none else ordGo ss (k + 1) s.2 (ss.drop (k + 1))) := by rw [Hid, hT2.out, Int.max_eq_right (by omega)]
        case' inr => have hT3 : Hid (ordGo ss 0 0 ss = if (ss.take k).any (spClash s) = true then none else ordGo ss (k + 1) m (ss.drop (k + 1))) := by rw [Hid, hT2.out, Int.max_eq_left (by omega)]
        all_goals
          clear hT2
          go_wp2
          go_loopw [32] (fun i wl => ∃ j : Nat, j ≤ k ∧ i = .int .i64 j ∧ Below w2.heap.size w2 wl ∧ wo.heap.size < wl.heap.size ∧ wl.cell? ⟨wo.heap.size, 0, none⟩ = some (.int .i64 s.1) ∧ wl.cell? ⟨wo.heap.size, 1, none⟩ = some (.int .i64 s.2) ∧ Hid (∀ t ∈ ss.take j, spClash s t = false)) (fun i _ => k - (intOf i).toNat)
          case atStart => exact ⟨0, by omega, rfl, hBa, by omega, p0, p1, by rw [Hid]; simp⟩
          case round =>
            obtain ⟨j, hj, rfl, hBl, hlt2, q0, q1, hU⟩ := hrel
            by_cases hjk : j < k
            · obtain ⟨t, htj⟩ := get_some (l := ss) (k := j) (by rw [HLN.out]; omega)
              obtain ⟨b0, b1, _, _⟩ := (hR.below hBl (Nat.le_refl _)).span htj
              have hjk1 : (j : Int) < k := by omega
              have hBb := hBl.alloc hBl.size (.cells #[.int .i64 t.1, .int .i64 t.2] 144)
              have r0 : (wr.alloc (.cells #[.int .i64 t.1, .int .i64 t.2] 144)).cell? ⟨wo.heap.size, 0, none⟩ = some (.int .i64 s.1) := (((Below.refl wr.heap.size wr).alloc (Nat.le_refl _) _).cell (p := ⟨wo.heap.size, 0, none⟩) hlt2).trans q0
              have r1 : (wr.alloc (.cells #[.int .i64 t.1, .int .i64 t.2] 144)).cell? ⟨wo.heap.size, 1, none⟩ = some (.int .i64 s.2) := (((Below.refl wr.heap.size wr).alloc (Nat.le_refl _) _).cell (p := ⟨wo.heap.size, 1, none⟩) hlt2).trans q1
              have hgt : wo.heap.size < (wr.alloc (.cells #[.int .i64 t.1, .int .i64 t.2] 144)).heap.size := by simp; omega
              have hcl : spClash s t = false → Hid (∀ t ∈ ss.take (j + 1), spClash s t = false) := fun hc t' ht' => by
                rw [List.take_add_one, htj] at ht'
                rcases List.mem_append.1 ht' with h | h
                · exact hU.out t' h
                · simp at h; rw [h]; exact hc
              have HCL := Lib.hid hcl
              have hhit : spClash s t = true → Hid (ordGo ss 0 0 ss = none) := fun hc => by
                rw [Hid, hT3.out, if_pos]
                rw [List.any_eq_true]
                exact ⟨t, List.mem_iff_getElem?.2 ⟨j, by rw [List.getElem?_take, if_pos hjk]; exact htj⟩, hc⟩
              have HHIT := Lib.hid hhit
              clear hcl hhit htj hU p0 p1 q0 q1 hmx
              by_cases h1 : 0 < s.2
              · by_cases h2 : 0 < t.2
                · by_cases h3 : t.1 ≤ s.2
                  · by_cases h4 : s.1 ≤ t.2
                    · have hx := HHIT.out (by simp [spClash, h1, h2, h3, h4])
                      go_wp2
                      go_ret
                      exact ⟨ret_bool (by rw [hfin.out]; unfold ordI; rw [hx.out]), hB2.trans (hBb.mono hB2.size)⟩
                    · have hx := HCL.out (by simp [spClash, h4])
                      go_wp2
                      go_roundw
                      (case rel => exact ⟨j + 1, by omega, by go_num, hBb, hgt, r0, r1, hx⟩)
                      (case measure => simp [intOf]; omega)
                  · have hx := HCL.out (by simp [spClash, h3])
                    go_wp2
                    go_roundw
                    (case rel => exact ⟨j + 1, by omega, by go_num, hBb, hgt, r0, r1, hx⟩)
                    (case measure => simp [intOf]; omega)
                · have hx := HCL.out (by simp [spClash, h2])
                  go_wp2
                  go_roundw
                  (case rel => exact ⟨j + 1, by omega, by go_num, hBb, hgt, r0, r1, hx⟩)
                  (case measure => simp [intOf]; omega)
              · have hx := HCL.out (by simp [spClash, h1])
                go_wp2
                go_roundw
                (case rel => exact ⟨j + 1, by omega, by go_num, hBb, hgt, r0, r1, hx⟩)
                (case measure => simp [intOf]; omega)
            · obtain rfl : j = k := by omega
              have hx : (ss.take j).any (spClash s) = false := by
                rw [List.any_eq_false]
                exact fun t ht => by rw [hU.out t ht]; simp
              have hT4 := hT3.out
              rw [if_neg (by rw [hx]; simp)] at hT4
              replace hT4 := Lib.hid hT4
              clear hx hT3
              go_wp2
              go_roundw
              (case rel => exact ⟨j + 1, _, by omega, by go_num, rfl, hBl, hT4⟩)
              (case measure => simp [intOf]; omega)
      · have hk4 : (4 : Int) ≤ (k : Int) := by omega
        have h3 : Hid (ordGo ss 0 0 ss = some m) := by rw [Hid, hT.out, List.drop_of_length_le (by rw [HLN.out]; omega)]; rfl
        have hfin2 : Hid (findOrderI f = partOrd ss m 0 0 f) := by rw [Hid, hfin.out, ordI, h3.out]
        clear hT h3
        have hf4 := HL.out
        have hBz := hB
        obtain ⟨wo, rfl⟩ : ∃ wo : World, wo = wr := ⟨_, rfl⟩
        go_wp2
        go_loopw [9, 62] (fun q i wl => ∃ k c : Nat, k ≤ 4 ∧ c ≤ k ∧ i = .int .i64 k ∧ q = .int .i64 c ∧ Below w2.heap.size w2 wl ∧ Hid (partOrd ss m 0 0 f = partOrd ss m k c (f.drop k))) (fun _ i _ => 4 - (intOf i).toNat)
        case atStart => exact ⟨0, 0, by omega, by omega, rfl, rfl, hBz, rfl⟩
        case round =>
          obtain ⟨k, n, hk, hn, rfl, rfl, hB, hT⟩ := hrel
          by_cases hlt : k < 4
          · obtain ⟨B, hb⟩ := get_some (l := f) (k := k) (by omega)
            obtain ⟨s, hsk⟩ := get_some (l := ss) (k := k) (by rw [HLN.out]; exact hlt)
            have hgs : ss.getD k (0, 0) = s := by rw [List.getD_eq_getElem?_getD, hsk]; rfl
            obtain ⟨⟨Z, cz⟩, _, c0, c1, _, _, hRz, _⟩ := (hBk2.below hB (Nat.le_refl _)).at_ hb
            dsimp only at c0 hRz
            have hpl : B.pages.length < 1000000000000 := by rw [HSH.out B (List.mem_of_getElem? hb)]; omega
            have hk1 : (k : Int) < 4 := by omega
            have hT2 : Hid (partOrd ss m 0 0 f = if partly B = true then (if 0 < s.2 ∧ s.2 < m then false else partOrd ss m (k + 1) (n + 1) (f.drop (k + 1))) else partOrd ss m (k + 1) n (f.drop (k + 1))) := by rw [Hid, hT.out, drop_cons hb, partOrd, hgs]
            have hRa := hRz.alloc (.cells #[.slice Z B.pages.length cz, .int .i64 B.worn] 137)
            have hBa : Below w2.heap.size w2 (wr.alloc (.cells #[.slice Z B.pages.length cz, .int .i64 B.worn] 137)) := hB.alloc hB.size _
            have hsz : (wr.alloc (.cells #[.slice Z B.pages.length cz, .int .i64 B.worn] 137)).heap.size = wr.heap.size + 1 := by simp
            clear hb hT hgs hRz
            go_wp2_with fail
            refine (impl_partlyUsed B Z _ cz _ rfl hpl hRa).mono ?_
            rintro e w3 ⟨rfl, hb3⟩
            have hB3 := hBa.trans (hb3.mono (by have := hB.size; omega))
            obtain ⟨_, a1, _, _⟩ := (hR.below hB3 (Nat.le_refl _)).span hsk
            clear hsk hb3 hBa hRa
            by_cases hpt : partly B = true
            · have hT3 := hT2.out
              rw [if_pos hpt] at hT3
              replace hT3 := Lib.hid hT3
              rw [hpt]
              clear hpt hT2
              by_cases h1 : 0 < s.2
              · by_cases h2 : s.2 < m
                · have hx := hT3.out
                  rw [if_pos ⟨h1, h2⟩] at hx
                  replace hx := Lib.hid hx
                  clear hT3
                  go_wp2
                  go_ret
                  exact ⟨ret_bool (by rw [hfin2.out, hx.out]), hB2.trans (hB3.mono hB2.size)⟩
                · have hx := hT3.out
                  rw [if_neg (fun h => h2 h.2)] at hx
                  replace hx := Lib.hid hx
                  clear hT3
                  go_wp2
                  go_roundw
                  (case rel => exact ⟨k + 1, n + 1, by omega, by omega, by go_num, by go_num, hB3, hx⟩)
                  (case measure => simp [intOf]; omega)
              · have hx := hT3.out
                rw [if_neg (fun h => h1 h.1)] at hx
                replace hx := Lib.hid hx
                clear hT3
                go_wp2
                go_roundw
                (case rel => exact ⟨k + 1, n + 1, by omega, by omega, by go_num, by go_num, hB3, hx⟩)
                (case measure => simp [intOf]; omega)
            · have hx := hT2.out
              rw [if_neg hpt] at hx
              replace hx := Lib.hid hx
              rw [show partly B = false from by simpa using hpt]
              clear hT2 hpt
              go_wp2
              go_roundw
              (case rel => exact ⟨k + 1, n, by omega, by omega, by go_num, rfl, hB3, hx⟩)
              (case measure => simp [intOf]; omega)
          · obtain rfl : k = 4 := by omega
            have hx : Hid (partOrd ss m 0 0 f = decide (n ≤ 1)) := by rw [Hid, hT.out, List.drop_of_length_le (by omega)]; rfl
            have hz : decide ((n : Int) ≤ 1) = decide (n ≤ 1) := by rw [decide_eq_decide]; omega
            replace hz := Lib.hid hz
            clear hT
            go_wp2
            go_ret
            exact ⟨ret_bool (by rw [hfin2.out, hx.out]; exact hz.out), hB2.trans (hB.mono hB2.size)⟩
  · have hok' : flashOk f = false := by simpa using hok
    have hfin : Hid (findOrderI f = false) := by unfold Hid findOrderI; rw [if_neg hok]
    rw [hok']
    go_wp2
    go_ret
    exact ⟨ret_bool (by rw [hfin.out]), hb1⟩
end Go.Proofs.Ytbekihiiildgmaa
namespace Go.Proofs.Ytbekihiiildgmaa
set_option linter.unusedVariables false
set_option linter.unusedSimpArgs false
open Go.RowKit Go.Maps
set_option maxHeartbeats 400000
theorem partGo_some : ∀ {r : List Bk} {i j : Nat}, partGo i r = some j → ∃ m b, j = i + m ∧ r[m]? = some b ∧ partly b = true
  | [], _, _, h => by simp [partGo] at h
  | b :: r, i, j, h => by
    unfold partGo at h
    split at h
    · rename_i hp
      cases h
      exact ⟨0, b, rfl, rfl, hp⟩
    · obtain ⟨m, c, h1, h2, h3⟩ := partGo_some h
      exact ⟨m + 1, c, by omega, by simpa using h2, h3⟩
theorem partGo_none : ∀ {r : List Bk} {i : Nat}, partGo i r = none → ∀ b ∈ r, partly b = false
  | [], _, _ => by simp
  | b :: r, i, h => by
    unfold partGo at h
    split at h
    · cases h
    · rename_i hp
      intro c hc
      rcases List.mem_cons.1 hc with rfl | hc
      · simpa using hp
      · exact partGo_none h c hc
theorem best_true {f : List Bk} : ∀ {r : List Bk} {i best j : Nat} {fd : Bool}, bestGo f i best fd r = (j, true) → (fd = true ∧ j = best) ∨ ∃ m b, j = i + m ∧ r[m]? = some b ∧ clean b = 4
  | [], _, _, _, _, h => by
    unfold bestGo at h
    cases h
    exact .inl ⟨rfl, rfl⟩
  | b :: r, i, best, j, fd, h => by
    unfold bestGo at h
    split at h
    · rename_i hc
      rcases best_true h with ⟨_, rfl⟩ | ⟨m, c, h1, h2, h3⟩
      · exact .inr ⟨0, b, rfl, rfl, hc.1⟩
      · exact .inr ⟨m + 1, c, by omega, by simpa using h2, h3⟩
    · rcases best_true h with h | ⟨m, c, h1, h2, h3⟩
      · exact .inl h
      · exact .inr ⟨m + 1, c, by omega, by simpa using h2, h3⟩
theorem best_false {f : List Bk} : ∀ {r : List Bk} {i best j : Nat} {fd : Bool}, bestGo f i best fd r = (j, false) → fd = false ∧ ∀ b ∈ r, clean b ≠ 4
  | [], _, _, _, _, h => by
    unfold bestGo at h
    cases h
    exact ⟨rfl, by simp⟩
  | b :: r, i, best, j, fd, h => by
    unfold bestGo at h
    split at h
    · exact absurd (best_false h).1 (by simp)
    · rename_i hc
      obtain ⟨h1, h2⟩ := best_false h
      refine ⟨h1, fun c hcm => ?_⟩
      rcases List.mem_cons.1 hcm with rfl | hcm
      · exact fun h4 => hc ⟨h4, .inl h1⟩
      · exact h2 c hcm
theorem part_pos {b : Bk} (h : partly b = true) : 0 < clean b := by unfold partly at h; simp at h; exact h.1
theorem open_true {f : List Bk} (h : (openI f).2 = true) : ∃ (m : Nat) (b : Bk), (openI f).1 = (m : Int) ∧ f[m]? = some b ∧ 0 < clean b := by
  unfold openI at h ⊢
  cases hp : partGo 0 f with
  | some j =>
    obtain ⟨m, b, h1, h2, h3⟩ := partGo_some hp
    have : j = m := by omega
    subst this
    exact ⟨j, b, rfl, h2, part_pos h3⟩
  | none =>
    rw [hp] at h
    dsimp only at h ⊢
    have he : bestGo f 0 0 false f = ((bestGo f 0 0 false f).1, true) := by rw [← h]
    rcases best_true he with ⟨hc, _⟩ | ⟨m, b, h1, h2, h3⟩
    · cases hc
    · have : (bestGo f 0 0 false f).1 = m := by omega
      rw [this]
      exact ⟨m, b, rfl, h2, by omega⟩
theorem open_false {f : List Bk} (hp4 : ∀ b ∈ f, b.pages.length = 4) (h : (openI f).2 = false) : ∀ b ∈ f, clean b = 0 := by
  unfold openI at h
  cases hp : partGo 0 f with
  | some j => rw [hp] at h; cases h
  | none =>
    rw [hp] at h
    dsimp only at h
    have he : bestGo f 0 0 false f = ((bestGo f 0 0 false f).1, false) := Prod.ext rfl h
    have h1 := (best_false he).2
    intro b hb
    have h2 := partGo_none hp b hb
    have h3 := clean_le4 (hp4 b hb)
    have h4 := h1 b hb
    unfold partly at h2
    simp at h2
    omega
theorem clean_new (n : Int) : clean ⟨List.replicate 4 pg0, n⟩ = 4 := by
  show (List.replicate 4 pg0).countP isClean = 4
  decide
end Go.Proofs.Ytbekihiiildgmaa
namespace Go.Proofs.Ytbekihiiildgmaa
set_option linter.unusedVariables false
set_option linter.unusedSimpArgs false
def spn (b : Bk) : Span := (least b, most b)
theorem set_self {α : Type} {d : α} : ∀ {l : List α} {i : Nat}, i < l.length → l.set i (l.getD i d) = l
  | [], i, h => by simp at h
  | a :: l, 0, _ => by simp
  | a :: l, i + 1, h => by
    rw [List.set_cons_succ]
    have := set_self (d := d) (l := l) (i := i) (by simpa using h)
    simpa using this
theorem tag_sp : ∀ (ps : List Pg) (j i : Nat) (ss : List Span), i < ss.length → (∀ p ∈ ps, pageOk p = true) → 0 ≤ (ss.getD i (0, 0)).2 →
    (tagFrom i j ps).foldl spStep ss = ss.set i (ps.foldl leastStep (ss.getD i (0, 0)).1, mostPs (ss.getD i (0, 0)).2 ps)
  | [], j, i, ss, hi, _, _ => by
    show ss = ss.set i ((ss.getD i (0, 0)).1, (ss.getD i (0, 0)).2)
    exact (set_self hi).symm
  | p :: ps, j, i, ss, hi, hp, h => by
    have ho := hp p (List.mem_cons_self ..)
    have hps := fun q hq => hp q (List.mem_cons_of_mem _ hq)
    rw [tagFrom, List.foldl_cons]
    by_cases h1 : p.state = 1
    · have hr := recOk_addr (rec_of_written ho h1)
      have e1 : spStep ss (i, j, p) = ss.set i (leastStep (ss.getD i (0, 0)).1 p, max (ss.getD i (0, 0)).2 p.rc.seq) := by
        unfold spStep
        dsimp only
        rw [if_pos h1]
        congr 2
        unfold lowOf leastStep
        split
        · rename_i hc; rw [if_pos ⟨by omega, hc⟩]
        · rename_i hc; rw [if_neg (fun e => hc e.2)]
      have hg : (ss.set i (leastStep (ss.getD i (0, 0)).1 p, max (ss.getD i (0, 0)).2 p.rc.seq)).getD i (0, 0) = (leastStep (ss.getD i (0, 0)).1 p, max (ss.getD i (0, 0)).2 p.rc.seq) := by
        rw [List.getD_eq_getElem?_getD, List.getElem?_set_self hi]; rfl
      rw [e1, tag_sp ps (j + 1) i _ (by rw [List.length_set]; exact hi) hps (by rw [hg]; dsimp only; omega), hg, List.set_set]
      rfl
    · have h0 := clean_seq ho h1
      have e1 : spStep ss (i, j, p) = ss := by unfold spStep; dsimp only; rw [if_neg h1]
      have e2 : leastStep (ss.getD i (0, 0)).1 p = (ss.getD i (0, 0)).1 := by unfold leastStep; rw [if_neg (by rintro ⟨h, _⟩; omega)]
      have e3 : mostPs (ss.getD i (0, 0)).2 (p :: ps) = mostPs (ss.getD i (0, 0)).2 ps := by
        show mostPs (max (ss.getD i (0, 0)).2 p.rc.seq) ps = _
        rw [show max (ss.getD i (0, 0)).2 p.rc.seq = (ss.getD i (0, 0)).2 by omega]
      rw [e1, tag_sp ps (j + 1) i ss hi hps h, List.foldl_cons, e2, e3]
theorem all_sp : ∀ (f : List Bk) (pre : List Span), (∀ b ∈ f, ∀ p ∈ b.pages, pageOk p = true) → (allFrom pre.length f).foldl spStep (pre ++ List.replicate f.length (0, 0)) = pre ++ f.map spn
  | [], pre, _ => rfl
  | b :: f, pre, hp => by
    have hg : (pre ++ List.replicate (f.length + 1) ((0, 0) : Span)).getD pre.length (0, 0) = (0, 0) := by
      rw [List.getD_eq_getElem?_getD, List.getElem?_append_right (Nat.le_refl _)]; simp
    rw [allFrom, List.foldl_append, List.length_cons, tag_sp b.pages 0 pre.length _ (by simp) (hp b (List.mem_cons_self ..)) (by rw [hg]; exact Int.le_refl _), hg]
    have e1 : (pre ++ List.replicate (f.length + 1) ((0, 0) : Span)).set pre.length (b.pages.foldl leastStep 0, mostPs 0 b.pages) = (pre ++ [spn b]) ++ List.replicate f.length (0, 0) := by
      rw [List.set_append_right _ _ (Nat.le_refl _), Nat.sub_self, List.replicate_succ, List.set_cons_zero]
      simp [spn, least, most]
    have e2 : (pre ++ [spn b]).length = pre.length + 1 := by simp
    have ih := all_sp f (pre ++ [spn b]) (fun c hc => hp c (List.mem_cons_of_mem _ hc))
    rw [e2] at ih
    dsimp only
    rw [e1, ih]
    simp
theorem spOf_eq {f : List Bk} (h : flashOk f = true) : spOf (allFrom 0 f) = f.map spn := by
  have := all_sp f [] (fun b hb => (bk_parts h hb).2.2.2)
  rw [flashOk_len h] at this
  exact this
theorem ordGo_some {ss : List Span} : ∀ (r : List Span) (i : Nat) (n m : Int), ordGo ss i n r = some m ↔ (∀ (k : Nat) (a : Span), r[k]? = some a → ∀ (j : Nat) (b : Span), j < i + k → ss[j]? = some b → spClash a b = false) ∧ m = r.foldl (fun n a => max n a.2) n
  | [], i, n, m => by
    unfold ordGo
    constructor
    · intro h; cases h; exact ⟨fun k a hk => by simp at hk, rfl⟩
    · rintro ⟨_, rfl⟩; rfl
  | a :: r, i, n, m => by
    unfold ordGo
    have ht : (ss.take i).any (spClash a) = true ↔ ∃ (j : Nat) (b : Span), j < i ∧ ss[j]? = some b ∧ spClash a b = true := by
      rw [List.any_eq_true]
      constructor
      · rintro ⟨b, hb, h⟩
        obtain ⟨j, hj⟩ := List.mem_iff_getElem?.1 hb
        rw [List.getElem?_take] at hj
        split at hj
        · rename_i hlt; exact ⟨j, b, hlt, hj, h⟩
        · cases hj
      · rintro ⟨j, b, hj, hb, h⟩
        exact ⟨b, List.mem_iff_getElem?.2 ⟨j, by rw [List.getElem?_take, if_pos hj]; exact hb⟩, h⟩
    by_cases hc : (ss.take i).any (spClash a) = true
    · rw [if_pos hc]
      obtain ⟨j, b, hj, hb, h⟩ := ht.1 hc
      constructor
      · intro h; cases h
      · rintro ⟨h1, _⟩
        have := h1 0 a rfl j b (by omega) hb
        rw [h] at this; cases this
    · rw [if_neg hc, ordGo_some r (i + 1) _ m, List.foldl_cons]
      constructor
      · rintro ⟨h1, h2⟩
        refine ⟨fun k x hk j b hj hb => ?_, h2⟩
        cases k with
        | zero =>
          rw [List.getElem?_cons_zero, Option.some.injEq] at hk
          subst hk
          by_cases hx : spClash a b = true
          · exact absurd (ht.2 ⟨j, b, by omega, hb, hx⟩) hc
          · simpa using hx
        | succ k => exact h1 k x (by simpa using hk) j b (by omega) hb
      · rintro ⟨h1, h2⟩
        exact ⟨fun k x hk j b hj hb => h1 (k + 1) x (by simpa using hk) j b (by omega) hb, h2⟩
theorem partOrd_iff {ss : List Span} {n : Int} : ∀ (r : List Bk) (i c : Nat), partOrd ss n i c r = true ↔ (∀ (k : Nat) (b : Bk), r[k]? = some b → partly b = true → ¬ (0 < (ss.getD (i + k) (0, 0)).2 ∧ (ss.getD (i + k) (0, 0)).2 < n)) ∧ c + r.countP partly ≤ 1
  | [], i, c => by unfold partOrd; simp
  | b :: r, i, c => by
    unfold partOrd
    rw [List.countP_cons]
    by_cases hb : partly b = true
    · rw [if_pos hb, if_pos hb]
      by_cases hx : 0 < (ss.getD i (0, 0)).2 ∧ (ss.getD i (0, 0)).2 < n
      · rw [if_pos hx]
        constructor
        · intro h; cases h
        · rintro ⟨h1, _⟩; exact absurd hx (h1 0 b rfl hb)
      · rw [if_neg hx, partOrd_iff r (i + 1) (c + 1)]
        constructor
        · rintro ⟨h1, h2⟩
          refine ⟨fun k x hk hp => ?_, by omega⟩
          cases k with
          | zero => exact hx
          | succ k => have := h1 k x (by simpa using hk) hp; rwa [show i + 1 + k = i + (k + 1) by omega] at this
        · rintro ⟨h1, h2⟩
          exact ⟨fun k x hk hp => by have := h1 (k + 1) x (by simpa using hk) hp; rwa [show i + (k + 1) = i + 1 + k by omega] at this, by omega⟩
    · rw [if_neg hb, if_neg hb, partOrd_iff r (i + 1) c]
      constructor
      · rintro ⟨h1, h2⟩
        refine ⟨fun k x hk hp => ?_, by omega⟩
        cases k with
        | zero => rw [List.getElem?_cons_zero, Option.some.injEq] at hk; subst hk; exact absurd hp hb
        | succ k => have := h1 k x (by simpa using hk) hp; rwa [show i + 1 + k = i + (k + 1) by omega] at this
      · rintro ⟨h1, h2⟩
        exact ⟨fun k x hk hp => by have := h1 (k + 1) x (by simpa using hk) hp; rwa [show i + (k + 1) = i + 1 + k by omega] at this, by omega⟩
theorem count_one {α : Type} {p : α → Bool} : ∀ (l : List α), l.countP p ≤ 1 ↔ ∀ (i j : Nat) (a b : α), i ≠ j → l[i]? = some a → l[j]? = some b → p a = true → p b = false
  | [] => by simp
  | x :: l => by
    rw [List.countP_cons]
    by_cases hx : p x = true
    · rw [if_pos hx]
      constructor
      · intro h i j a b hij ha hb hp
        have h0 : l.countP p = 0 := by omega
        rw [List.countP_eq_zero] at h0
        cases j with
        | zero =>
          cases i with
          | zero => exact absurd rfl hij
          | succ i => exact absurd hp (h0 a (List.mem_of_getElem? (by simpa using ha)))
        | succ j => simpa using h0 b (List.mem_of_getElem? (by simpa using hb))
      · intro h
        have h0 : l.countP p = 0 := by
          rw [List.countP_eq_zero]
          intro a ha
          obtain ⟨j, hj⟩ := List.mem_iff_getElem?.1 ha
          have := h 0 (j + 1) x a (by omega) rfl (by simpa using hj) hx
          rw [this]; simp
        omega
    · rw [if_neg hx, Nat.add_zero, count_one l]
      constructor
      · intro h i j a b hij ha hb hp
        cases i with
        | zero => rw [List.getElem?_cons_zero, Option.some.injEq] at ha; subst ha; exact absurd hp hx
        | succ i =>
          cases j with
          | zero => rw [List.getElem?_cons_zero, Option.some.injEq] at hb; subst hb; simpa using hx
          | succ j => exact h i j a b (by omega) (by simpa using ha) (by simpa using hb) hp
      · intro h i j a b hij ha hb hp
        exact h (i + 1) (j + 1) a b (by omega) (by simpa using ha) (by simpa using hb) hp
/-- the blocks were written one behind the other -/
structure Ord (f : List Bk) : Prop where
  apart : ∀ (i j : Nat) (a b : Bk), i ≠ j → f[i]? = some a → f[j]? = some b → 0 < most a → 0 < most b → ¬ (least a < most b ∧ least b < most a)
  begun : ∀ (i j : Nat) (a b : Bk), i ≠ j → f[i]? = some a → f[j]? = some b → partly a = true → partly b = false ∧ (0 < most a → most b ≤ most a)
theorem topSeq_le {M : Int} : ∀ {f : List Bk} {n : Int}, n ≤ M → (∀ b ∈ f, most b ≤ M) → f.foldl (fun n b => max n (most b)) n ≤ M
  | [], _, h, _ => h
  | b :: f, n, h, hb => by
    rw [List.foldl_cons]
    exact topSeq_le (by have := hb b (List.mem_cons_self ..); omega) (fun c hc => hb c (List.mem_cons_of_mem _ hc))
theorem le_topSeq0 : ∀ {f : List Bk} {n : Int}, n ≤ f.foldl (fun n b => max n (most b)) n
  | [], n => Int.le_refl n
  | b :: f, n => by
    rw [List.foldl_cons]
    have := le_topSeq0 (f := f) (n := max n (most b))
    omega
theorem le_topSeq {b : Bk} : ∀ {f : List Bk} {n : Int}, b ∈ f → most b ≤ f.foldl (fun n b => max n (most b)) n
  | a :: f, n, h => by
    rw [List.foldl_cons]
    rcases List.mem_cons.1 h with rfl | h
    · have := le_topSeq0 (f := f) (n := max n (most b))
      omega
    · exact le_topSeq h
theorem clash_iff {f : List Bk} (h : flashOk f = true) {i j : Nat} {a b : Bk} (hij : i ≠ j) (ha : f[i]? = some a) (hb : f[j]? = some b) : spClash (spn a) (spn b) = false ↔ ¬ (0 < most a ∧ 0 < most b ∧ least a < most b ∧ least b < most a) := by
  have pa := (bk_parts h (List.mem_of_getElem? ha)).2.2.2
  have pb := (bk_parts h (List.mem_of_getElem? hb)).2.2.2
  have hn := ((flashOk_iff f).1 h).2.2
  have key : spClash (spn a) (spn b) = true ↔ (0 < most a ∧ 0 < most b ∧ least a < most b ∧ least b < most a) := by
    unfold spClash spn
    simp only [Bool.and_eq_true, decide_eq_true_iff]
    constructor
    · rintro ⟨h1, h2, h3, h4⟩
      have e1 : least b ≠ most a := fun e => seqs_apart hn hij ha hb (most_mem pa h1) (e ▸ least_mem pb h2)
      have e2 : least a ≠ most b := fun e => seqs_apart hn hij ha hb (least_mem pa h1) (e ▸ most_mem pb h2)
      exact ⟨h1, h2, by omega, by omega⟩
    · rintro ⟨h1, h2, h3, h4⟩
      exact ⟨h1, h2, by omega, by omega⟩
  rw [← key]
  cases spClash (spn a) (spn b) <;> simp
theorem findOrderI_iff {f : List Bk} (h : flashOk f = true) : findOrderI f = true ↔ Ord f := by
  have hge : ∀ k b, f[k]? = some b → ((f.map spn).getD k (0, 0)).2 = most b := fun k b hb => by rw [List.getD_eq_getElem?_getD, List.getElem?_map, hb]; rfl
  have htop : ∀ n : Int, (f.map spn).foldl (fun n a => max n a.2) n = f.foldl (fun n b => max n (most b)) n := fun n => by rw [List.foldl_map]; rfl
  have hord : ∀ m : Int, ordGo (f.map spn) 0 0 (f.map spn) = some m ↔ (∀ (i j : Nat) (a b : Bk), i ≠ j → f[i]? = some a → f[j]? = some b → 0 < most a → 0 < most b → ¬ (least a < most b ∧ least b < most a)) ∧ m = topSeq f := fun m => by
    rw [ordGo_some, htop]
    unfold topSeq
    constructor
    · rintro ⟨h1, h2⟩
      refine ⟨fun i j a b hij ha hb p1 p2 hc => ?_, h2⟩
      rcases Nat.lt_or_gt_of_ne hij with hlt | hlt
      · have := h1 j (spn b) (by rw [List.getElem?_map, hb]; rfl) i (spn a) (by omega) (by rw [List.getElem?_map, ha]; rfl)
        exact (clash_iff h (Ne.symm hij) hb ha).1 this ⟨p2, p1, hc.2, hc.1⟩
      · have := h1 i (spn a) (by rw [List.getElem?_map, ha]; rfl) j (spn b) (by omega) (by rw [List.getElem?_map, hb]; rfl)
        exact (clash_iff h hij ha hb).1 this ⟨p1, p2, hc.1, hc.2⟩
    · rintro ⟨h1, h2⟩
      refine ⟨fun k x hk j y hj hy => ?_, h2⟩
      rw [List.getElem?_map] at hk hy
      obtain ⟨a, ha, rfl⟩ := Option.map_eq_some_iff.1 hk
      obtain ⟨b, hb, rfl⟩ := Option.map_eq_some_iff.1 hy
      exact (clash_iff h (by omega) ha hb).2 (fun ⟨p1, p2, p3⟩ => h1 k j a b (by omega) ha hb p1 p2 p3)
  unfold findOrderI ordI
  rw [if_pos h, spOf_eq h]
  have hpart : partOrd (f.map spn) (topSeq f) 0 0 f = true ↔ ∀ (i j : Nat) (a b : Bk), i ≠ j → f[i]? = some a → f[j]? = some b → partly a = true → partly b = false ∧ (0 < most a → most b ≤ most a) := by
    rw [partOrd_iff, Nat.zero_add, count_one]
    constructor
    · rintro ⟨h1, h2⟩ i j a b hij ha hb hp
      refine ⟨h2 i j a b hij ha hb hp, fun h0 => ?_⟩
      have := h1 i a ha hp
      rw [Nat.zero_add, hge i a ha] at this
      have h3 : most b ≤ topSeq f := le_topSeq (List.mem_of_getElem? hb)
      omega
    · intro h1
      refine ⟨fun k a ha hp => ?_, fun i j a b hij ha hb hp => (h1 i j a b hij ha hb hp).1⟩
      rw [Nat.zero_add, hge k a ha]
      rintro ⟨h2, h3⟩
      have : topSeq f ≤ most a := topSeq_le (by omega) (fun b hb => by
        obtain ⟨j, hj⟩ := List.mem_iff_getElem?.1 hb
        by_cases hkj : k = j
        · subst hkj
          rw [ha, Option.some.injEq] at hj
          rw [hj]; exact Int.le_refl _
        · exact (h1 k j a b hkj ha hj hp).2 h2)
      omega
  cases ho : ordGo (f.map spn) 0 0 (f.map spn) with
  | none =>
    constructor
    · intro h; cases h
    · intro hO
      have := (hord (topSeq f)).2 ⟨hO.apart, rfl⟩
      rw [ho] at this; cases this
  | some m =>
    obtain ⟨h1, rfl⟩ := (hord m).1 ho
    dsimp only
    rw [hpart]
    exact ⟨fun h2 => ⟨h1, h2⟩, fun h2 => h2.begun⟩
theorem rowOrd_iff {i : Nat} {a : Bk} : ∀ (r : List Bk) (k : Nat), rowOrd i a k r = true ↔ ∀ (j : Nat) (b : Bk), r[j]? = some b → bad1 i (k + j) a b = false ∧ bad2 i (k + j) a b = false
  | [], k => by simp [rowOrd]
  | b :: r, k => by
    unfold rowOrd
    by_cases hc : bad1 i k a b = true ∨ bad2 i k a b = true
    · rw [if_pos hc]
      constructor
      · intro h; cases h
      · intro h
        have := h 0 b rfl
        rw [Nat.add_zero] at this
        rcases hc with hc | hc
        · rw [this.1] at hc; cases hc
        · rw [this.2] at hc; cases hc
    · rw [if_neg hc, rowOrd_iff r (k + 1)]
      constructor
      · intro h j x hj
        cases j with
        | zero =>
          rw [List.getElem?_cons_zero, Option.some.injEq] at hj
          subst hj
          rw [Nat.add_zero]
          exact ⟨by simpa using fun e => hc (.inl e), by simpa using fun e => hc (.inr e)⟩
        | succ j => have := h j x (by simpa using hj); rwa [show k + 1 + j = k + (j + 1) by omega] at this
      · intro h j x hj
        have := h (j + 1) x (by simpa using hj)
        rwa [show k + (j + 1) = k + 1 + j by omega] at this
theorem allOrd_iff {f : List Bk} : ∀ (r : List Bk) (i : Nat), allOrd f i r = true ↔ ∀ (k : Nat) (a : Bk), r[k]? = some a → rowOrd (i + k) a 0 f = true
  | [], i => by simp [allOrd]
  | a :: r, i => by
    unfold allOrd
    by_cases hc : rowOrd i a 0 f = true
    · rw [if_pos hc, allOrd_iff r (i + 1)]
      constructor
      · intro h k x hk
        cases k with
        | zero =>
          rw [List.getElem?_cons_zero, Option.some.injEq] at hk
          subst hk
          exact hc
        | succ k => have := h k x (by simpa using hk); rwa [show i + 1 + k = i + (k + 1) by omega] at this
      · intro h k x hk
        have := h (k + 1) x (by simpa using hk)
        rwa [show i + (k + 1) = i + 1 + k by omega] at this
    · rw [if_neg hc]
      constructor
      · intro h; cases h
      · intro h; exact absurd (h 0 a rfl) hc
theorem findOrder_iff {f : List Bk} (h : flashOk f = true) : findOrder f = true ↔ Ord f := by
  unfold findOrder
  rw [if_pos h, allOrd_iff]
  constructor
  · intro hA
    have hb : ∀ (i j : Nat) (a b : Bk), f[i]? = some a → f[j]? = some b → bad1 i j a b = false ∧ bad2 i j a b = false := fun i j a b ha hb => by
      have h1 := (rowOrd_iff f 0).1 (by have := hA i a ha; rwa [Nat.zero_add] at this) j b hb
      rwa [Nat.zero_add] at h1
    refine ⟨fun i j a b hij ha hb' p1 p2 p3 => ?_, fun i j a b hij ha hb' hp => ?_⟩
    · have := (hb i j a b ha hb').1
      unfold bad1 at this
      simp [hij, p1, p2, p3.1, p3.2] at this
    · have := (hb i j a b ha hb').2
      unfold bad2 at this
      simp [hij, hp] at this
      exact this
  · intro hO k a ha
    rw [Nat.zero_add, rowOrd_iff]
    intro j b hb
    rw [Nat.zero_add]
    constructor
    · unfold bad1
      by_cases hij : k = j
      · simp [hij]
      · have := hO.apart k j a b hij ha hb
        simp [hij]
        omega
    · unfold bad2
      by_cases hij : k = j
      · simp [hij]
      · by_cases hp : partly a = true
        · have := hO.begun k j a b hij ha hb hp
          simp [hij, hp, this.1]
          omega
        · simp [hp]
theorem findOrder_eq (f : List Bk) : findOrderI f = findOrder f := by
  by_cases h : flashOk f = true
  · have := (findOrderI_iff h).trans (findOrder_iff h).symm
    cases h1 : findOrderI f <;> cases h2 : findOrder f <;> simp [h1, h2] at this ⊢
  · unfold findOrderI findOrder; rw [if_neg h, if_neg h]
theorem order_ok {f : List Bk} (h : findOrderI f = true) : flashOk f = true := by
  unfold findOrderI at h
  split at h
  · assumption
  · cases h
end Go.Proofs.Ytbekihiiildgmaa
namespace Go.Proofs.Ytbekihiiildgmaa
set_option linter.unusedVariables false
set_option linter.unusedSimpArgs false
open Go.RowKit Go.Maps
set_option maxHeartbeats 400000
/-- of a clean last record the slow disk has the value -/
def diskBad (f : List Bk) (i : Nat) (v : Int) : Prop := 0 < (last f ((i : Int) + 1)).seq ∧ (last f ((i : Int) + 1)).kind = 2 ∧ (last f ((i : Int) + 1)).val ≠ v
instance (f : List Bk) (i : Nat) (v : Int) : Decidable (diskBad f i v) := by unfold diskBad; infer_instance
def diskGo (f : List Bk) : Nat → List Int → Bool
  | _, [] => true
  | i, v :: r => if valB v = true then (if diskBad f i v then false else diskGo f (i + 1) r) else false
def storeOk (s : St) : Bool := if s.disk.length = 6 then (if findOrderI s.flash = true then diskGo s.flash 0 s.disk else false) else false
theorem impl_isDirty (r : Rc) (w : World) : Calls Try.prog 69 #[.agg #[.int .i64 r.kind, .int .i64 r.seq, .int .i64 r.addr, .int .i64 r.val]] w fun e w' => e = .returned (.bool (decide (r.kind = 1))) ∧ Below w.heap.size w w' := by
  go_enter Try.func69, Try.ntmps69
  go_wp2
  go_ret
  exact ⟨ret_bool (by rw [Bool.eq_iff_iff]; simp), by (repeat (first | (with_reducible exact Below.refl _ _) | (with_reducible assumption) | (refine Below.setCell ?_ (by first | omega | exact hB.size | exact hb.size | (have h := hB.size; simp; omega) | (have h := hb.size; simp; omega) | (simp; omega) | simp) _) | (refine Below.alloc ?_ (by first | omega | exact hB.size | exact hb.size | (have h := hB.size; simp; omega) | (have h := hb.size; simp; omega) | (simp; omega) | simp) _) | (refine Below.drew ?_)))⟩
theorem ints_ne' {xs : List Int} (h : xs ≠ []) : ints xs ≠ [] := fun e => h (by
  have := congrArg List.length e
  rw [ints_len] at this
  exact List.length_eq_zero_iff.1 this)
theorem foundR_some {r : Rc} (h : 0 < r.seq) : foundR r = some r := by unfold foundR; rw [if_pos h]
theorem foundR_none {r : Rc} (h : ¬ 0 < r.seq) : foundR r = none := by unfold foundR; rw [if_neg h]
theorem last_pages {f : List Bk} (h : flashOk f = true) : ∀ b ∈ f, ∀ p ∈ b.pages, pageOk p = true := fun b hb => (bk_parts h hb).2.2.2
theorem last_kind {f : List Bk} (h : flashOk f = true) {a : Int} (h0 : 0 < (last f a).seq) : (last f a).kind = 1 ∨ (last f a).kind = 2 := by
  have := (last_found (last_pages h) h0).1
  unfold recOk kindB at this
  simp at this
  omega
set_option maxHeartbeats 4000000 in
set_option maxRecDepth 100000 in
theorem impl_StoreOk (s : St) (A D : Option Addr) (n m c d : Nat) (w : World) (hn : n = s.flash.length) (hm : m = s.disk.length) (hF : Fl w A s.flash) (hD : Row w D (ints s.disk)) :
    Calls Try.prog 21 #[.agg #[.slice A n c, .slice D m d]] w fun e w' => e = .returned (.bool (storeOk s)) ∧ Below w.heap.size w w' := by
  subst hn; subst hm
  have hB0 : Below w.heap.size w (w.alloc (.cells #[.slice A s.flash.length c, .slice D s.disk.length d] 26)) := (Below.refl _ _).alloc (Nat.le_refl _) _
  have hF0 := hF.below hB0 (Nat.le_refl _)
  have hD0 := hD.below hB0 (Nat.le_refl _)
  by_cases h6 : s.disk.length = 6
  · have H6 := Lib.hid h6
    have hfin : Hid (storeOk s = if findOrderI s.flash = true then diskGo s.flash 0 s.disk else false) := by unfold Hid storeOk; rw [if_pos h6]
    obtain ⟨db, dO, rfl⟩ := hD.addr (ints_ne' (by intro e; rw [e] at h6; simp at h6))
    rw [h6] at hB0 hF0 hD0 ⊢
    clear h6
    go_enter Try.func21, Try.ntmps21
    go_wp2_with fail
    refine (impl_FindOrder s.flash A _ c _ rfl hF0).mono ?_
    rintro e w1 ⟨rfl, hb⟩
    have hs1 := hb.size
    simp only [World.size_alloc] at hs1
    have x0 : w1.cell? ⟨w.heap.size, 0, none⟩ = some (.slice A s.flash.length c) := (hb.cell (p := ⟨w.heap.size, 0, none⟩) (by simp)).trans (by simp)
    have x1 : w1.cell? ⟨w.heap.size, 1, none⟩ = some (.slice (some ⟨db, dO, none⟩) 6 d) := (hb.cell (p := ⟨w.heap.size, 1, none⟩) (by simp)).trans (by simp)
    have hF1 := hF0.below hb (Nat.le_refl _)
    have hD1 := hD0.below hb (Nat.le_refl _)
    have hB1 := hB0.trans (hb.mono (by simp))
    clear hb hF0 hD0 hB0
    by_cases hord : findOrderI s.flash = true
    · have hok := order_ok hord
      have hfin2 : Hid (storeOk s = diskGo s.flash 0 s.disk) := by rw [Hid, hfin.out, if_pos hord]
      have hlm := Lib.hid (fun a => lastMap_eq hok a)
      have hkd := Lib.hid (fun a h => last_kind (a := a) hok h)
      have hrc := Lib.hid (fun a h => last_found (a := a) (last_pages hok) h)
      rw [hord]
      clear hord hfin
      go_wp2_with fail
      refine (impl_lastRecords s.flash A _ c _ rfl hok hF1).mono ?_
      rintro e w2 ⟨rfl, hM, hb⟩
      have hs2 := hb.size
      replace x0 := (hb.cell (p := ⟨w.heap.size, 0, none⟩) (by show w.heap.size < _; omega)).trans x0
      replace x1 := (hb.cell (p := ⟨w.heap.size, 1, none⟩) (by show w.heap.size < _; omega)).trans x1
      have hD2 := hD1.below hb (Nat.le_refl _)
      have hB2 := hB1.trans (hb.mono (by omega))
      have hMl := hM.lt
      clear hb hF1 hD1 hB1 hok
      go_wp2
      go_loopw [25] (fun i wr => ∃ k : Nat, k ≤ 6 ∧ i = .int .i64 k ∧ Below w2.heap.size w2 wr ∧ Hid (diskGo s.flash 0 s.disk = diskGo s.flash k (s.disk.drop k))) (fun i _ => 6 - (intOf i).toNat)
      case atStart => exact ⟨0, by omega, rfl, Below.refl _ _, rfl⟩
      case round =>
        obtain ⟨k, hk, rfl, hB, hT⟩ := hrel
        by_cases hlt : k < 6
        · obtain ⟨v, hv⟩ := get_some (l := s.disk) (k := k) (by rw [H6.out]; exact hlt)
          obtain ⟨cv, _⟩ := (hD2.below hB (Nat.le_refl _)).int_ hv
          have hk1 : (k : Int) < 6 := by omega
          have e1 : IntKind.i64.wrap ((k : Int) + 1) = (k : Int) + 1 := IntWalk.i64_in _ (by omega)
          have hT2 : Hid (diskGo s.flash 0 s.disk = if valB v = true then (if diskBad s.flash k v then false else diskGo s.flash (k + 1) (s.disk.drop (k + 1))) else false) := by rw [Hid, hT.out, drop_cons hv, diskGo]
          have hlk := (hM.below hB hMl).look_ok (t := 86) Try.underlying86 Try.underlying3 zero_rec (k := (k : Int) + 1) (wf_int (by omega))
          rw [hlm.out] at hlk
          have hkdk := Lib.hid (hkd.out ((k : Int) + 1))
          have hdb : Hid (diskBad s.flash k v ↔ (0 < (last s.flash ((k : Int) + 1)).seq ∧ (last s.flash ((k : Int) + 1)).kind = 2 ∧ (last s.flash ((k : Int) + 1)).val ≠ v)) := Iff.rfl
          generalize last s.flash ((k : Int) + 1) = r at *
          unfold rcV at hlk
          clear hv hT
          by_cases hvo : valB v = true
          · have hT3 := hT2.out
            rw [if_pos hvo] at hT3
            replace hT3 := Lib.hid hT3
            have hval := impl_valOk v wr
            rw [hvo] at hval
            clear hvo hT2
            by_cases hr : 0 < r.seq
            · rw [foundR_some hr] at hlk
              simp only [Option.getD_some, Option.isSome_some] at hlk
              have hBa : Below w2.heap.size w2 (wr.alloc (.cells #[.int .i64 r.kind, .int .i64 r.seq, .int .i64 r.addr, .int .i64 r.val] 45)) := hB.alloc hB.size _
              go_wp2_with fail
              refine hval.mono ?_
              rintro e w3 ⟨rfl, rfl⟩
              go_wp2_with fail
              refine (impl_isDirty r _).mono ?_
              rintro e w3 ⟨rfl, hb3⟩
              have y3 : w3.cell? ⟨wr.heap.size, 3, none⟩ = some (.int .i64 r.val) := (hb3.cell (p := ⟨wr.heap.size, 3, none⟩) (by simp)).trans (by simp)
              have hB3 := hBa.trans (hb3.mono (by have := hB.size; simp; omega))
              clear hb3 hBa hlk
              by_cases h1 : r.kind = 1
              · have hx := hT3.out
                rw [if_neg (fun e => by have := (hdb.out.1 e).2.1; omega)] at hx
                replace hx := Lib.hid hx
                rw [show decide (r.kind = 1) = true from decide_eq_true h1]
                clear hT3 h1
                go_wp2
                go_roundw
                (case rel => exact ⟨k + 1, by omega, by go_num, hB3, hx⟩)
                (case measure => simp [intOf]; omega)
              · have h2 : r.kind = 2 := by rcases hkdk.out hr with h | h; exact absurd h h1; exact h
                rw [show decide (r.kind = 1) = false from decide_eq_false h1]
                by_cases h3 : r.val = v
                · have hx := hT3.out
                  rw [if_neg (fun e => (hdb.out.1 e).2.2 h3)] at hx
                  replace hx := Lib.hid hx
                  have h3' : (r.val != v) = false := by rw [bne_eq_false_iff_eq]; exact h3
                  clear hT3 h1 h2 h3
                  go_wp2
                  go_roundw
                  (case rel => exact ⟨k + 1, by omega, by go_num, hB3, hx⟩)
                  (case measure => simp [intOf]; omega)
                · have hx := hT3.out
                  rw [if_pos (hdb.out.2 ⟨hr, h2, h3⟩)] at hx
                  replace hx := Lib.hid hx
                  have h3' : (r.val != v) = true := by rw [bne_iff_ne]; exact h3
                  clear hT3 h1 h2 h3
                  go_wp2
                  go_ret
                  exact ⟨ret_bool (by rw [hfin2.out, hx.out]), hB2.trans (hB3.mono (by omega))⟩
            · simp only [foundR_none hr, Option.getD_none, Option.isSome_none, rc0] at hlk
              have hx := hT3.out
              rw [if_neg (fun e => hr (hdb.out.1 e).1)] at hx
              replace hx := Lib.hid hx
              have hBa : Below w2.heap.size w2 (wr.alloc (.cells #[.int .i64 0, .int .i64 0, .int .i64 0, .int .i64 0] 45)) := hB.alloc hB.size _
              clear hT3
              go_wp2_with fail
              refine hval.mono ?_
              rintro e w3 ⟨rfl, rfl⟩
              go_wp2
              go_roundw
              (case rel => exact ⟨k + 1, by omega, by go_num, hBa, hx⟩)
              (case measure => simp [intOf]; omega)
          · have hx := hT2.out
            rw [if_neg hvo] at hx
            replace hx := Lib.hid hx
            have hval := impl_valOk v wr
            rw [show valB v = false from by simpa using hvo] at hval
            clear hvo hT2 hlk
            go_wp2_with fail
            refine hval.mono ?_
            rintro e w3 ⟨rfl, rfl⟩
            go_wp2
            go_ret
            exact ⟨ret_bool (by rw [hfin2.out, hx.out]), hB2.trans (hB.mono (by omega))⟩
        · have hk4 : (6 : Int) ≤ (k : Int) := by omega
          have hx : Hid (diskGo s.flash 0 s.disk = true) := by rw [Hid, hT.out, List.drop_of_length_le (by rw [H6.out]; omega)]; rfl
          clear hT
          go_wp2
          go_ret
          exact ⟨ret_bool (by rw [hfin2.out, hx.out]), hB2.trans (hB.mono (by omega))⟩
    · have hfin2 : Hid (storeOk s = false) := by rw [Hid, hfin.out, if_neg hord]
      rw [show findOrderI s.flash = false from by simpa using hord]
      clear hord
      go_wp2
      go_ret
      exact ⟨ret_bool hfin2.out.symm, hB1⟩
  · have hfin : Hid (storeOk s = false) := by unfold Hid storeOk; rw [if_neg h6]
    have h6' : ((s.disk.length : Int) != 6) = true := by rw [bne_iff_ne]; omega
    clear h6
    go_enter Try.func21, Try.ntmps21
    go_wp2
    go_ret
    exact ⟨ret_bool hfin.out.symm, hB0⟩
end Go.Proofs.Ytbekihiiildgmaa
namespace Go.Proofs.Ytbekihiiildgmaa
set_option linter.unusedVariables false
set_option linter.unusedSimpArgs false
open Go.RowKit Go.Maps
set_option maxHeartbeats 400000
set_option maxHeartbeats 8000000 in
set_option maxRecDepth 100000 in
theorem spec_StoreOk (s : St) (A D : Option Addr) (n m c d : Nat) (w : World) (hn : n = s.flash.length) (hm : m = s.disk.length) (hl : s.flash.length < 1000000000000) (hF : Fl w A s.flash) (hD : Row w D (ints s.disk)) :
    Calls Try.prog 19 #[.agg #[.slice A n c, .slice D m d]] w fun e w' => e = .returned (.bool (storeOk s)) ∧ Below w.heap.size w w' := by
  subst hn; subst hm
  have hB0 : Below w.heap.size w (w.alloc (.cells #[.slice A s.flash.length c, .slice D s.disk.length d] 26)) := (Below.refl _ _).alloc (Nat.le_refl _) _
  have hF0 := hF.below hB0 (Nat.le_refl _)
  have hD0 := hD.below hB0 (Nat.le_refl _)
  go_enter Try.func19, Try.ntmps19
  go_wp2_with fail
  refine (spec_FindOrder s.flash A _ c _ rfl hl hF0).mono ?_
  rw [← findOrder_eq]
  rintro e w1 ⟨rfl, hb⟩
  have hs1 := hb.size
  simp only [World.size_alloc] at hs1
  have x0 : w1.cell? ⟨w.heap.size, 0, none⟩ = some (.slice A s.flash.length c) := (hb.cell (p := ⟨w.heap.size, 0, none⟩) (by simp)).trans (by simp)
  have x1 : w1.cell? ⟨w.heap.size, 1, none⟩ = some (.slice D s.disk.length d) := (hb.cell (p := ⟨w.heap.size, 1, none⟩) (by simp)).trans (by simp)
  have hF1 := hF0.below hb (Nat.le_refl _)
  have hD1 := hD0.below hb (Nat.le_refl _)
  have hB1 := hB0.trans (hb.mono (by simp))
  clear hb hF0 hD0 hB0
  by_cases hord : findOrderI s.flash = true
  · have hok := order_ok hord
    have HPL := Lib.hid (show ∀ b ∈ s.flash, b.pages.length < 1000000000000 from fun b hb => by rw [(flashOk_shape hok b hb).1]; omega)
    have hfin : Hid (storeOk s = if s.disk.length = 6 then diskGo s.flash 0 s.disk else false) := by unfold Hid storeOk; rw [if_pos hord]
    rw [hord]
    clear hord hok
    by_cases h6 : s.disk.length = 6
    · have H6 := Lib.hid h6
      have hfin2 : Hid (storeOk s = diskGo s.flash 0 s.disk) := by rw [Hid, hfin.out, if_pos h6]
      obtain ⟨db, dO, rfl⟩ := hD1.addr (ints_ne' (by intro e; rw [e] at h6; simp at h6))
      rw [h6] at x1 ⊢
      clear h6 hfin hF hD
      go_wp2
      go_loopw [3] (fun i wr => ∃ k : Nat, k ≤ 6 ∧ i = .int .i64 k ∧ Below w1.heap.size w1 wr ∧ Hid (diskGo s.flash 0 s.disk = diskGo s.flash k (s.disk.drop k))) (fun i _ => 6 - (intOf i).toNat)
      case atStart => exact ⟨0, by omega, rfl, Below.refl _ _, rfl⟩
      case round =>
        obtain ⟨k, hk, rfl, hB, hT⟩ := hrel
        by_cases hlt : k < 6
        · obtain ⟨v, hv⟩ := get_some (l := s.disk) (k := k) (by rw [H6.out]; exact hlt)
          have hk1 : (k : Int) < 6 := by omega
          have e1 : IntKind.i64.wrap ((k : Int) + 1) = (k : Int) + 1 := IntWalk.i64_in _ (by omega)
          have hT2 : Hid (diskGo s.flash 0 s.disk = if valB v = true then (if diskBad s.flash k v then false else diskGo s.flash (k + 1) (s.disk.drop (k + 1))) else false) := by rw [Hid, hT.out, drop_cons hv, diskGo]
          have hdb : Hid (diskBad s.flash k v ↔ (0 < (last s.flash ((k : Int) + 1)).seq ∧ (last s.flash ((k : Int) + 1)).kind = 2 ∧ (last s.flash ((k : Int) + 1)).val ≠ v)) := Iff.rfl
          have HV := Lib.hid hv
          have hwn : w.heap.size < wr.heap.size := by have := hB.size; omega
          replace x0 := (hB.cell (p := ⟨w.heap.size, 0, none⟩) (by show w.heap.size < _; omega)).trans x0
          replace x1 := (hB.cell (p := ⟨w.heap.size, 1, none⟩) (by show w.heap.size < _; omega)).trans x1
          clear hv hT
          go_wp2_with fail
          refine (spec_l3Last s.flash ((k : Int) + 1) A c _ hl HPL.out (hF1.below hB (Nat.le_refl _))).mono ?_
          generalize last s.flash ((k : Int) + 1) = r at *
          rintro e w3 ⟨rfl, hb3⟩
          have hB3 := hB.trans (hb3.mono hB.size)
          have hs3 := hb3.size
          obtain ⟨R, hR⟩ : ∃ R, w3.heap.size = R := ⟨_, rfl⟩
          have hBn : Below w1.heap.size w1 (w3.alloc (.cells #[.int .i64 r.kind, .int .i64 r.seq, .int .i64 r.addr, .int .i64 r.val] 45)).drew := (hB3.alloc hB3.size _).drew
          have hBf := hB1.trans (hBn.mono (by omega))
          have y1 : (w3.alloc (.cells #[.int .i64 r.kind, .int .i64 r.seq, .int .i64 r.addr, .int .i64 r.val] 45)).cell? ⟨w.heap.size, 1, none⟩ = some (.slice (some ⟨db, dO, none⟩) 6 d) := (((Below.refl w3.heap.size w3).alloc (Nat.le_refl _) _).cell (p := ⟨w.heap.size, 1, none⟩) (by show w.heap.size < _; omega)).trans ((hb3.cell (p := ⟨w.heap.size, 1, none⟩) hwn).trans x1)
          obtain ⟨cv, _⟩ := ((hD1.below hB3 (Nat.le_refl _)).alloc (.cells #[.int .i64 r.kind, .int .i64 r.seq, .int .i64 r.addr, .int .i64 r.val] 45)).int_ HV.out
          have z0 : (w3.alloc (.cells #[.int .i64 r.kind, .int .i64 r.seq, .int .i64 r.addr, .int .i64 r.val] 45)).cell? ⟨R, 0, none⟩ = some (.int .i64 r.kind) := by rw [← hR]; simp
          have z3 : (w3.alloc (.cells #[.int .i64 r.kind, .int .i64 r.seq, .int .i64 r.addr, .int .i64 r.val] 45)).cell? ⟨R, 3, none⟩ = some (.int .i64 r.val) := by rw [← hR]; simp
          clear hb3 hB3
          by_cases hr : 0 < r.seq
          · have dr : decide (0 < r.seq) = true := decide_eq_true hr
            go_wp2
            (try rw [hR])
            by_cases hvo : valB v = true
            · have hT3 := hT2.out
              rw [if_pos hvo] at hT3
              replace hT3 := Lib.hid hT3
              have HIN := Lib.hid (fun X => (spec_l6In v 0 9 X).mono (fun e w' (h : e = .returned (.bool (valB v)) ∧ X = w') => (show e = .returned (.bool true) ∧ X = w' from by rw [hvo] at h; exact h)))
              clear hT2 hvo
              refine wp_region_held_drew (S := fun X => X.cell? ⟨w.heap.size, 1, none⟩ = some (.slice (some ⟨db, dO, none⟩) 6 d) ∧ X.cell? ⟨db, dO + k, none⟩ = some (.int .i64 v) ∧ X.cell? ⟨R, 0, none⟩ = some (.int .i64 r.kind) ∧ X.cell? ⟨R, 3, none⟩ = some (.int .i64 r.val)) (by kernel_rfl) ⟨y1, cv, z0, z3⟩ (fun hHeld0 => ?_)
              refine wpAnyH_take (i := 0) (v := ?vqtt1) rfl (by kernel_rfl) (by kernel_rfl) (by kernel_rfl) (fun _ _ _ h => h) (Or.inl ⟨by kernel_rfl, ?yqtt1⟩) hHeld0 ?rqtt1
              case yqtt1 => (intro w' hS; (try dsimp only at hS); obtain ⟨s0, s1, s2, s3⟩ := hS; (try go_simp); (try with_reducible rfl))
              try simp only [Act.put, jA, jB, jC, jD, jE, jF]
              refine wpAnyH_take (i := 1) (v := ?vqtt2) rfl (by kernel_rfl) (by kernel_rfl) (by kernel_rfl) (fun _ _ _ h => h) (Or.inl ⟨by kernel_rfl, ?yqtt2⟩) hHeld0 ?rqtt2
              case yqtt2 => (intro w' hS; (try dsimp only at hS); obtain ⟨s0, s1, s2, s3⟩ := hS; (try go_simp); (try with_reducible rfl))
              try simp only [Act.put, jA, jB, jC, jD, jE, jF]
              refine wpAnyH_take (i := 2) (v := ?vqtt3) rfl (by kernel_rfl) (by kernel_rfl) (by kernel_rfl) (fun _ _ _ h => h) (Or.inl ⟨by kernel_rfl, ?yqtt3⟩) hHeld0 ?rqtt3
              case yqtt3 => (intro w' hS; (try dsimp only at hS); obtain ⟨s0, s1, s2, s3⟩ := hS; (try go_simp); (try with_reducible rfl))
              try simp only [Act.put, jA, jB, jC, jD, jE, jF]
              refine wpAnyH_take (i := 3) (v := ?vqtt4) rfl (by kernel_rfl) (by kernel_rfl) (by kernel_rfl) (fun _ _ _ h => h) (Or.inl ⟨by kernel_rfl, ?yqtt4⟩) hHeld0 ?rqtt4
              case yqtt4 => (intro w' hS; (try dsimp only at hS); obtain ⟨s0, s1, s2, s3⟩ := hS; (try go_simp); (try with_reducible rfl))
              try simp only [Act.put, jA, jB, jC, jD, jE, jF]
              refine wpAnyH_take (i := 4) (v := ?vqtt5) rfl (by kernel_rfl) (by kernel_rfl) (by kernel_rfl) (fun _ _ _ h => h) (Or.inl ⟨by kernel_rfl, ?yqtt5⟩) hHeld0 ?rqtt5
              case yqtt5 => (intro w' hS; (try dsimp only at hS); obtain ⟨s0, s1, s2, s3⟩ := hS; (try go_simp); (try with_reducible rfl))
              try simp only [Act.put, jA, jB, jC, jD, jE, jF]
              refine wpAnyH_ready (rs := [5]) (by kernel_rfl) (by simp) ?_
              refine AllReadyH.cons rfl (fun K hK => ?_) AllReadyH.nil
              go_simp
              refine (HIN.out _).mono ?_
              rintro e x1 ⟨rfl, rfl⟩
              go_wp2_with fail
              refine hK.out _ _ ((by first | exact hHeld0 | (obtain ⟨a1, a2, a3, a4⟩ := hHeld0; exact ⟨a1, a2, a3, a4⟩))) (fun hHeld1 => ?_)
              clear hK K
              try simp only [Act.put, jA, jB, jC, jD, jE, jF]
              refine wpAnyH_take (i := 6) (v := ?vqtt6) rfl (by kernel_rfl) (by kernel_rfl) (by kernel_rfl) (fun _ _ _ h => h) (Or.inl ⟨by kernel_rfl, ?yqtt6⟩) hHeld1 ?rqtt6
              case yqtt6 => (intro w' hS; (try dsimp only at hS); obtain ⟨s0, s1, s2, s3⟩ := hS; (try go_simp); (try with_reducible rfl))
              try simp only [Act.put, jA, jB, jC, jD, jE, jF]
              refine wpAnyH_take (i := 7) (v := ?vqtt7) rfl (by kernel_rfl) (by kernel_rfl) (by kernel_rfl) (fun _ _ _ h => h) (Or.inl ⟨by kernel_rfl, ?yqtt7⟩) hHeld1 ?rqtt7
              case yqtt7 => (intro w' hS; (try dsimp only at hS); obtain ⟨s0, s1, s2, s3⟩ := hS; (try go_simp); (try with_reducible rfl))
              try simp only [Act.put, jA, jB, jC, jD, jE, jF]
              refine wpAnyH_take (i := 8) (v := ?vqtt8) rfl (by kernel_rfl) (by kernel_rfl) (by kernel_rfl) (fun _ _ _ h => h) (Or.inl ⟨by kernel_rfl, ?yqtt8⟩) hHeld1 ?rqtt8
              case yqtt8 => (intro w' hS; (try dsimp only at hS); obtain ⟨s0, s1, s2, s3⟩ := hS; (try go_simp); (try with_reducible rfl))
              try simp only [Act.put, jA, jB, jC, jD, jE, jF]
              refine wpAnyH_take (i := 9) (v := ?vqtt9) rfl (by kernel_rfl) (by kernel_rfl) (by kernel_rfl) (fun _ _ _ h => h) (Or.inl ⟨by kernel_rfl, ?yqtt9⟩) hHeld1 ?rqtt9
              case yqtt9 => (intro w' hS; (try dsimp only at hS); obtain ⟨s0, s1, s2, s3⟩ := hS; (try go_simp); (try with_reducible rfl))
              try simp only [Act.put, jA, jB, jC, jD, jE, jF]
              refine wpAnyH_take (i := 10) (v := ?vqtt10) rfl (by kernel_rfl) (by kernel_rfl) (by kernel_rfl) (fun _ _ _ h => h) (Or.inl ⟨by kernel_rfl, ?yqtt10⟩) hHeld1 ?rqtt10
              case yqtt10 => (intro w' hS; (try dsimp only at hS); obtain ⟨s0, s1, s2, s3⟩ := hS; (try go_simp); (try with_reducible rfl))
              try simp only [Act.put, jA, jB, jC, jD, jE, jF]
              refine wpAnyH_take (i := 11) (v := ?vqtt11) rfl (by kernel_rfl) (by kernel_rfl) (by kernel_rfl) (fun _ _ _ h => h) (Or.inl ⟨by kernel_rfl, ?yqtt11⟩) hHeld1 ?rqtt11
              case yqtt11 => (intro w' hS; (try dsimp only at hS); obtain ⟨s0, s1, s2, s3⟩ := hS; (try go_simp); (try with_reducible rfl))
              try simp only [Act.put, jA, jB, jC, jD, jE, jF]
              by_cases n1 : r.kind = 2
              · have dn1 : (r.kind == 2) = true := by rw [beq_iff_eq]; exact n1
                have HN1 := Lib.hid n1
                clear n1
                refine wpAnyH_take (i := 12) (v := ?vqtt12) rfl (by kernel_rfl) (by kernel_rfl) (by kernel_rfl) (fun _ _ _ h => h) (Or.inl ⟨by kernel_rfl, ?yqtt12⟩) hHeld1 ?rqtt12
                case yqtt12 => (intro w' hS; (try dsimp only at hS); obtain ⟨s0, s1, s2, s3⟩ := hS; (try go_simp); (try with_reducible rfl))
                try simp only [Act.put, jA, jB, jC, jD, jE, jF]
                refine wpAnyH_take (i := 13) (v := ?vqtt13) rfl (by kernel_rfl) (by kernel_rfl) (by kernel_rfl) (fun _ _ _ h => h) (Or.inl ⟨by kernel_rfl, ?yqtt13⟩) hHeld1 ?rqtt13
                case yqtt13 => (intro w' hS; (try dsimp only at hS); obtain ⟨s0, s1, s2, s3⟩ := hS; (try go_simp); (try with_reducible rfl))
                try simp only [Act.put, jA, jB, jC, jD, jE, jF]
                refine wpAnyH_take (i := 14) (v := ?vqtt14) rfl (by kernel_rfl) (by kernel_rfl) (by kernel_rfl) (fun _ _ _ h => h) (Or.inl ⟨by kernel_rfl, ?yqtt14⟩) hHeld1 ?rqtt14
                case yqtt14 => (intro w' hS; (try dsimp only at hS); obtain ⟨s0, s1, s2, s3⟩ := hS; (try go_simp); (try with_reducible rfl))
                try simp only [Act.put, jA, jB, jC, jD, jE, jF]
                refine wpAnyH_take (i := 15) (v := ?vqtt15) rfl (by kernel_rfl) (by kernel_rfl) (by kernel_rfl) (fun _ _ _ h => h) (Or.inl ⟨by kernel_rfl, ?yqtt15⟩) hHeld1 ?rqtt15
                case yqtt15 => (intro w' hS; (try dsimp only at hS); obtain ⟨s0, s1, s2, s3⟩ := hS; (try go_simp); (try with_reducible rfl))
                try simp only [Act.put, jA, jB, jC, jD, jE, jF]
                refine wpAnyH_take (i := 16) (v := ?vqtt16) rfl (by kernel_rfl) (by kernel_rfl) (by kernel_rfl) (fun _ _ _ h => h) (Or.inl ⟨by kernel_rfl, ?yqtt16⟩) hHeld1 ?rqtt16
                case yqtt16 => (intro w' hS; (try dsimp only at hS); obtain ⟨s0, s1, s2, s3⟩ := hS; (try go_simp); (try with_reducible rfl))
                try simp only [Act.put, jA, jB, jC, jD, jE, jF]
                refine wpAnyH_take (i := 17) (v := ?vqtt17) rfl (by kernel_rfl) (by kernel_rfl) (by kernel_rfl) (fun _ _ _ h => h) (Or.inl ⟨by kernel_rfl, ?yqtt17⟩) hHeld1 ?rqtt17
                case yqtt17 => (intro w' hS; (try dsimp only at hS); obtain ⟨s0, s1, s2, s3⟩ := hS; (try go_simp); (try with_reducible rfl))
                try simp only [Act.put, jA, jB, jC, jD, jE, jF]
                refine wpAnyH_take (i := 18) (v := ?vqtt18) rfl (by kernel_rfl) (by kernel_rfl) (by kernel_rfl) (fun _ _ _ h => h) (Or.inl ⟨by kernel_rfl, ?yqtt18⟩) hHeld1 ?rqtt18
                case yqtt18 => (intro w' hS; (try dsimp only at hS); obtain ⟨s0, s1, s2, s3⟩ := hS; (try go_simp); (try with_reducible rfl))
                try simp only [Act.put, jA, jB, jC, jD, jE, jF]
                refine wpAnyH_take (i := 19) (v := ?vqtt19) rfl (by kernel_rfl) (by kernel_rfl) (by kernel_rfl) (fun _ _ _ h => h) (Or.inl ⟨by kernel_rfl, ?yqtt19⟩) hHeld1 ?rqtt19
                case yqtt19 => (intro w' hS; (try dsimp only at hS); obtain ⟨s0, s1, s2, s3⟩ := hS; (try go_simp); (try with_reducible rfl))
                try simp only [Act.put, jA, jB, jC, jD, jE, jF]
                refine wpAnyH_take (i := 20) (v := ?vqtt20) rfl (by kernel_rfl) (by kernel_rfl) (by kernel_rfl) (fun _ _ _ h => h) (Or.inl ⟨by kernel_rfl, ?yqtt20⟩) hHeld1 ?rqtt20
                case yqtt20 => (intro w' hS; (try dsimp only at hS); obtain ⟨s0, s1, s2, s3⟩ := hS; (try go_simp); (try with_reducible rfl))
                try simp only [Act.put, jA, jB, jC, jD, jE, jF]
                refine wpAnyH_take (i := 21) (v := ?vqtt21) rfl (by kernel_rfl) (by kernel_rfl) (by kernel_rfl) (fun _ _ _ h => h) (Or.inl ⟨by kernel_rfl, ?yqtt21⟩) hHeld1 ?rqtt21
                case yqtt21 => (intro w' hS; (try dsimp only at hS); obtain ⟨s0, s1, s2, s3⟩ := hS; (try go_simp); (try with_reducible rfl))
                try simp only [Act.put, jA, jB, jC, jD, jE, jF]
                by_cases n2 : r.val ≠ v
                · have dn2 : (r.val != v) = true := by rw [bne_iff_ne]; exact n2
                  refine wpAnyH_take (i := 22) (v := ?vqtt22) rfl (by kernel_rfl) (by kernel_rfl) (by kernel_rfl) (fun _ _ _ h => h) (Or.inl ⟨by kernel_rfl, ?yqtt22⟩) hHeld1 ?rqtt22
                  case yqtt22 => (intro w' hS; (try dsimp only at hS); obtain ⟨s0, s1, s2, s3⟩ := hS; (try go_simp); (try with_reducible rfl))
                  try simp only [Act.put, jA, jB, jC, jD, jE, jF]
                  refine wpAnyH_take (i := 23) (v := ?vqtt23) rfl (by kernel_rfl) (by kernel_rfl) (by kernel_rfl) (fun _ _ _ h => h) (Or.inl ⟨by kernel_rfl, ?yqtt23⟩) hHeld1 ?rqtt23
                  case yqtt23 => (intro w' hS; (try dsimp only at hS); obtain ⟨s0, s1, s2, s3⟩ := hS; (try go_simp); (try with_reducible rfl))
                  try simp only [Act.put, jA, jB, jC, jD, jE, jF]
                  refine wpAnyH_take (i := 24) (v := ?vqtt24) rfl (by kernel_rfl) (by kernel_rfl) (by kernel_rfl) (fun _ _ _ h => h) (Or.inl ⟨by kernel_rfl, ?yqtt24⟩) hHeld1 ?rqtt24
                  case yqtt24 => (intro w' hS; (try dsimp only at hS); obtain ⟨s0, s1, s2, s3⟩ := hS; (try go_simp); (try with_reducible rfl))
                  try simp only [Act.put, jA, jB, jC, jD, jE, jF]
                  refine wpAnyH_done (by kernel_rfl) ?_ _
                  have hx := hT3.out
                  rw [if_pos (hdb.out.2 ⟨hr, HN1.out, n2⟩)] at hx
                  replace hx := Lib.hid hx
                  clear hT3
                  go_wp2
                  go_ret
                  exact ⟨ret_bool (by rw [hfin2.out, hx.out]), hBf⟩
                · have dn2 : (r.val != v) = false := by rw [bne_eq_false_iff_eq]; simpa using n2
                  refine wpAnyH_take (i := 22) (v := ?vqtt25) rfl (by kernel_rfl) (by kernel_rfl) (by kernel_rfl) (fun _ _ _ h => h) (Or.inl ⟨by kernel_rfl, ?yqtt25⟩) hHeld1 ?rqtt25
                  case yqtt25 => (intro w' hS; (try dsimp only at hS); obtain ⟨s0, s1, s2, s3⟩ := hS; (try go_simp); (try with_reducible rfl))
                  try simp only [Act.put, jA, jB, jC, jD, jE, jF]
                  refine wpAnyH_take (i := 23) (v := ?vqtt26) rfl (by kernel_rfl) (by kernel_rfl) (by kernel_rfl) (fun _ _ _ h => h) (Or.inl ⟨by kernel_rfl, ?yqtt26⟩) hHeld1 ?rqtt26
                  case yqtt26 => (intro w' hS; (try dsimp only at hS); obtain ⟨s0, s1, s2, s3⟩ := hS; (try go_simp); (try with_reducible rfl))
                  try simp only [Act.put, jA, jB, jC, jD, jE, jF]
                  refine wpAnyH_take (i := 24) (v := ?vqtt27) rfl (by kernel_rfl) (by kernel_rfl) (by kernel_rfl) (fun _ _ _ h => h) (Or.inl ⟨by kernel_rfl, ?yqtt27⟩) hHeld1 ?rqtt27
                  case yqtt27 => (intro w' hS; (try dsimp only at hS); obtain ⟨s0, s1, s2, s3⟩ := hS; (try go_simp); (try with_reducible rfl))
                  try simp only [Act.put, jA, jB, jC, jD, jE, jF]
                  refine wpAnyH_done (by kernel_rfl) ?_ _
                  have hx := hT3.out
                  rw [if_neg (fun e => n2 (hdb.out.1 e).2.2)] at hx
                  replace hx := Lib.hid hx
                  clear hT3
                  go_wp2
                  go_roundw
                  (case rel => exact ⟨k + 1, by omega, by go_num, hBn, hx⟩)
                  (case measure => simp [intOf]; omega)
              · have dn1 : (r.kind == 2) = false := by rw [beq_eq_false_iff_ne]; exact n1
                have HN1 := Lib.hid n1
                refine wpAnyH_take (i := 12) (v := ?vqtt28) rfl (by kernel_rfl) (by kernel_rfl) (by kernel_rfl) (fun _ _ _ h => h) (Or.inl ⟨by kernel_rfl, ?yqtt28⟩) hHeld1 ?rqtt28
                case yqtt28 => (intro w' hS; (try dsimp only at hS); obtain ⟨s0, s1, s2, s3⟩ := hS; (try go_simp); (try with_reducible rfl))
                try simp only [Act.put, jA, jB, jC, jD, jE, jF]
                refine wpAnyH_take (i := 13) (v := ?vqtt29) rfl (by kernel_rfl) (by kernel_rfl) (by kernel_rfl) (fun _ _ _ h => h) (Or.inl ⟨by kernel_rfl, ?yqtt29⟩) hHeld1 ?rqtt29
                case yqtt29 => (intro w' hS; (try dsimp only at hS); obtain ⟨s0, s1, s2, s3⟩ := hS; (try go_simp); (try with_reducible rfl))
                try simp only [Act.put, jA, jB, jC, jD, jE, jF]
                refine wpAnyH_take (i := 14) (v := ?vqtt30) rfl (by kernel_rfl) (by kernel_rfl) (by kernel_rfl) (fun _ _ _ h => h) (Or.inl ⟨by kernel_rfl, ?yqtt30⟩) hHeld1 ?rqtt30
                case yqtt30 => (intro w' hS; (try dsimp only at hS); obtain ⟨s0, s1, s2, s3⟩ := hS; (try go_simp); (try with_reducible rfl))
                try simp only [Act.put, jA, jB, jC, jD, jE, jF]
                refine wpAnyH_take (i := 15) (v := undef) rfl (by kernel_rfl) (by kernel_rfl) (by kernel_rfl) (fun _ _ _ h => h) (Or.inr ⟨by kernel_rfl, rfl⟩) hHeld1 ?_
                try simp only [Act.put, jA, jB, jC, jD, jE, jF]
                refine wpAnyH_take (i := 16) (v := undef) rfl (by kernel_rfl) (by kernel_rfl) (by kernel_rfl) (fun _ _ _ h => h) (Or.inr ⟨by kernel_rfl, rfl⟩) hHeld1 ?_
                try simp only [Act.put, jA, jB, jC, jD, jE, jF]
                refine wpAnyH_take (i := 17) (v := undef) rfl (by kernel_rfl) (by kernel_rfl) (by kernel_rfl) (fun _ _ _ h => h) (Or.inr ⟨by kernel_rfl, rfl⟩) hHeld1 ?_
                try simp only [Act.put, jA, jB, jC, jD, jE, jF]
                refine wpAnyH_take (i := 18) (v := undef) rfl (by kernel_rfl) (by kernel_rfl) (by kernel_rfl) (fun _ _ _ h => h) (Or.inr ⟨by kernel_rfl, rfl⟩) hHeld1 ?_
                try simp only [Act.put, jA, jB, jC, jD, jE, jF]
                refine wpAnyH_take (i := 19) (v := undef) rfl (by kernel_rfl) (by kernel_rfl) (by kernel_rfl) (fun _ _ _ h => h) (Or.inr ⟨by kernel_rfl, rfl⟩) hHeld1 ?_
                try simp only [Act.put, jA, jB, jC, jD, jE, jF]
                refine wpAnyH_take (i := 20) (v := undef) rfl (by kernel_rfl) (by kernel_rfl) (by kernel_rfl) (fun _ _ _ h => h) (Or.inr ⟨by kernel_rfl, rfl⟩) hHeld1 ?_
                try simp only [Act.put, jA, jB, jC, jD, jE, jF]
                refine wpAnyH_take (i := 21) (v := undef) rfl (by kernel_rfl) (by kernel_rfl) (by kernel_rfl) (fun _ _ _ h => h) (Or.inr ⟨by kernel_rfl, rfl⟩) hHeld1 ?_
                try simp only [Act.put, jA, jB, jC, jD, jE, jF]
                refine wpAnyH_take (i := 22) (v := undef) rfl (by kernel_rfl) (by kernel_rfl) (by kernel_rfl) (fun _ _ _ h => h) (Or.inr ⟨by kernel_rfl, rfl⟩) hHeld1 ?_
                try simp only [Act.put, jA, jB, jC, jD, jE, jF]
                refine wpAnyH_take (i := 23) (v := ?vqtt31) rfl (by kernel_rfl) (by kernel_rfl) (by kernel_rfl) (fun _ _ _ h => h) (Or.inl ⟨by kernel_rfl, ?yqtt31⟩) hHeld1 ?rqtt31
                case yqtt31 => (intro w' hS; (try dsimp only at hS); obtain ⟨s0, s1, s2, s3⟩ := hS; (try go_simp); (try with_reducible rfl))
                try simp only [Act.put, jA, jB, jC, jD, jE, jF]
                refine wpAnyH_take (i := 24) (v := ?vqtt32) rfl (by kernel_rfl) (by kernel_rfl) (by kernel_rfl) (fun _ _ _ h => h) (Or.inl ⟨by kernel_rfl, ?yqtt32⟩) hHeld1 ?rqtt32
                case yqtt32 => (intro w' hS; (try dsimp only at hS); obtain ⟨s0, s1, s2, s3⟩ := hS; (try go_simp); (try with_reducible rfl))
                try simp only [Act.put, jA, jB, jC, jD, jE, jF]
                refine wpAnyH_done (by kernel_rfl) ?_ _
                have hx := hT3.out
                rw [if_neg (fun e => by have h1 := (hdb.out.1 e).2.1; have h2 := HN1.out; omega)] at hx
                replace hx := Lib.hid hx
                clear hT3
                go_wp2
                go_roundw
                (case rel => exact ⟨k + 1, by omega, by go_num, hBn, hx⟩)
                (case measure => simp [intOf]; omega)
            · have hx := hT2.out
              rw [if_neg hvo] at hx
              replace hx := Lib.hid hx
              have HIN := Lib.hid (fun X => (spec_l6In v 0 9 X).mono (fun e w' (h : e = .returned (.bool (valB v)) ∧ X = w') => (show e = .returned (.bool false) ∧ X = w' from by rw [show valB v = false from by simpa using hvo] at h; exact h)))
              clear hT2 hvo
              refine wp_region_held_drew (S := fun X => X.cell? ⟨w.heap.size, 1, none⟩ = some (.slice (some ⟨db, dO, none⟩) 6 d) ∧ X.cell? ⟨db, dO + k, none⟩ = some (.int .i64 v) ∧ X.cell? ⟨R, 0, none⟩ = some (.int .i64 r.kind) ∧ X.cell? ⟨R, 3, none⟩ = some (.int .i64 r.val)) (by kernel_rfl) ⟨y1, cv, z0, z3⟩ (fun hHeld0 => ?_)
              refine wpAnyH_take (i := 0) (v := ?vqtf1) rfl (by kernel_rfl) (by kernel_rfl) (by kernel_rfl) (fun _ _ _ h => h) (Or.inl ⟨by kernel_rfl, ?yqtf1⟩) hHeld0 ?rqtf1
              case yqtf1 => (intro w' hS; (try dsimp only at hS); obtain ⟨s0, s1, s2, s3⟩ := hS; (try go_simp); (try with_reducible rfl))
              try simp only [Act.put, jA, jB, jC, jD, jE, jF]
              refine wpAnyH_take (i := 1) (v := ?vqtf2) rfl (by kernel_rfl) (by kernel_rfl) (by kernel_rfl) (fun _ _ _ h => h) (Or.inl ⟨by kernel_rfl, ?yqtf2⟩) hHeld0 ?rqtf2
              case yqtf2 => (intro w' hS; (try dsimp only at hS); obtain ⟨s0, s1, s2, s3⟩ := hS; (try go_simp); (try with_reducible rfl))
              try simp only [Act.put, jA, jB, jC, jD, jE, jF]
              refine wpAnyH_take (i := 2) (v := ?vqtf3) rfl (by kernel_rfl) (by kernel_rfl) (by kernel_rfl) (fun _ _ _ h => h) (Or.inl ⟨by kernel_rfl, ?yqtf3⟩) hHeld0 ?rqtf3
              case yqtf3 => (intro w' hS; (try dsimp only at hS); obtain ⟨s0, s1, s2, s3⟩ := hS; (try go_simp); (try with_reducible rfl))
              try simp only [Act.put, jA, jB, jC, jD, jE, jF]
              refine wpAnyH_take (i := 3) (v := ?vqtf4) rfl (by kernel_rfl) (by kernel_rfl) (by kernel_rfl) (fun _ _ _ h => h) (Or.inl ⟨by kernel_rfl, ?yqtf4⟩) hHeld0 ?rqtf4
              case yqtf4 => (intro w' hS; (try dsimp only at hS); obtain ⟨s0, s1, s2, s3⟩ := hS; (try go_simp); (try with_reducible rfl))
              try simp only [Act.put, jA, jB, jC, jD, jE, jF]
              refine wpAnyH_take (i := 4) (v := ?vqtf5) rfl (by kernel_rfl) (by kernel_rfl) (by kernel_rfl) (fun _ _ _ h => h) (Or.inl ⟨by kernel_rfl, ?yqtf5⟩) hHeld0 ?rqtf5
              case yqtf5 => (intro w' hS; (try dsimp only at hS); obtain ⟨s0, s1, s2, s3⟩ := hS; (try go_simp); (try with_reducible rfl))
              try simp only [Act.put, jA, jB, jC, jD, jE, jF]
              refine wpAnyH_ready (rs := [5]) (by kernel_rfl) (by simp) ?_
              refine AllReadyH.cons rfl (fun K hK => ?_) AllReadyH.nil
              go_simp
              refine (HIN.out _).mono ?_
              rintro e x1 ⟨rfl, rfl⟩
              go_wp2_with fail
              refine hK.out _ _ ((by first | exact hHeld0 | (obtain ⟨a1, a2, a3, a4⟩ := hHeld0; exact ⟨a1, a2, a3, a4⟩))) (fun hHeld1 => ?_)
              clear hK K
              try simp only [Act.put, jA, jB, jC, jD, jE, jF]
              refine wpAnyH_take (i := 6) (v := ?vqtf6) rfl (by kernel_rfl) (by kernel_rfl) (by kernel_rfl) (fun _ _ _ h => h) (Or.inl ⟨by kernel_rfl, ?yqtf6⟩) hHeld1 ?rqtf6
              case yqtf6 => (intro w' hS; (try dsimp only at hS); obtain ⟨s0, s1, s2, s3⟩ := hS; (try go_simp); (try with_reducible rfl))
              try simp only [Act.put, jA, jB, jC, jD, jE, jF]
              refine wpAnyH_take (i := 7) (v := ?vqtf7) rfl (by kernel_rfl) (by kernel_rfl) (by kernel_rfl) (fun _ _ _ h => h) (Or.inl ⟨by kernel_rfl, ?yqtf7⟩) hHeld1 ?rqtf7
              case yqtf7 => (intro w' hS; (try dsimp only at hS); obtain ⟨s0, s1, s2, s3⟩ := hS; (try go_simp); (try with_reducible rfl))
              try simp only [Act.put, jA, jB, jC, jD, jE, jF]
              refine wpAnyH_take (i := 8) (v := undef) rfl (by kernel_rfl) (by kernel_rfl) (by kernel_rfl) (fun _ _ _ h => h) (Or.inr ⟨by kernel_rfl, rfl⟩) hHeld1 ?_
              try simp only [Act.put, jA, jB, jC, jD, jE, jF]
              refine wpAnyH_take (i := 9) (v := undef) rfl (by kernel_rfl) (by kernel_rfl) (by kernel_rfl) (fun _ _ _ h => h) (Or.inr ⟨by kernel_rfl, rfl⟩) hHeld1 ?_
              try simp only [Act.put, jA, jB, jC, jD, jE, jF]
              refine wpAnyH_take (i := 10) (v := undef) rfl (by kernel_rfl) (by kernel_rfl) (by kernel_rfl) (fun _ _ _ h => h) (Or.inr ⟨by kernel_rfl, rfl⟩) hHeld1 ?_
              try simp only [Act.put, jA, jB, jC, jD, jE, jF]
              refine wpAnyH_take (i := 11) (v := undef) rfl (by kernel_rfl) (by kernel_rfl) (by kernel_rfl) (fun _ _ _ h => h) (Or.inr ⟨by kernel_rfl, rfl⟩) hHeld1 ?_
              try simp only [Act.put, jA, jB, jC, jD, jE, jF]
              refine wpAnyH_take (i := 12) (v := undef) rfl (by kernel_rfl) (by kernel_rfl) (by kernel_rfl) (fun _ _ _ h => h) (Or.inr ⟨by kernel_rfl, rfl⟩) hHeld1 ?_
              try simp only [Act.put, jA, jB, jC, jD, jE, jF]
              refine wpAnyH_take (i := 13) (v := undef) rfl (by kernel_rfl) (by kernel_rfl) (by kernel_rfl) (fun _ _ _ h => h) (Or.inr ⟨by kernel_rfl, rfl⟩) hHeld1 ?_
              try simp only [Act.put, jA, jB, jC, jD, jE, jF]
              refine wpAnyH_take (i := 14) (v := undef) rfl (by kernel_rfl) (by kernel_rfl) (by kernel_rfl) (fun _ _ _ h => h) (Or.inr ⟨by kernel_rfl, rfl⟩) hHeld1 ?_
              try simp only [Act.put, jA, jB, jC, jD, jE, jF]
              refine wpAnyH_take (i := 15) (v := undef) rfl (by kernel_rfl) (by kernel_rfl) (by kernel_rfl) (fun _ _ _ h => h) (Or.inr ⟨by kernel_rfl, rfl⟩) hHeld1 ?_
              try simp only [Act.put, jA, jB, jC, jD, jE, jF]
              refine wpAnyH_take (i := 16) (v := undef) rfl (by kernel_rfl) (by kernel_rfl) (by kernel_rfl) (fun _ _ _ h => h) (Or.inr ⟨by kernel_rfl, rfl⟩) hHeld1 ?_
              try simp only [Act.put, jA, jB, jC, jD, jE, jF]
              refine wpAnyH_take (i := 17) (v := undef) rfl (by kernel_rfl) (by kernel_rfl) (by kernel_rfl) (fun _ _ _ h => h) (Or.inr ⟨by kernel_rfl, rfl⟩) hHeld1 ?_
              try simp only [Act.put, jA, jB, jC, jD, jE, jF]
              refine wpAnyH_take (i := 18) (v := undef) rfl (by kernel_rfl) (by kernel_rfl) (by kernel_rfl) (fun _ _ _ h => h) (Or.inr ⟨by kernel_rfl, rfl⟩) hHeld1 ?_
              try simp only [Act.put, jA, jB, jC, jD, jE, jF]
              refine wpAnyH_take (i := 19) (v := undef) rfl (by kernel_rfl) (by kernel_rfl) (by kernel_rfl) (fun _ _ _ h => h) (Or.inr ⟨by kernel_rfl, rfl⟩) hHeld1 ?_
              try simp only [Act.put, jA, jB, jC, jD, jE, jF]
              refine wpAnyH_take (i := 20) (v := undef) rfl (by kernel_rfl) (by kernel_rfl) (by kernel_rfl) (fun _ _ _ h => h) (Or.inr ⟨by kernel_rfl, rfl⟩) hHeld1 ?_
              try simp only [Act.put, jA, jB, jC, jD, jE, jF]
              refine wpAnyH_take (i := 21) (v := undef) rfl (by kernel_rfl) (by kernel_rfl) (by kernel_rfl) (fun _ _ _ h => h) (Or.inr ⟨by kernel_rfl, rfl⟩) hHeld1 ?_
              try simp only [Act.put, jA, jB, jC, jD, jE, jF]
              refine wpAnyH_take (i := 22) (v := undef) rfl (by kernel_rfl) (by kernel_rfl) (by kernel_rfl) (fun _ _ _ h => h) (Or.inr ⟨by kernel_rfl, rfl⟩) hHeld1 ?_
              try simp only [Act.put, jA, jB, jC, jD, jE, jF]
              refine wpAnyH_take (i := 23) (v := undef) rfl (by kernel_rfl) (by kernel_rfl) (by kernel_rfl) (fun _ _ _ h => h) (Or.inr ⟨by kernel_rfl, rfl⟩) hHeld1 ?_
              try simp only [Act.put, jA, jB, jC, jD, jE, jF]
              refine wpAnyH_take (i := 24) (v := ?vqtf8) rfl (by kernel_rfl) (by kernel_rfl) (by kernel_rfl) (fun _ _ _ h => h) (Or.inl ⟨by kernel_rfl, ?yqtf8⟩) hHeld1 ?rqtf8
              case yqtf8 => (intro w' hS; (try dsimp only at hS); obtain ⟨s0, s1, s2, s3⟩ := hS; (try go_simp); (try with_reducible rfl))
              try simp only [Act.put, jA, jB, jC, jD, jE, jF]
              refine wpAnyH_done (by kernel_rfl) ?_ _
              go_wp2
              go_ret
              exact ⟨ret_bool (by rw [hfin2.out, hx.out]), hBf⟩
          · have dr : decide (0 < r.seq) = false := decide_eq_false hr
            have HR := Lib.hid hr
            clear hr
            go_wp2
            (try rw [hR])
            by_cases hvo : valB v = true
            · have hx := hT2.out
              rw [if_pos hvo, if_neg (fun e => by have h1 := (hdb.out.1 e).1; have h2 := HR.out; omega)] at hx
              replace hx := Lib.hid hx
              have HIN := Lib.hid (fun X => (spec_l6In v 0 9 X).mono (fun e w' (h : e = .returned (.bool (valB v)) ∧ X = w') => (show e = .returned (.bool true) ∧ X = w' from by rw [hvo] at h; exact h)))
              clear hT2 hvo
              refine wp_region_held_drew (S := fun X => X.cell? ⟨w.heap.size, 1, none⟩ = some (.slice (some ⟨db, dO, none⟩) 6 d) ∧ X.cell? ⟨db, dO + k, none⟩ = some (.int .i64 v) ∧ X.cell? ⟨R, 0, none⟩ = some (.int .i64 r.kind) ∧ X.cell? ⟨R, 3, none⟩ = some (.int .i64 r.val)) (by kernel_rfl) ⟨y1, cv, z0, z3⟩ (fun hHeld0 => ?_)
              refine wpAnyH_take (i := 0) (v := ?vqft1) rfl (by kernel_rfl) (by kernel_rfl) (by kernel_rfl) (fun _ _ _ h => h) (Or.inl ⟨by kernel_rfl, ?yqft1⟩) hHeld0 ?rqft1
              case yqft1 => (intro w' hS; (try dsimp only at hS); obtain ⟨s0, s1, s2, s3⟩ := hS; (try go_simp); (try with_reducible rfl))
              try simp only [Act.put, jA, jB, jC, jD, jE, jF]
              refine wpAnyH_take (i := 1) (v := ?vqft2) rfl (by kernel_rfl) (by kernel_rfl) (by kernel_rfl) (fun _ _ _ h => h) (Or.inl ⟨by kernel_rfl, ?yqft2⟩) hHeld0 ?rqft2
              case yqft2 => (intro w' hS; (try dsimp only at hS); obtain ⟨s0, s1, s2, s3⟩ := hS; (try go_simp); (try with_reducible rfl))
              try simp only [Act.put, jA, jB, jC, jD, jE, jF]
              refine wpAnyH_take (i := 2) (v := ?vqft3) rfl (by kernel_rfl) (by kernel_rfl) (by kernel_rfl) (fun _ _ _ h => h) (Or.inl ⟨by kernel_rfl, ?yqft3⟩) hHeld0 ?rqft3
              case yqft3 => (intro w' hS; (try dsimp only at hS); obtain ⟨s0, s1, s2, s3⟩ := hS; (try go_simp); (try with_reducible rfl))
              try simp only [Act.put, jA, jB, jC, jD, jE, jF]
              refine wpAnyH_take (i := 3) (v := ?vqft4) rfl (by kernel_rfl) (by kernel_rfl) (by kernel_rfl) (fun _ _ _ h => h) (Or.inl ⟨by kernel_rfl, ?yqft4⟩) hHeld0 ?rqft4
              case yqft4 => (intro w' hS; (try dsimp only at hS); obtain ⟨s0, s1, s2, s3⟩ := hS; (try go_simp); (try with_reducible rfl))
              try simp only [Act.put, jA, jB, jC, jD, jE, jF]
              refine wpAnyH_take (i := 4) (v := ?vqft5) rfl (by kernel_rfl) (by kernel_rfl) (by kernel_rfl) (fun _ _ _ h => h) (Or.inl ⟨by kernel_rfl, ?yqft5⟩) hHeld0 ?rqft5
              case yqft5 => (intro w' hS; (try dsimp only at hS); obtain ⟨s0, s1, s2, s3⟩ := hS; (try go_simp); (try with_reducible rfl))
              try simp only [Act.put, jA, jB, jC, jD, jE, jF]
              refine wpAnyH_ready (rs := [5]) (by kernel_rfl) (by simp) ?_
              refine AllReadyH.cons rfl (fun K hK => ?_) AllReadyH.nil
              go_simp
              refine (HIN.out _).mono ?_
              rintro e x1 ⟨rfl, rfl⟩
              go_wp2_with fail
              refine hK.out _ _ ((by first | exact hHeld0 | (obtain ⟨a1, a2, a3, a4⟩ := hHeld0; exact ⟨a1, a2, a3, a4⟩))) (fun hHeld1 => ?_)
              clear hK K
              try simp only [Act.put, jA, jB, jC, jD, jE, jF]
              refine wpAnyH_take (i := 6) (v := ?vqft6) rfl (by kernel_rfl) (by kernel_rfl) (by kernel_rfl) (fun _ _ _ h => h) (Or.inl ⟨by kernel_rfl, ?yqft6⟩) hHeld1 ?rqft6
              case yqft6 => (intro w' hS; (try dsimp only at hS); obtain ⟨s0, s1, s2, s3⟩ := hS; (try go_simp); (try with_reducible rfl))
              try simp only [Act.put, jA, jB, jC, jD, jE, jF]
              refine wpAnyH_take (i := 7) (v := ?vqft7) rfl (by kernel_rfl) (by kernel_rfl) (by kernel_rfl) (fun _ _ _ h => h) (Or.inl ⟨by kernel_rfl, ?yqft7⟩) hHeld1 ?rqft7
              case yqft7 => (intro w' hS; (try dsimp only at hS); obtain ⟨s0, s1, s2, s3⟩ := hS; (try go_simp); (try with_reducible rfl))
              try simp only [Act.put, jA, jB, jC, jD, jE, jF]
              refine wpAnyH_take (i := 8) (v := ?vqft8) rfl (by kernel_rfl) (by kernel_rfl) (by kernel_rfl) (fun _ _ _ h => h) (Or.inl ⟨by kernel_rfl, ?yqft8⟩) hHeld1 ?rqft8
              case yqft8 => (intro w' hS; (try dsimp only at hS); obtain ⟨s0, s1, s2, s3⟩ := hS; (try go_simp); (try with_reducible rfl))
              try simp only [Act.put, jA, jB, jC, jD, jE, jF]
              refine wpAnyH_take (i := 9) (v := ?vqft9) rfl (by kernel_rfl) (by kernel_rfl) (by kernel_rfl) (fun _ _ _ h => h) (Or.inl ⟨by kernel_rfl, ?yqft9⟩) hHeld1 ?rqft9
              case yqft9 => (intro w' hS; (try dsimp only at hS); obtain ⟨s0, s1, s2, s3⟩ := hS; (try go_simp); (try with_reducible rfl))
              try simp only [Act.put, jA, jB, jC, jD, jE, jF]
              refine wpAnyH_take (i := 10) (v := undef) rfl (by kernel_rfl) (by kernel_rfl) (by kernel_rfl) (fun _ _ _ h => h) (Or.inr ⟨by kernel_rfl, rfl⟩) hHeld1 ?_
              try simp only [Act.put, jA, jB, jC, jD, jE, jF]
              refine wpAnyH_take (i := 11) (v := undef) rfl (by kernel_rfl) (by kernel_rfl) (by kernel_rfl) (fun _ _ _ h => h) (Or.inr ⟨by kernel_rfl, rfl⟩) hHeld1 ?_
              try simp only [Act.put, jA, jB, jC, jD, jE, jF]
              refine wpAnyH_take (i := 12) (v := undef) rfl (by kernel_rfl) (by kernel_rfl) (by kernel_rfl) (fun _ _ _ h => h) (Or.inr ⟨by kernel_rfl, rfl⟩) hHeld1 ?_
              try simp only [Act.put, jA, jB, jC, jD, jE, jF]
              refine wpAnyH_take (i := 13) (v := ?vqft10) rfl (by kernel_rfl) (by kernel_rfl) (by kernel_rfl) (fun _ _ _ h => h) (Or.inl ⟨by kernel_rfl, ?yqft10⟩) hHeld1 ?rqft10
              case yqft10 => (intro w' hS; (try dsimp only at hS); obtain ⟨s0, s1, s2, s3⟩ := hS; (try go_simp); (try with_reducible rfl))
              try simp only [Act.put, jA, jB, jC, jD, jE, jF]
              refine wpAnyH_take (i := 14) (v := ?vqft11) rfl (by kernel_rfl) (by kernel_rfl) (by kernel_rfl) (fun _ _ _ h => h) (Or.inl ⟨by kernel_rfl, ?yqft11⟩) hHeld1 ?rqft11
              case yqft11 => (intro w' hS; (try dsimp only at hS); obtain ⟨s0, s1, s2, s3⟩ := hS; (try go_simp); (try with_reducible rfl))
              try simp only [Act.put, jA, jB, jC, jD, jE, jF]
              refine wpAnyH_take (i := 15) (v := undef) rfl (by kernel_rfl) (by kernel_rfl) (by kernel_rfl) (fun _ _ _ h => h) (Or.inr ⟨by kernel_rfl, rfl⟩) hHeld1 ?_
              try simp only [Act.put, jA, jB, jC, jD, jE, jF]
              refine wpAnyH_take (i := 16) (v := undef) rfl (by kernel_rfl) (by kernel_rfl) (by kernel_rfl) (fun _ _ _ h => h) (Or.inr ⟨by kernel_rfl, rfl⟩) hHeld1 ?_
              try simp only [Act.put, jA, jB, jC, jD, jE, jF]
              refine wpAnyH_take (i := 17) (v := undef) rfl (by kernel_rfl) (by kernel_rfl) (by kernel_rfl) (fun _ _ _ h => h) (Or.inr ⟨by kernel_rfl, rfl⟩) hHeld1 ?_
              try simp only [Act.put, jA, jB, jC, jD, jE, jF]
              refine wpAnyH_take (i := 18) (v := undef) rfl (by kernel_rfl) (by kernel_rfl) (by kernel_rfl) (fun _ _ _ h => h) (Or.inr ⟨by kernel_rfl, rfl⟩) hHeld1 ?_
              try simp only [Act.put, jA, jB, jC, jD, jE, jF]
              refine wpAnyH_take (i := 19) (v := undef) rfl (by kernel_rfl) (by kernel_rfl) (by kernel_rfl) (fun _ _ _ h => h) (Or.inr ⟨by kernel_rfl, rfl⟩) hHeld1 ?_
              try simp only [Act.put, jA, jB, jC, jD, jE, jF]
              refine wpAnyH_take (i := 20) (v := undef) rfl (by kernel_rfl) (by kernel_rfl) (by kernel_rfl) (fun _ _ _ h => h) (Or.inr ⟨by kernel_rfl, rfl⟩) hHeld1 ?_
              try simp only [Act.put, jA, jB, jC, jD, jE, jF]
              refine wpAnyH_take (i := 21) (v := undef) rfl (by kernel_rfl) (by kernel_rfl) (by kernel_rfl) (fun _ _ _ h => h) (Or.inr ⟨by kernel_rfl, rfl⟩) hHeld1 ?_
              try simp only [Act.put, jA, jB, jC, jD, jE, jF]
              refine wpAnyH_take (i := 22) (v := undef) rfl (by kernel_rfl) (by kernel_rfl) (by kernel_rfl) (fun _ _ _ h => h) (Or.inr ⟨by kernel_rfl, rfl⟩) hHeld1 ?_
              try simp only [Act.put, jA, jB, jC, jD, jE, jF]
              refine wpAnyH_take (i := 23) (v := ?vqft12) rfl (by kernel_rfl) (by kernel_rfl) (by kernel_rfl) (fun _ _ _ h => h) (Or.inl ⟨by kernel_rfl, ?yqft12⟩) hHeld1 ?rqft12
              case yqft12 => (intro w' hS; (try dsimp only at hS); obtain ⟨s0, s1, s2, s3⟩ := hS; (try go_simp); (try with_reducible rfl))
              try simp only [Act.put, jA, jB, jC, jD, jE, jF]
              refine wpAnyH_take (i := 24) (v := ?vqft13) rfl (by kernel_rfl) (by kernel_rfl) (by kernel_rfl) (fun _ _ _ h => h) (Or.inl ⟨by kernel_rfl, ?yqft13⟩) hHeld1 ?rqft13
              case yqft13 => (intro w' hS; (try dsimp only at hS); obtain ⟨s0, s1, s2, s3⟩ := hS; (try go_simp); (try with_reducible rfl))
              try simp only [Act.put, jA, jB, jC, jD, jE, jF]
              refine wpAnyH_done (by kernel_rfl) ?_ _
              go_wp2
              go_roundw
              (case rel => exact ⟨k + 1, by omega, by go_num, hBn, hx⟩)
              (case measure => simp [intOf]; omega)
            · have hx := hT2.out
              rw [if_neg hvo] at hx
              replace hx := Lib.hid hx
              have HIN := Lib.hid (fun X => (spec_l6In v 0 9 X).mono (fun e w' (h : e = .returned (.bool (valB v)) ∧ X = w') => (show e = .returned (.bool false) ∧ X = w' from by rw [show valB v = false from by simpa using hvo] at h; exact h)))
              clear hT2 hvo
              refine wp_region_held_drew (S := fun X => X.cell? ⟨w.heap.size, 1, none⟩ = some (.slice (some ⟨db, dO, none⟩) 6 d) ∧ X.cell? ⟨db, dO + k, none⟩ = some (.int .i64 v) ∧ X.cell? ⟨R, 0, none⟩ = some (.int .i64 r.kind) ∧ X.cell? ⟨R, 3, none⟩ = some (.int .i64 r.val)) (by kernel_rfl) ⟨y1, cv, z0, z3⟩ (fun hHeld0 => ?_)
              refine wpAnyH_take (i := 0) (v := ?vqff1) rfl (by kernel_rfl) (by kernel_rfl) (by kernel_rfl) (fun _ _ _ h => h) (Or.inl ⟨by kernel_rfl, ?yqff1⟩) hHeld0 ?rqff1
              case yqff1 => (intro w' hS; (try dsimp only at hS); obtain ⟨s0, s1, s2, s3⟩ := hS; (try go_simp); (try with_reducible rfl))
              try simp only [Act.put, jA, jB, jC, jD, jE, jF]
              refine wpAnyH_take (i := 1) (v := ?vqff2) rfl (by kernel_rfl) (by kernel_rfl) (by kernel_rfl) (fun _ _ _ h => h) (Or.inl ⟨by kernel_rfl, ?yqff2⟩) hHeld0 ?rqff2
              case yqff2 => (intro w' hS; (try dsimp only at hS); obtain ⟨s0, s1, s2, s3⟩ := hS; (try go_simp); (try with_reducible rfl))
              try simp only [Act.put, jA, jB, jC, jD, jE, jF]
              refine wpAnyH_take (i := 2) (v := ?vqff3) rfl (by kernel_rfl) (by kernel_rfl) (by kernel_rfl) (fun _ _ _ h => h) (Or.inl ⟨by kernel_rfl, ?yqff3⟩) hHeld0 ?rqff3
              case yqff3 => (intro w' hS; (try dsimp only at hS); obtain ⟨s0, s1, s2, s3⟩ := hS; (try go_simp); (try with_reducible rfl))
              try simp only [Act.put, jA, jB, jC, jD, jE, jF]
              refine wpAnyH_take (i := 3) (v := ?vqff4) rfl (by kernel_rfl) (by kernel_rfl) (by kernel_rfl) (fun _ _ _ h => h) (Or.inl ⟨by kernel_rfl, ?yqff4⟩) hHeld0 ?rqff4
              case yqff4 => (intro w' hS; (try dsimp only at hS); obtain ⟨s0, s1, s2, s3⟩ := hS; (try go_simp); (try with_reducible rfl))
              try simp only [Act.put, jA, jB, jC, jD, jE, jF]
              refine wpAnyH_take (i := 4) (v := ?vqff5) rfl (by kernel_rfl) (by kernel_rfl) (by kernel_rfl) (fun _ _ _ h => h) (Or.inl ⟨by kernel_rfl, ?yqff5⟩) hHeld0 ?rqff5
              case yqff5 => (intro w' hS; (try dsimp only at hS); obtain ⟨s0, s1, s2, s3⟩ := hS; (try go_simp); (try with_reducible rfl))
              try simp only [Act.put, jA, jB, jC, jD, jE, jF]
              refine wpAnyH_ready (rs := [5]) (by kernel_rfl) (by simp) ?_
              refine AllReadyH.cons rfl (fun K hK => ?_) AllReadyH.nil
              go_simp
              refine (HIN.out _).mono ?_
              rintro e x1 ⟨rfl, rfl⟩
              go_wp2_with fail
              refine hK.out _ _ ((by first | exact hHeld0 | (obtain ⟨a1, a2, a3, a4⟩ := hHeld0; exact ⟨a1, a2, a3, a4⟩))) (fun hHeld1 => ?_)
              clear hK K
              try simp only [Act.put, jA, jB, jC, jD, jE, jF]
              refine wpAnyH_take (i := 6) (v := ?vqff6) rfl (by kernel_rfl) (by kernel_rfl) (by kernel_rfl) (fun _ _ _ h => h) (Or.inl ⟨by kernel_rfl, ?yqff6⟩) hHeld1 ?rqff6
              case yqff6 => (intro w' hS; (try dsimp only at hS); obtain ⟨s0, s1, s2, s3⟩ := hS; (try go_simp); (try with_reducible rfl))
              try simp only [Act.put, jA, jB, jC, jD, jE, jF]
              refine wpAnyH_take (i := 7) (v := ?vqff7) rfl (by kernel_rfl) (by kernel_rfl) (by kernel_rfl) (fun _ _ _ h => h) (Or.inl ⟨by kernel_rfl, ?yqff7⟩) hHeld1 ?rqff7
              case yqff7 => (intro w' hS; (try dsimp only at hS); obtain ⟨s0, s1, s2, s3⟩ := hS; (try go_simp); (try with_reducible rfl))
              try simp only [Act.put, jA, jB, jC, jD, jE, jF]
              refine wpAnyH_take (i := 8) (v := undef) rfl (by kernel_rfl) (by kernel_rfl) (by kernel_rfl) (fun _ _ _ h => h) (Or.inr ⟨by kernel_rfl, rfl⟩) hHeld1 ?_
              try simp only [Act.put, jA, jB, jC, jD, jE, jF]
              refine wpAnyH_take (i := 9) (v := undef) rfl (by kernel_rfl) (by kernel_rfl) (by kernel_rfl) (fun _ _ _ h => h) (Or.inr ⟨by kernel_rfl, rfl⟩) hHeld1 ?_
              try simp only [Act.put, jA, jB, jC, jD, jE, jF]
              refine wpAnyH_take (i := 10) (v := undef) rfl (by kernel_rfl) (by kernel_rfl) (by kernel_rfl) (fun _ _ _ h => h) (Or.inr ⟨by kernel_rfl, rfl⟩) hHeld1 ?_
              try simp only [Act.put, jA, jB, jC, jD, jE, jF]
              refine wpAnyH_take (i := 11) (v := undef) rfl (by kernel_rfl) (by kernel_rfl) (by kernel_rfl) (fun _ _ _ h => h) (Or.inr ⟨by kernel_rfl, rfl⟩) hHeld1 ?_
              try simp only [Act.put, jA, jB, jC, jD, jE, jF]
              refine wpAnyH_take (i := 12) (v := undef) rfl (by kernel_rfl) (by kernel_rfl) (by kernel_rfl) (fun _ _ _ h => h) (Or.inr ⟨by kernel_rfl, rfl⟩) hHeld1 ?_
              try simp only [Act.put, jA, jB, jC, jD, jE, jF]
              refine wpAnyH_take (i := 13) (v := undef) rfl (by kernel_rfl) (by kernel_rfl) (by kernel_rfl) (fun _ _ _ h => h) (Or.inr ⟨by kernel_rfl, rfl⟩) hHeld1 ?_
              try simp only [Act.put, jA, jB, jC, jD, jE, jF]
              refine wpAnyH_take (i := 14) (v := undef) rfl (by kernel_rfl) (by kernel_rfl) (by kernel_rfl) (fun _ _ _ h => h) (Or.inr ⟨by kernel_rfl, rfl⟩) hHeld1 ?_
              try simp only [Act.put, jA, jB, jC, jD, jE, jF]
              refine wpAnyH_take (i := 15) (v := undef) rfl (by kernel_rfl) (by kernel_rfl) (by kernel_rfl) (fun _ _ _ h => h) (Or.inr ⟨by kernel_rfl, rfl⟩) hHeld1 ?_
              try simp only [Act.put, jA, jB, jC, jD, jE, jF]
              refine wpAnyH_take (i := 16) (v := undef) rfl (by kernel_rfl) (by kernel_rfl) (by kernel_rfl) (fun _ _ _ h => h) (Or.inr ⟨by kernel_rfl, rfl⟩) hHeld1 ?_
              try simp only [Act.put, jA, jB, jC, jD, jE, jF]
              refine wpAnyH_take (i := 17) (v := undef) rfl (by kernel_rfl) (by kernel_rfl) (by kernel_rfl) (fun _ _ _ h => h) (Or.inr ⟨by kernel_rfl, rfl⟩) hHeld1 ?_
              try simp only [Act.put, jA, jB, jC, jD, jE, jF]
              refine wpAnyH_take (i := 18) (v := undef) rfl (by kernel_rfl) (by kernel_rfl) (by kernel_rfl) (fun _ _ _ h => h) (Or.inr ⟨by kernel_rfl, rfl⟩) hHeld1 ?_
              try simp only [Act.put, jA, jB, jC, jD, jE, jF]
              refine wpAnyH_take (i := 19) (v := undef) rfl (by kernel_rfl) (by kernel_rfl) (by kernel_rfl) (fun _ _ _ h => h) (Or.inr ⟨by kernel_rfl, rfl⟩) hHeld1 ?_
              try simp only [Act.put, jA, jB, jC, jD, jE, jF]
              refine wpAnyH_take (i := 20) (v := undef) rfl (by kernel_rfl) (by kernel_rfl) (by kernel_rfl) (fun _ _ _ h => h) (Or.inr ⟨by kernel_rfl, rfl⟩) hHeld1 ?_
              try simp only [Act.put, jA, jB, jC, jD, jE, jF]
              refine wpAnyH_take (i := 21) (v := undef) rfl (by kernel_rfl) (by kernel_rfl) (by kernel_rfl) (fun _ _ _ h => h) (Or.inr ⟨by kernel_rfl, rfl⟩) hHeld1 ?_
              try simp only [Act.put, jA, jB, jC, jD, jE, jF]
              refine wpAnyH_take (i := 22) (v := undef) rfl (by kernel_rfl) (by kernel_rfl) (by kernel_rfl) (fun _ _ _ h => h) (Or.inr ⟨by kernel_rfl, rfl⟩) hHeld1 ?_
              try simp only [Act.put, jA, jB, jC, jD, jE, jF]
              refine wpAnyH_take (i := 23) (v := undef) rfl (by kernel_rfl) (by kernel_rfl) (by kernel_rfl) (fun _ _ _ h => h) (Or.inr ⟨by kernel_rfl, rfl⟩) hHeld1 ?_
              try simp only [Act.put, jA, jB, jC, jD, jE, jF]
              refine wpAnyH_take (i := 24) (v := ?vqff8) rfl (by kernel_rfl) (by kernel_rfl) (by kernel_rfl) (fun _ _ _ h => h) (Or.inl ⟨by kernel_rfl, ?yqff8⟩) hHeld1 ?rqff8
              case yqff8 => (intro w' hS; (try dsimp only at hS); obtain ⟨s0, s1, s2, s3⟩ := hS; (try go_simp); (try with_reducible rfl))
              try simp only [Act.put, jA, jB, jC, jD, jE, jF]
              refine wpAnyH_done (by kernel_rfl) ?_ _
              go_wp2
              go_ret
              exact ⟨ret_bool (by rw [hfin2.out, hx.out]), hBf⟩
        · have hk6 : (6 : Int) ≤ (k : Int) := by omega
          have hx : Hid (diskGo s.flash 0 s.disk = true) := by rw [Hid, hT.out, List.drop_of_length_le (by rw [H6.out]; omega)]; rfl
          clear hT
          go_wp2
          go_ret
          exact ⟨ret_bool (by rw [hfin2.out, hx.out]), hB1.trans (hB.mono (by omega))⟩
    · have hfin2 : Hid (storeOk s = false) := by rw [Hid, hfin.out, if_neg h6]
      have h6' : ((s.disk.length : Int) != 6) = true := by rw [bne_iff_ne]; omega
      clear h6 hfin
      go_wp2
      go_ret
      exact ⟨ret_bool hfin2.out.symm, hB1⟩
  · have hfin2 : Hid (storeOk s = false) := by unfold Hid storeOk; rw [if_neg hord]; split <;> rfl
    rw [show findOrderI s.flash = false from by simpa using hord]
    clear hord
    go_wp2
    go_ret
    exact ⟨ret_bool hfin2.out.symm, hB1⟩
end Go.Proofs.Ytbekihiiildgmaa
namespace Go.Proofs.Ytbekihiiildgmaa
set_option linter.unusedVariables false
set_option linter.unusedSimpArgs false
open Go.RowKit Go.Maps
set_option maxHeartbeats 400000
theorem Row.putInt {w w' : World} {b o k : Nat} {xs : List Int} {x : Int} (h : Row w (some ⟨b, o, none⟩) (ints xs)) (hk : k < xs.length) (hw : Wrote w w' b (o + k) [.int .i64 x]) : Row w' (some ⟨b, o, none⟩) (ints (xs.set k x)) := by
  rw [ints_set]
  exact hw.row h (by rw [ints_len]; simp; omega)
theorem storeOk_parts {s : St} (h : storeOk s = true) : s.disk.length = 6 ∧ findOrderI s.flash = true ∧ diskGo s.flash 0 s.disk = true := by
  unfold storeOk at h
  split at h
  · rename_i h1
    split at h
    · rename_i h2; exact ⟨h1, h2, h⟩
    · cases h
  · cases h
/-- the values of all addresses from k on -/
def valsFrom (s : St) : Nat → Nat → List Int
  | _, 0 => []
  | k, n + 1 => readV s ((k : Int) + 1) :: valsFrom s (k + 1) n
def allV (s : St) : List Int := valsFrom s 0 6
theorem allV_len (s : St) : (allV s).length = 6 := rfl
theorem valsFrom_get (s : St) : ∀ (n k j : Nat), j < n → (valsFrom s k n)[j]? = some (readV s (((k + j : Nat) : Int) + 1))
  | 0, _, _, h => by omega
  | n + 1, k, 0, _ => by simp [valsFrom]
  | n + 1, k, j + 1, h => by
    rw [valsFrom, List.getElem?_cons_succ, valsFrom_get s n (k + 1) j (by omega)]
    congr 3
    omega
theorem allV_get (s : St) {j : Nat} (h : j < 6) : (allV s)[j]? = some (readV s ((j : Int) + 1)) := by
  have := valsFrom_get s 6 0 j h
  rw [Nat.zero_add] at this
  exact this
theorem vals_step {xs : List Int} {k : Nat} {v : Int} (h6 : xs.length = 6) (hk : k < 6) (hv : xs[k]? = some v) (u : Int) :
    ((xs.take k ++ (List.replicate 6 (0 : Int)).drop k).set k u).set k v = xs.take (k + 1) ++ (List.replicate 6 (0 : Int)).drop (k + 1) := by
  rw [List.set_set]
  exact copy_step 0 xs 6 k v hv h6
set_option maxHeartbeats 4000000 in
set_option maxRecDepth 100000 in
theorem impl_StoreAll (s : St) (A D : Option Addr) (n m c d : Nat) (w : World) (hn : n = s.flash.length) (hm : m = s.disk.length) (hF : Fl w A s.flash) (hD : Row w D (ints s.disk)) :
    Calls Try.prog 20 #[.agg #[.slice A n c, .slice D m d]] w fun e w' => Below w.heap.size w w' ∧
      (storeOk s = true ∧ (∃ g, e = .returned (.slice (some ⟨g, 0, none⟩) 6 6) ∧ w.heap.size ≤ g ∧ Row w' (some ⟨g, 0, none⟩) (ints (allV s))) ∨ storeOk s = false ∧ e = .returned (.slice none 0 0)) := by
  subst hn; subst hm
  have hmk := make_disk
  have hB0 : Below w.heap.size w (w.alloc (.cells #[.slice A s.flash.length c, .slice D s.disk.length d] 26)) := (Below.refl _ _).alloc (Nat.le_refl _) _
  have hF0 := hF.below hB0 (Nat.le_refl _)
  have hD0 := hD.below hB0 (Nat.le_refl _)
  go_enter Try.func20, Try.ntmps20
  go_wp2_with fail
  refine (impl_StoreOk s A D _ _ c d _ rfl rfl hF0 hD0).mono ?_
  rintro e w1 ⟨rfl, hb⟩
  have hs1 := hb.size
  simp only [World.size_alloc] at hs1
  have x0 : w1.cell? ⟨w.heap.size, 0, none⟩ = some (.slice A s.flash.length c) := (hb.cell (p := ⟨w.heap.size, 0, none⟩) (by simp)).trans (by simp)
  have x1 : w1.cell? ⟨w.heap.size, 1, none⟩ = some (.slice D s.disk.length d) := (hb.cell (p := ⟨w.heap.size, 1, none⟩) (by simp)).trans (by simp)
  have hF1 := hF0.below hb (Nat.le_refl _)
  have hD1 := hD0.below hb (Nat.le_refl _)
  have hB1 := hB0.trans (hb.mono (by simp))
  clear hb hF0 hD0 hB0
  by_cases hsok : storeOk s = true
  · obtain ⟨h6, hord, _⟩ := storeOk_parts hsok
    have hok := order_ok hord
    have HSOK := Lib.hid hsok
    have hlm := Lib.hid (fun a => lastMap_eq hok a)
    have H6 := Lib.hid h6
    obtain ⟨db, dO, rfl⟩ := hD1.addr (ints_ne' (by intro e; rw [e] at h6; simp at h6))
    rw [hsok]
    rw [h6] at x1
    clear hsok hord
    go_wp2_with fail
    refine (impl_lastRecords s.flash A _ c _ rfl hok hF1).mono ?_
    rintro e w2 ⟨rfl, hM, hb⟩
    have hs2 := hb.size
    replace x0 := (hb.cell (p := ⟨w.heap.size, 0, none⟩) (by show w.heap.size < _; omega)).trans x0
    replace x1 := (hb.cell (p := ⟨w.heap.size, 1, none⟩) (by show w.heap.size < _; omega)).trans x1
    have hD2 := (hD1.below hb (Nat.le_refl _)).alloc (.cells #[.int .i64 0, .int .i64 0, .int .i64 0, .int .i64 0, .int .i64 0, .int .i64 0] 3)
    have hB2 := (hB1.trans (hb.mono (by omega))).alloc (by omega) (.cells #[.int .i64 0, .int .i64 0, .int .i64 0, .int .i64 0, .int .i64 0, .int .i64 0] 3)
    have hMl := hM.lt
    replace hM := hM.alloc (.cells #[.int .i64 0, .int .i64 0, .int .i64 0, .int .i64 0, .int .i64 0, .int .i64 0] 3)
    have hwn : w.heap.size < w2.heap.size := by omega
    have x1' : (w2.alloc (.cells #[.int .i64 0, .int .i64 0, .int .i64 0, .int .i64 0, .int .i64 0, .int .i64 0] 3)).cell? ⟨w.heap.size, 1, none⟩ = some (.slice (some ⟨db, dO, none⟩) 6 d) := (((Below.refl w2.heap.size w2).alloc (Nat.le_refl _) _).cell (p := ⟨w.heap.size, 1, none⟩) hwn).trans x1
    have hR0 : Row (w2.alloc (.cells #[.int .i64 0, .int .i64 0, .int .i64 0, .int .i64 0, .int .i64 0, .int .i64 0] 3)) (some ⟨w2.heap.size, 0, none⟩) (ints ((allV s).take 0 ++ (List.replicate 6 (0 : Int)).drop 0)) := Row.new w2 _ _
    have hdb : db < w2.heap.size := by
      obtain ⟨v, hv⟩ := get_some (l := s.disk) (k := 0) (by omega)
      have := lt_of_cell (hD1.int_ hv).1
      omega
    have hs3 : (w2.alloc (.cells #[.int .i64 0, .int .i64 0, .int .i64 0, .int .i64 0, .int .i64 0, .int .i64 0] 3)).heap.size = w2.heap.size + 1 := by simp
    clear hb hF1 hD1 hB1 hok h6
    go_wp2
    obtain ⟨W, hW⟩ : ∃ W, w2.alloc (.cells #[.int .i64 0, .int .i64 0, .int .i64 0, .int .i64 0, .int .i64 0, .int .i64 0] 3) = W := ⟨_, rfl⟩
    rw [hW] at hD2 hB2 hM x1' hR0 hs3 ⊢
    clear hW hmk x0 x1
    go_loopw [19] (fun i wr => ∃ k : Nat, k ≤ 6 ∧ i = .int .i64 k ∧ Agr (· = w2.heap.size) W wr ∧ Row wr (some ⟨w2.heap.size, 0, none⟩) (ints ((allV s).take k ++ (List.replicate 6 (0 : Int)).drop k))) (fun i _ => 6 - (intOf i).toNat)
    case atStart => exact ⟨0, by omega, rfl, Agr.refl _ _, hR0⟩
    case round =>
      obtain ⟨k, hk, rfl, hA, hR⟩ := hrel
      by_cases hlt : k < 6
      · obtain ⟨v, hv⟩ := get_some (l := s.disk) (k := k) (by rw [H6.out]; exact hlt)
        obtain ⟨cv, _⟩ := (hD2.agr hA (fun b hb => by rw [blk_some] at hb; omega)).int_ hv
        have hk1 : (k : Int) < 6 := by omega
        have e1 : IntKind.i64.wrap ((k : Int) + 1) = (k : Int) + 1 := IntWalk.i64_in _ (by omega)
        have hgd : s.disk.getD k 0 = v := by rw [List.getD_eq_getElem?_getD, hv]; rfl
        have hrv : Hid (readV s ((k : Int) + 1) = if 0 < (last s.flash ((k : Int) + 1)).seq then (last s.flash ((k : Int) + 1)).val else v) := by unfold Hid readV; rw [show ((k : Int) + 1 - 1).toNat = k by omega, hgd]
        have hlen : ((allV s).take k ++ (List.replicate 6 (0 : Int)).drop k).length = 6 := by simp [allV_len]; omega
        obtain ⟨q, hq⟩ := get_some (l := (allV s).take k ++ (List.replicate 6 (0 : Int)).drop k) (k := k) (by omega)
        obtain ⟨c0, f0⟩ := hR.int_ hq
        rw [Nat.zero_add] at c0 f0
        have hW1 := wrote_one c0 (.int .i64 v)
        have hR1 := hR.putInt (k := k) (x := v) (by omega) (by rw [Nat.zero_add]; exact hW1)
        have hA1 := hA.trans hW1.agr (fun _ _ h => h)
        have hlk := (show RMap Try.prog 3 (wr.setCell ⟨w2.heap.size, k, none⟩ (.int .i64 v)) w1.heap.size 16 (lastMap (allFrom 0 s.flash)) from by
          obtain ⟨Dm, ⟨es, ck, e, r⟩, h2⟩ := hM
          exact ⟨Dm, ⟨es, ck, (hA1.block w1.heap.size (by omega) (by omega)).trans e, r⟩, h2⟩).look_ok (t := 86) Try.underlying86 Try.underlying3 zero_rec (k := (k : Int) + 1) (wf_int (by omega))
        rw [hlm.out] at hlk
        have hstep := Lib.hid (fun (r : Int) (h : readV s ((k : Int) + 1) = r) => vals_step (xs := allV s) (k := k) (v := r) rfl hlt (by rw [allV_get s hlt, h]) v)
        have hR1' := Lib.hid hR1
        have hA1' := Lib.hid hA1
        have hsz := hA.size
        clear hv hgd hq hlen hR hW1 hR1 hA1
        generalize last s.flash ((k : Int) + 1) = r at *
        unfold rcV at hlk
        by_cases hr : 0 < r.seq
        · rw [foundR_some hr] at hlk
          simp only [Option.getD_some, Option.isSome_some] at hlk
          have hx := hstep.out r.val (by rw [hrv.out, if_pos hr])
          have hlen2 : (((allV s).take k ++ (List.replicate 6 (0 : Int)).drop k).set k v).length = 6 := by simp [allV_len]; omega
          have hRa := hR1'.out.alloc (.cells #[.int .i64 r.kind, .int .i64 r.seq, .int .i64 r.addr, .int .i64 r.val] 45)
          obtain ⟨q, hq⟩ := get_some (l := ((allV s).take k ++ (List.replicate 6 (0 : Int)).drop k).set k v) (k := k) (by omega)
          obtain ⟨d0, g0⟩ := hRa.int_ hq
          have hW2 := wrote_one d0 (.int .i64 r.val)
          have hR2 := hRa.putInt (k := k) (x := r.val) (by omega) hW2
          rw [hx] at hR2
          have hA2 := (hA1'.out.alloc (.cells #[.int .i64 r.kind, .int .i64 r.seq, .int .i64 r.addr, .int .i64 r.val] 45)).trans hW2.agr (fun _ _ h => h)
          rw [Nat.zero_add] at d0 g0 hR2 hA2
          clear hq hlen2 hRa hW2 hr hx hrv hstep
          go_wp2
          go_roundw
          (case rel => exact ⟨k + 1, by omega, by go_num, hA2, hR2⟩)
          (case measure => simp [intOf]; omega)
        · simp only [foundR_none hr, Option.getD_none, Option.isSome_none, rc0] at hlk
          have hx := hstep.out v (by rw [hrv.out, if_neg hr])
          rw [List.set_set] at hx
          have hRa := hR1'.out.alloc (.cells #[.int .i64 0, .int .i64 0, .int .i64 0, .int .i64 0] 45)
          rw [hx] at hRa
          have hA2 := hA1'.out.alloc (.cells #[.int .i64 0, .int .i64 0, .int .i64 0, .int .i64 0] 45)
          clear hr hx hrv hstep
          go_wp2
          go_roundw
          (case rel => exact ⟨k + 1, by omega, by go_num, hA2, hRa⟩)
          (case measure => simp [intOf]; omega)
      · have hk4 : (6 : Int) ≤ (k : Int) := by omega
        have hkk : k = 6 := by omega
        have hRf : Row wr (some ⟨w2.heap.size, 0, none⟩) (ints (allV s)) := by rw [hkk] at hR; exact hR
        have hBf := hB2.trans (hA.below (B := w.heap.size) (by omega) (fun i hi => by omega))
        clear hR hkk
        go_wp2
        go_ret
        exact ⟨hBf, .inl ⟨HSOK.out, _, rfl, by omega, hRf⟩⟩
  · have hsok' : storeOk s = false := by simpa using hsok
    have HN := Lib.hid hsok'
    rw [hsok']
    clear hsok hsok'
    go_wp2
    go_ret
    exact ⟨hB1, .inr ⟨HN.out, rfl⟩⟩
/-- a row of whole numbers of one's own, in a block from base on -/
def OwnI (w : World) (base : Nat) (v : Value) (xs : List Int) : Prop := w.ownsRow base 3 1 v xs.length (ints xs)
theorem OwnI.below {w w' : World} {base B : Nat} {v : Value} {xs : List Int} (h : OwnI w base v xs) (hb : Below B w w') (hB : w.heap.size ≤ B) : OwnI w' base v xs := ownsRow_keep h fun b _ hl => hb.block b (by omega)
theorem OwnI.agr {w w' : World} {base : Nat} {v : Value} {xs : List Int} {S : Nat → Prop} (h : OwnI w base v xs) (hb : Agr S w w') (hS : ∀ b, base ≤ b → ¬ S b) : OwnI w' base v xs := by
  refine ownsRow_keep h fun b hbl hl => hb.block b hl (hS b ?_)
  exact (World.ownsRow.lt h b hbl).1
theorem OwnI.alloc {w : World} {base : Nat} {v : Value} {xs : List Int} (h : OwnI w base v xs) (o : Obj) : OwnI (w.alloc o) base v xs := h.below (B := w.heap.size) ((Below.refl _ _).alloc (Nat.le_refl _) _) (Nat.le_refl _)
theorem OwnI.nil (w : World) (base : Nat) : OwnI w base (.slice none 0 0) [] := World.ownsRow_nil w base _ _
theorem OwnI.snoc {w : World} {base g n c : Nat} {xs : List Int} {x : Int} (hn : n = xs.length + 1) (h : w.ownsRow base 3 1 (.slice (some ⟨g, 0, none⟩) (xs.length + 1) c) (xs.length + 1) (ints xs ++ [.int .i64 x])) : OwnI w base (.slice (some ⟨g, 0, none⟩) n c) (xs ++ [x]) := by
  subst hn
  unfold OwnI ints
  rw [List.length_append, List.map_append]
  exact h
/-- a slice of one's own, written out -/
theorem OwnI.out {w : World} {base : Nat} {v : Value} {xs : List Int} (h : OwnI w base v xs) : ∃ A c, v = .slice A xs.length c ∧ Row w A (ints xs) ∧ (∀ b, blk A b → base ≤ b ∧ b < w.heap.size) ∧ xs.length ≤ c := by
  have h' := h
  obtain ⟨hl, ⟨hv, hz⟩ | ⟨g, cap, cur, hv, hb, hh, hnc, hm, hs, ht⟩⟩ := h
  · have hxs : xs = [] := List.eq_nil_of_length_eq_zero hz
    subst hxs
    exact ⟨none, 0, hv, Row.nil _ _, (fun b hb => by cases hb), Nat.le_refl _⟩
  · refine ⟨some ⟨g, 0, none⟩, cap, hv, ?_, fun b hb' => ?_, hnc⟩
    · rw [hv] at h'; exact Row.of_own h'
    · rw [blk_some] at hb'
      subst hb'
      exact ⟨hb, (Array.getElem?_eq_some_iff.1 hh).1⟩
end Go.Proofs.Ytbekihiiildgmaa
namespace Go.Proofs.Ytbekihiiildgmaa
set_option linter.unusedVariables false
set_option linter.unusedSimpArgs false
open Go.RowKit Go.Maps
set_option maxHeartbeats 400000
theorem OwnI.lit (w : World) (base : Nat) (hb : base ≤ w.heap.size) : OwnI (w.alloc (.cells #[] 3)) base (.slice (some ⟨w.heap.size, 0, none⟩) 0 0) [] := World.ownsRow_lit w #[] 0 hb (by unfold maxLen; omega) rfl
def allSp (s : St) : List Int := if storeOk s = true then allV s else []
theorem laws_lqInts (A A' : Option Addr) (n m c c' : Nat) (xs ys : List Int) (w : World) (hn : n = xs.length) (hm : m = ys.length) (hl : xs.length < 1000000000000) (hR : Row w A (ints xs)) (hR' : Row w A' (ints ys)) :
    Calls Try.prog 30 #[.slice A n c, .slice A' m c'] w fun e w' => e = .returned (.bool (decide (xs = ys))) ∧ Below w.heap.size w w' := by
  subst hn; subst hm
  by_cases hlen : xs.length = ys.length
  · have HL := Lib.hid hlen
    rw [← hlen]
    clear hlen
    go_enter Try.func30, Try.ntmps30
    go_wp2
    go_loopw [5] (fun i wr => ∃ k : Nat, k ≤ xs.length ∧ i = .int .i64 k ∧ Below w.heap.size w wr ∧ Hid (decide (xs = ys) = decide (xs.drop k = ys.drop k))) (fun i _ => xs.length - (intOf i).toNat)
    case atStart => exact ⟨0, by omega, rfl, Below.refl _ _, rfl⟩
    case round =>
      obtain ⟨k, hk, rfl, hB, hT⟩ := hrel
      by_cases hlt : k < xs.length
      · obtain ⟨x, hx⟩ := get_some hlt
        obtain ⟨y, hy⟩ := get_some (l := ys) (k := k) (by rw [← HL.out]; exact hlt)
        obtain ⟨b, o, rfl⟩ := hR.addr (ints_ne' (by intro e; rw [e] at hx; simp at hx))
        obtain ⟨b', o', rfl⟩ := hR'.addr (ints_ne' (by intro e; rw [e] at hy; simp at hy))
        obtain ⟨c0, _⟩ := (hR.below hB (Nat.le_refl _)).int_ hx
        obtain ⟨d0, _⟩ := (hR'.below hB (Nat.le_refl _)).int_ hy
        have hk1 : (k : Int) < xs.length := by omega
        have e1 : IntKind.i64.wrap ((k : Int) + 1) = (k : Int) + 1 := IntWalk.i64_in _ (by omega)
        have hT2 : Hid (decide (xs = ys) = decide (x :: xs.drop (k + 1) = y :: ys.drop (k + 1))) := by rw [Hid, hT.out, drop_cons hx, drop_cons hy]
        clear hx hy hT
        by_cases he : x = y
        · subst he
          have hz : Hid (decide (xs = ys) = decide (xs.drop (k + 1) = ys.drop (k + 1))) := by rw [Hid, hT2.out]; simp
          clear hT2
          go_wp2
          go_quiet (fail)
          have hBq := below_drewN hB nq
          go_wp2
          go_roundw
          (case rel => exact ⟨k + 1, by omega, by go_num, hBq, hz⟩)
          (case measure => simp [intOf]; omega)
        · have hz : Hid (decide (xs = ys) = false) := by rw [Hid, hT2.out]; simp [he]
          have hne : (x != y) = true := by rw [bne_iff_ne]; exact he
          clear hT2 he
          go_wp2
          go_quiet (fail)
          have hBq := below_drewN hB nq
          go_wp2
          go_ret
          exact ⟨ret_bool hz.out.symm, hBq⟩
      · have hk4 : (xs.length : Int) ≤ (k : Int) := by omega
        have hz : Hid (decide (xs = ys) = true) := by rw [Hid, hT.out, List.drop_of_length_le (by omega), List.drop_of_length_le (by have := HL.out; omega)]; simp
        clear hT
        go_wp2
        go_ret
        exact ⟨ret_bool hz.out.symm, hB⟩
  · have hz : Hid (decide (xs = ys) = false) := by rw [Hid]; exact decide_eq_false (fun e => hlen (by rw [e]))
    have hne : ((xs.length : Int) != (ys.length : Int)) = true := by rw [bne_iff_ne]; omega
    clear hlen
    go_enter Try.func30, Try.ntmps30
    go_wp2
    go_ret
    exact ⟨ret_bool hz.out.symm, Below.refl _ _⟩
end Go.Proofs.Ytbekihiiildgmaa
namespace Go.Proofs.Ytbekihiiildgmaa
set_option linter.unusedVariables false
set_option linter.unusedSimpArgs false
theorem lastPs_none {a : Int} : ∀ {ps : List Pg} {o : Rc}, (∀ p ∈ ps, p.state ≠ 1) → lastPs a o ps = o
  | [], _, _ => rfl
  | p :: ps, o, h => by
    show lastPs a (lastStep a o p) ps = o
    have : lastStep a o p = o := by unfold lastStep; rw [if_neg (fun e => h p (List.mem_cons_self ..) e.1)]
    rw [this]
    exact lastPs_none fun q hq => h q (List.mem_cons_of_mem _ hq)
theorem last_none : ∀ {f : List Bk} {a : Int} {o : Rc}, (∀ b ∈ f, ∀ p ∈ b.pages, p.state ≠ 1) → f.foldl (fun o b => lastPs a o b.pages) o = o
  | [], _, _, _ => rfl
  | b :: f, a, o, h => by
    rw [List.foldl_cons, lastPs_none (h b (List.mem_cons_self ..))]
    exact last_none fun c hc => h c (List.mem_cons_of_mem _ hc)
theorem new_pages : ∀ b ∈ flashNew, ∀ p ∈ b.pages, p.state ≠ 1 := by decide
theorem last_new (a : Int) : last flashNew a = rc0 := last_none new_pages
theorem order_new : findOrderI flashNew = true := by decide
theorem diskGo_new : ∀ {xs : List Int} {i : Nat}, (∀ v ∈ xs, valB v = true) → diskGo flashNew i xs = true
  | [], _, _ => rfl
  | x :: xs, i, h => by
    unfold diskGo
    rw [if_pos (h x (List.mem_cons_self ..)), if_neg]
    · exact diskGo_new fun v hv => h v (List.mem_cons_of_mem _ hv)
    · unfold diskBad
      rw [last_new]
      rintro ⟨h0, _⟩
      exact absurd h0 (by decide)
theorem wiped_store {xs : List Int} (h6 : xs.length = 6) (hv : ∀ v ∈ xs, valB v = true) : storeOk ⟨flashNew, xs⟩ = true := by
  unfold storeOk
  rw [if_pos h6, if_pos order_new]
  exact diskGo_new hv
theorem disk0_vals : ∀ v ∈ disk0, valB v = true := by decide
theorem new_ok : storeOk ⟨flashNew, disk0⟩ = true := wiped_store rfl disk0_vals
end Go.Proofs.Ytbekihiiildgmaa
