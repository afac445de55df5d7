/- Words: a map of records that the call makes. Walk: the program's lastRecords. Plain laws: it holds the last record of each address. -/
import Derived.Test.YtfkjhnfbajflaaaH6
import Derived.Test.YtfkjhnfbajflaaaE5
namespace Go.Proofs.Ytfkjhnfbajflaaa
set_option linter.unusedVariables false
set_option linter.unusedSimpArgs false
open Go.RowKit Go.Maps Go.Shelf
attribute [local go_sem] Oper.semAt_some
set_option maxHeartbeats 400000
def rcV (r : Rc) : Value := .agg #[.int .i64 r.kind, .int .i64 r.seq, .int .i64 r.addr, .int .i64 r.val]
def recD (r : Rc) : DataW Unit := .agg [.lit (.int .i64 r.kind), .lit (.int .i64 r.seq), .lit (.int .i64 r.addr), .lit (.int .i64 r.val)]
def recL : List Value → Option Rc
  | [.int .i64 a, .int .i64 b, .int .i64 c, .int .i64 d] => some ⟨a, b, c, d⟩
  | _ => none
def recElem (v : Value) : Option (DataW Unit × List MemPlace) := match v with
  | .agg cs => (recL cs.toList).map fun r => (recD r, [])
  | _ => none
theorem recElem_mk (r : Rc) : recElem (rcV r) = some (recD r, []) := rfl
theorem recL_inv {l : List Value} {r : Rc} (h : recL l = some r) : l = [.int .i64 r.kind, .int .i64 r.seq, .int .i64 r.addr, .int .i64 r.val] := by
  unfold recL at h
  split at h
  · cases h; rfl
  · cases h
theorem recD_inj {r s : Rc} (h : recD r = recD s) : r = s := by
  unfold recD at h
  cases r; cases s
  simp only [DataW.agg.injEq, List.cons.injEq, DataW.lit.injEq, Lit.int.injEq, true_and, and_true] at h
  obtain ⟨rfl, rfl, rfl, rfl⟩ := h
  rfl
theorem recElem_inv {v : Value} {r : Rc} {ps : List MemPlace} (h : recElem v = some (recD r, ps)) : v = rcV r := by
  unfold recElem at h
  cases v with
  | agg cs =>
    dsimp only at h
    cases hl : recL cs.toList with
    | none => rw [hl] at h; cases h
    | some s =>
      rw [hl] at h
      simp only [Option.map_some, Option.some.injEq, Prod.mk.injEq] at h
      have hr := recD_inj h.1
      subst hr
      have := recL_inv hl
      unfold rcV
      rw [← this]
  | _ => cases h
/-- block b is a map from int to records (type K of its keys) of at most n entries, that answers F -/
def RMap (P : Program) (K : TypeId) (w : World) (b n : Nat) (F : Int → Option Rc) : Prop :=
  ∃ D : DataW Unit, w.ownsMap P K recElem b n D ∧ IsMap D ∧ ∀ k, (Lit.int .i64 k).wf = true → D.atKey (.int .i64 k) (recD rc0) = recD ((F k).getD rc0) ∧ has D (.int .i64 k) = (F k).isSome
section
variable {P : Program} {t K E : TypeId} {w w' : World} {b n : Nat} {F : Int → Option Rc}
theorem RMap.made (P : Program) (K : TypeId) (w : World) : RMap P K (w.alloc (.map #[] 0)) w.heap.size 0 (fun _ => none) := ⟨_, World.ownsMap_made _ _ _ _, isMap_empty, fun k _ => ⟨rfl, rfl⟩⟩
theorem RMap.mono (h : RMap P K w b n F) {m : Nat} (hm : n ≤ m) : RMap P K w b m F := by
  obtain ⟨D, h1, h2⟩ := h; exact ⟨D, h1.mono hm, h2⟩
theorem RMap.lt (h : RMap P K w b n F) : b < w.heap.size := by obtain ⟨D, h1, _⟩ := h; exact h1.lt
theorem RMap.at_ (h : RMap P K w b n F) : ∃ es clock, w.heap[b]? = some (.map es clock) := by obtain ⟨D, ⟨es, clock, e, _⟩, _⟩ := h; exact ⟨es, clock, e⟩
theorem RMap.below {B : Nat} (h : RMap P K w b n F) (hb : Below B w w') (hB : b < B) : RMap P K w' b n F := by
  obtain ⟨D, ⟨es, clock, e, r⟩, h2⟩ := h
  exact ⟨D, ⟨es, clock, (hb.block b hB).trans e, r⟩, h2⟩
theorem RMap.kept {row : Option Nat} (h : RMap P K w b n F) (hg : w.grownBy w' row) (hne : some b ≠ row) : RMap P K w' b n F := by
  obtain ⟨D, h1, h2⟩ := h; exact ⟨D, h1.kept hg hne, h2⟩
theorem RMap.alloc (h : RMap P K w b n F) (o : Obj) : RMap P K (w.alloc o) b n F := by
  obtain ⟨D, h1, h2⟩ := h; exact ⟨D, h1.alloc o, h2⟩
theorem RMap.look (h : RMap P K w b n F) (ht : P.underlying t = some (.map K E)) (hK : P.underlying K = some (.int .i64)) (hz : ∀ w : World, (zeroValue E).run P w = .ok (rcV rc0) w) {k : Int} (hk : (Lit.int .i64 k).wf = true) :
    (Instr.lookup t (.map (some b)) (.int .i64 k) false).run P w = .ok (rcV ((F k).getD rc0)) w := by
  obtain ⟨D, h1, _, h3⟩ := h
  obtain ⟨v, ps, hrun, hv⟩ := h1.lookup (int_keyed hK) ht (hz w) (recElem_mk rc0) (keyOf_int_mk hK hk)
  rw [(h3 k hk).1] at hv
  rw [hrun, recElem_inv hv]
theorem RMap.look_ok (h : RMap P K w b n F) (ht : P.underlying t = some (.map K E)) (hK : P.underlying K = some (.int .i64)) (hz : ∀ w : World, (zeroValue E).run P w = .ok (rcV rc0) w) {k : Int} (hk : (Lit.int .i64 k).wf = true) :
    (Instr.lookup t (.map (some b)) (.int .i64 k) true).run P w = .ok (.tuple #[rcV ((F k).getD rc0), .bool (F k).isSome]) w := by
  obtain ⟨D, h1, _, h3⟩ := h
  obtain ⟨v, ps, hrun, hv⟩ := h1.look_ok (int_keyed hK) ht (hz w) (recElem_mk rc0) (keyOf_int_mk hK hk)
  rw [(h3 k hk).1] at hv
  rw [(h3 k hk).2] at hrun
  rw [hrun, recElem_inv hv]
theorem RMap.put (h : RMap P K w b n F) (ht : P.underlying t = some (.map K E)) (hK : P.underlying K = some (.int .i64)) (hn : n < maxLen) {k : Int} (r : Rc) (hk : (Lit.int .i64 k).wf = true) :
    ∃ w', (Instr.mapUpdate t (.map (some b)) (.int .i64 k) (rcV r)).run P w = .ok () w' ∧ RMap P K w' b (n + 1) (fun x => if x = k then some r else F x) ∧ w.grownBy w' (some b) := by
  obtain ⟨D, h1, h2, h3⟩ := h
  obtain ⟨w', hrun, g1, g2⟩ := h1.update (int_keyed hK) ht hn (keyOf_int_mk hK hk) (recElem_mk r)
  refine ⟨w', hrun, ⟨_, g1, h2.put _ _, fun x hx => ?_⟩, g2⟩
  dsimp only
  by_cases e : x = k
  · subst e
    rw [if_pos rfl, atKey_put_same h2 (isKeyLit_int _ hk), has_put_same h2 (isKeyLit_int _ hk)]
    exact ⟨rfl, rfl⟩
  · have hne : Lit.int .i64 x ≠ Lit.int .i64 k := by intro e'; injection e' with _ e''; exact e e''
    rw [if_neg e, atKey_put_other hne, has_put_other hne]
    exact h3 x hx
end
/-! ### what the program's map holds -/
def lmStep (F : Int → Option Rc) (x : PgAt) : Int → Option Rc :=
  if x.2.2.state = 1 ∧ ((F x.2.2.rc.addr).getD rc0).seq < x.2.2.rc.seq then fun a => if a = x.2.2.rc.addr then some x.2.2.rc else F a else F
def lastMap (pre : List PgAt) : Int → Option Rc := pre.foldl lmStep (fun _ => none)
theorem lastMap_snoc (pre : List PgAt) (x : PgAt) : lastMap (pre ++ [x]) = lmStep (lastMap pre) x := by unfold lastMap; rw [List.foldl_append]; rfl
def foundR (r : Rc) : Option Rc := if 0 < r.seq then some r else none
theorem foundR_getD {r : Rc} (h : r = rc0 ∨ 0 < r.seq) : (foundR r).getD rc0 = r := by
  unfold foundR
  split
  · rfl
  · rcases h with rfl | h
    · rfl
    · contradiction
theorem lm_step {F : Int → Option Rc} {o : Int → Rc} {x : PgAt} (hx : pageOk x.2.2 = true) (h : ∀ a, F a = foundR (o a)) (h0 : ∀ a, o a = rc0 ∨ 0 < (o a).seq) (a : Int) :
    lmStep F x a = foundR (lastStep a (o a) x.2.2) ∧ (lastStep a (o a) x.2.2 = rc0 ∨ 0 < (lastStep a (o a) x.2.2).seq) := by
  have hL0 : ∀ r : Rc, ¬ (x.2.2.state = 1 ∧ x.2.2.rc.addr = a ∧ r.seq < x.2.2.rc.seq) → lastStep a r x.2.2 = r := fun r hr => by unfold lastStep; rw [if_neg hr]
  by_cases hc : x.2.2.state = 1 ∧ (o x.2.2.rc.addr).seq < x.2.2.rc.seq
  · have hs := (recOk_addr (rec_of_written hx hc.1)).2.2.2.2.1
    have hM : lmStep F x = fun a => if a = x.2.2.rc.addr then some x.2.2.rc else F a := by unfold lmStep; rw [h, foundR_getD (h0 _), if_pos hc]
    rw [hM]
    by_cases ha : a = x.2.2.rc.addr
    · have hL : lastStep a (o a) x.2.2 = x.2.2.rc := by rw [ha]; unfold lastStep; rw [if_pos ⟨hc.1, rfl, hc.2⟩]
      rw [hL]
      exact ⟨by dsimp only; rw [if_pos ha]; unfold foundR; rw [if_pos (by omega)], .inr (by omega)⟩
    · rw [hL0 _ (fun e => ha e.2.1.symm)]
      exact ⟨by dsimp only; rw [if_neg ha]; exact h a, h0 a⟩
  · have hM : lmStep F x = F := by unfold lmStep; rw [h, foundR_getD (h0 _), if_neg hc]
    rw [hM, hL0 _ (fun e => hc ⟨e.1, by rw [e.2.1]; exact e.2.2⟩)]
    exact ⟨h a, h0 a⟩
theorem lm_tag : ∀ (ps : List Pg) (i j : Nat) (F : Int → Option Rc) (o : Int → Rc), (∀ p ∈ ps, pageOk p = true) → (∀ a, F a = foundR (o a)) → (∀ a, o a = rc0 ∨ 0 < (o a).seq) →
    ∀ a, (tagFrom i j ps).foldl lmStep F a = foundR (lastPs a (o a) ps) ∧ (lastPs a (o a) ps = rc0 ∨ 0 < (lastPs a (o a) ps).seq)
  | [], _, _, F, o, _, h, h0, a => ⟨h a, h0 a⟩
  | p :: ps, i, j, F, o, hp, h, h0, a => by
    have hst := fun a => lm_step (x := (i, j, p)) (hp p (List.mem_cons_self ..)) h h0 a
    rw [tagFrom, List.foldl_cons]
    exact lm_tag ps i (j + 1) (lmStep F (i, j, p)) (fun a => lastStep a (o a) p) (fun q hq => hp q (List.mem_cons_of_mem _ hq)) (fun a => (hst a).1) (fun a => (hst a).2) a
theorem lm_all : ∀ (f : List Bk) (i : Nat) (F : Int → Option Rc) (o : Int → Rc), (∀ b ∈ f, ∀ p ∈ b.pages, pageOk p = true) → (∀ a, F a = foundR (o a)) → (∀ a, o a = rc0 ∨ 0 < (o a).seq) →
    ∀ a, (allFrom i f).foldl lmStep F a = foundR (f.foldl (fun o b => lastPs a o b.pages) (o a))
  | [], _, F, o, _, h, _, a => h a
  | b :: f, i, F, o, hp, h, h0, a => by
    have hst := fun a => lm_tag b.pages i 0 F o (hp b (List.mem_cons_self ..)) h h0 a
    rw [allFrom, List.foldl_append]
    exact lm_all f (i + 1) _ (fun a => lastPs a (o a) b.pages) (fun c hc => hp c (List.mem_cons_of_mem _ hc)) (fun a => (hst a).1) (fun a => (hst a).2) a
theorem lastMap_eq {f : List Bk} (h : flashOk f = true) (a : Int) : lastMap (allFrom 0 f) a = foundR (last f a) :=
  lm_all f 0 (fun _ => none) (fun _ => rc0) (fun b hb => (bk_parts h hb).2.2.2) (fun _ => rfl) (fun _ => .inl rfl) a
theorem tag_len (i : Nat) : ∀ (ps : List Pg) (j : Nat), (tagFrom i j ps).length = ps.length
  | [], _ => rfl
  | _ :: ps, j => by rw [tagFrom, List.length_cons, tag_len i ps, List.length_cons]
theorem all_len : ∀ (f : List Bk) (i : Nat), (∀ b ∈ f, b.pages.length = 4) → (allFrom i f).length = 4 * f.length
  | [], _, _ => rfl
  | b :: f, i, h => by
    rw [allFrom, List.length_append, tag_len, all_len f (i + 1) (fun c hc => h c (List.mem_cons_of_mem _ hc)), h b (List.mem_cons_self ..), List.length_cons]
    omega
theorem zero_rec (w : World) : (zeroValue 35).run Try.prog w = .ok (rcV rc0) w := by kernel_rfl
theorem field_seq (a b c d : Int) (w : World) : (Instr.field 35 (.agg #[.int .i64 a, .int .i64 b, .int .i64 c, .int .i64 d]) 1).run Try.prog w = .ok (.int .i64 b) w := by kernel_rfl
theorem wf_int {k : Int} (h : -1000 ≤ k ∧ k ≤ 1000) : (Lit.int .i64 k).wf = true := by
  have h1 : IntKind.i64.min ≤ k := Int.le_trans (by decide) h.1
  have h2 : k ≤ IntKind.i64.max := Int.le_trans h.2 (by decide)
  simp only [Lit.wf, Bool.and_eq_true, decide_eq_true_iff]
  exact ⟨h1, h2⟩
/-! ### the walk -/
abbrev PgOf (f : List Bk) := { x : PgAt // x ∈ allFrom 0 f }
theorem eachPageF_stops (F : Fence) (n : Nat) (hF : F.fn 67) (hro : F.round = none) (hn : 1 ≤ n) (Bs n₀ g o c : Nat) (f : List Bk) (hs : List (Option Addr × Nat)) (w : World) (hB : Bs < w.heap.size) (hn₀ : n₀ ≤ w.heap.size)
    (hBs : w.cell? ⟨Bs, 0, none⟩ = some (.slice (some ⟨g, o, none⟩) f.length c)) (hl : f.length < 1000000000000) (hp : ∀ b ∈ f, b.pages.length < 1000000000000)
    (hBk : Bks w (some ⟨g, o, none⟩) f hs) (hlow : ∀ b, fblk (some ⟨g, o, none⟩) hs b → b < n₀) :
    SeqStopsK F n Try.prog 67 #[.pointer (some ⟨Bs, 0, none⟩)] (fun x : PgOf f => encP x.1) (Below n₀) (fun ys => ys.map Subtype.val = allFrom 0 f) (fun pre => pre.map Subtype.val <+: allFrom 0 f) (allFrom 0 f).length w := fun l J Jx W hW hJ _ hY h0 => by
  refine (eachPage1_in F n hF hro hn l Bs n₀ g o c f hs (fun pre V => ∃ pre' : List (PgOf f), pre'.map Subtype.val = pre ∧ J pre' V) (fun pre V => ∃ pre' : List (PgOf f), pre'.map Subtype.val = pre ∧ Jx pre' V) W (Nat.le_trans hn₀ hW.size)
    (fun s X Y row hs hg hr => by obtain ⟨p, e, h⟩ := hs; exact ⟨p, e, hJ p X Y row h hg hr⟩) (fun pre x W1 h1 h2 h3 => ?_) ((hW.cell (p := ⟨Bs, 0, none⟩) hB).trans hBs) hl hp (hBk.keep fun q hq hl => hW.block q (by omega)) hlow ⟨[], rfl, h0⟩).mono ?_
  · obtain ⟨pre', rfl, hj⟩ := h1
    refine (hY pre' ⟨x, h3.2⟩ W1 hj (by simpa using h2)).mono ?_
    rintro e V (⟨rfl, hj2, hk⟩ | ⟨rfl, hj2⟩)
    · exact .inl ⟨rfl, ⟨_, by simp, hj2⟩, hk⟩
    · exact .inr ⟨rfl, _, by simp, hj2⟩
  · rintro e V ⟨he, ⟨ys, rfl, pre', h1, h2⟩ | ⟨pre, h0, pre', rfl, h2⟩⟩
    · exact ⟨he, .inl ⟨pre', h1, h2⟩⟩
    · exact ⟨he, .inr ⟨pre', h0, h2⟩⟩
theorem page_of {f : List Bk} (h : flashOk f = true) (x : PgOf f) : pageOk x.1.2.2 = true := by
  obtain ⟨b, hb, hx⟩ := mem_all x.2
  exact (bk_parts h hb).2.2.2 _ hx
def lmOf {f : List Bk} (pre : List (PgOf f)) : Int → Option Rc := lastMap (pre.map Subtype.val)
theorem lmOf_snoc {f : List Bk} (pre : List (PgOf f)) (x : PgOf f) : lmOf (pre ++ [x]) = lmStep (lmOf pre) x.1 := by unfold lmOf; rw [List.map_append]; exact lastMap_snoc _ _
theorem rmap_kept {P : Program} {K : TypeId} {f : List Bk} (b n₀ : Nat) (hb : b < n₀) : OwnFrom n₀ (fun (pre : List (PgOf f)) W => RMap P K W b pre.length (lmOf pre)) := fun _ _ _ _ hs hg hr =>
  hs.kept hg (fun e => by have := (hr _ e.symm).1; omega)
set_option maxRecDepth 100000 in
set_option maxHeartbeats 4000000 in
theorem impl_lastRecords (f : List Bk) (A : Option Addr) (n c : Nat) (w : World) (hn : n = f.length) (hok : flashOk f = true) (hF : Fl w A f) :
    Calls Try.prog 53 #[.slice A n c] w fun e w' => e = .returned (.map (some w.heap.size)) ∧ RMap Try.prog 3 w' w.heap.size 16 (lastMap (allFrom 0 f)) ∧ Below w.heap.size w w' := by
  subst hn
  refine (callsIn_wide (n := 6)).1 ?_
  refine callsIn_of_wp_marks Try.func53 rfl trivial ?_ rfl
  simp only [Try.ntmps53, List.size_toArray, List.length_cons, List.length_nil, Nat.reduceAdd, Nat.reduceSub, Array.replicate_succ, Array.replicate_zero, List.push_toArray, List.append_toArray, List.nil_append, List.cons_append]
  have hmm := @run_makeMap Try.prog
  have hfd := field_seq
  have hfl := flashOk_len hok
  have HFL := Lib.hid hfl
  have HOK := Lib.hid hok
  have HP := Lib.hid (show ∀ b ∈ f, b.pages.length < 1000000000000 from fun b hb => by rw [(flashOk_shape hok b hb).1]; omega)
  have HPL := Lib.hid (fun b hb => (flashOk_shape hok b hb).1)
  have HAL := Lib.hid (all_len f 0 HPL.out)
  obtain ⟨hs, hBk⟩ := hF
  obtain ⟨g, o, rfl⟩ := hBk.addr (by intro e; have := HFL.out; rw [e] at this; simp at this)
  clear hfl hok
  gi_wp2_with (refine ⟨trivial, ?_⟩; gi_at_call 49; refine (eachPage_in Fence.wide _ trivial rfl _ _ _ _).mono ?_; rintro e w2 ⟨rfl, rfl⟩)
  have hlow : ∀ b, fblk (some ⟨g, o, none⟩) hs b → b < w.heap.size := fun b hb => by
    have h4 := HFL.out
    rcases hb with hb | ⟨i, x, hx, hb⟩
    · rw [blk_some] at hb
      subst hb
      obtain ⟨B, hB⟩ := get_some (l := f) (k := 0) (by omega)
      obtain ⟨_, _, c0, _⟩ := hBk.at_ hB
      exact lt_of_cell c0
    · obtain ⟨B, hB⟩ := get_some (l := f) (k := i) (by rw [← hBk.len]; exact (List.getElem?_eq_some_iff.1 hx).1)
      have hr := (hBk.pg i B x hB hx).1
      have hn : B.pages ≠ [] := by intro hn; have := HPL.out B (List.mem_of_getElem? hB); rw [hn] at this; simp at this
      obtain ⟨b', o', he, hc⟩ := hr (pgs_ne hn)
      rw [he, blk_some] at hb
      subst hb
      obtain ⟨q, hq⟩ := get_some (l := pgs B.pages) (k := 0) (by rw [pgs_len]; have := List.length_pos_iff.2 hn; omega)
      exact lt_of_cell (hc 0 q hq).1
  have hm0 := ((RMap.made Try.prog 3 w).alloc (.cells #[.map (some w.heap.size)] 77)).alloc (.cells #[.slice (some ⟨g, o, none⟩) f.length c] 23)
  have bS := (Boxed.new (w.alloc (.map #[] 0)) 77 (.map (some w.heap.size))).alloc (.cells #[.slice (some ⟨g, o, none⟩) f.length c] 23)
  have bA := Boxed.new ((w.alloc (.map #[] 0)).alloc (.cells #[.map (some w.heap.size)] 77)) 23 (.slice (some ⟨g, o, none⟩) f.length c)
  simp only [World.size_alloc] at bS bA
  have hB0 : Below w.heap.size w (((w.alloc (.map #[] 0)).alloc (.cells #[.map (some w.heap.size)] 77)).alloc (.cells #[.slice (some ⟨g, o, none⟩) f.length c] 23)) := (((Below.refl _ w).alloc (Nat.le_refl _) _).alloc (by simp) _).alloc (by simp; omega) _
  have hsz : (((w.alloc (.map #[] 0)).alloc (.cells #[.map (some w.heap.size)] 77)).alloc (.cells #[.slice (some ⟨g, o, none⟩) f.length c] 23)).heap.size = w.heap.size + 3 := by simp
  have hBk2 := ((hBk.alloc (.map #[] 0)).alloc (.cells #[.map (some w.heap.size)] 77)).alloc (.cells #[.slice (some ⟨g, o, none⟩) f.length c] 23)
  obtain ⟨W0, hW0⟩ : ∃ W0, ((w.alloc (.map #[] 0)).alloc (.cells #[.map (some w.heap.size)] 77)).alloc (.cells #[.slice (some ⟨g, o, none⟩) f.length c] 23) = W0 := ⟨_, rfl⟩
  rw [hW0] at bS bA hB0 hsz hBk2 hm0 ⊢
  have hl4 : f.length < 1000000000000 := by rw [HFL.out]; omega
  clear hW0 hBk
  refine wpIn_rangeFunc_ownH rfl (by omega) (gf := 67) (lb := #[.pointer (some ⟨w.heap.size + 1 + 1, 0, none⟩)]) rfl trivial (enters_of Try.func67 (by kernel_rfl) rfl)
    (eachPageF_stops Fence.wide _ trivial rfl (by omega) (w.heap.size + 1 + 1) w.heap.size g o c f hs W0 (by omega) (by omega) bA.cell hl4 HP.out hBk2 hlow) belowK_t (belowK_b (by omega)) (Below.refl _ _) (fun _ => rfl)
    (fun pre W => (Boxed W (w.heap.size + 1) 77 (.map (some w.heap.size)) ∧ RMap Try.prog 3 W w.heap.size pre.length (lmOf pre)) ∧ Below w.heap.size w W)
    (fun _ _ _ => False)
    (OwnFrom.and (OwnFrom.and (Own.from (boxed_own _ _ (fun _ => _)) _) (rmap_kept _ _ (by omega))) (ownFrom_below (Nat.le_refl _) (by omega)))
    (fun _ _ _ _ _ hs _ _ => hs)
    ⟨⟨bS, hm0⟩, hB0⟩
    (fun x a' W => ∃ Bx, w.heap.size + 1 < Bx ∧ Laid W Bx 59 (pgv x.1.2.2) ∧ a' = { tmps := #[.slice (some ⟨g, o, none⟩) f.length c, undef, .map none, .pointer (some ⟨w.heap.size + 1, 0, none⟩), undef, .pointer (some ⟨Bx, 0, none⟩), .map (some w.heap.size), .slice (some ⟨g, o, none⟩) f.length c, .func (.func 67) #[] #[.pointer (some ⟨w.heap.size + 1 + 1, 0, none⟩)], .agg #[.int .i64 (x.1.1 : Int), .int .i64 (x.1.2.1 : Int)], .agg (pgv x.1.2.2), undef, undef, undef, undef, undef, undef, undef, undef, undef, undef, undef, undef, undef, undef, undef, undef, undef, undef, undef, undef, undef, undef], defers := [] })
    (fun x a' _ X Y row hs hg hr => by obtain ⟨Bx, h1, h2, h3⟩ := hs; exact ⟨Bx, h1, laid_own Bx _ _ _ () X Y row h2 hg hr, h3⟩)
    ?assign ?body ?done ?stop
  case assign =>
    rintro l pre x W K ⟨⟨bS1, hR1⟩, hB1⟩ hK
    dsimp only [encP]
    gi_wp2
    exact hK _ _ ((KeepsOthers.alloc _ _).from _) ((Below.refl _ W).alloc hB1.size _) ⟨⟨bS1.alloc _, hR1.alloc _⟩, hB1.alloc hB1.size _⟩ ⟨W.heap.size, bS1.lt, World.alloc_heap_new W _, rfl⟩
  case body =>
    rintro l pre x a' W hl ⟨r, hr⟩ ⟨⟨bS1, hR1⟩, hB1⟩ ⟨Bx, hBx, bX, rfl⟩ hlt
    have hpk := page_of HOK.out x
    have cS := bS1.cell
    have x0 : W.cell? ⟨Bx, 0, none⟩ = some (.int .i64 x.1.2.2.state) := bX.cell 0 rfl
    have x1 : W.cell? ⟨Bx, 1, none⟩ = some (.int .i64 x.1.2.2.rc.kind) := bX.cell 1 rfl
    have x2 : W.cell? ⟨Bx, 2, none⟩ = some (.int .i64 x.1.2.2.rc.seq) := bX.cell 2 rfl
    have x3 : W.cell? ⟨Bx, 3, none⟩ = some (.int .i64 x.1.2.2.rc.addr) := bX.cell 3 rfl
    have x4 : W.cell? ⟨Bx, 4, none⟩ = some (.int .i64 x.1.2.2.rc.val) := bX.cell 4 rfl
    have hst : Hid (lmOf (pre ++ [x]) = lmStep (lmOf pre) x.1) := lmOf_snoc pre x
    have hll : (pre ++ [x]).length = pre.length + 1 := by simp
    by_cases h1 : x.1.2.2.state = 1
    · have hra := recOk_addr (rec_of_written hpk h1)
      have hwf := wf_int (k := x.1.2.2.rc.addr) (by omega)
      have hlk := hR1.look (t := 77) Try.underlying77 Try.underlying3 zero_rec hwf
      have hmax : pre.length < maxLen := by have := HAL.out; have := HFL.out; unfold maxLen; omega
      obtain ⟨w1, hrun, hR2, hg⟩ := hR1.put (t := 77) Try.underlying77 Try.underlying3 hmax x.1.2.2.rc hwf
      have HSM := Lib.hid (show lmStep (lmOf pre) x.1 = if (((lmOf pre) x.1.2.2.rc.addr).getD rc0).seq < x.1.2.2.rc.seq then (fun a => if a = x.1.2.2.rc.addr then some x.1.2.2.rc else lmOf pre a) else lmOf pre from by
        unfold lmStep
        by_cases hc : (((lmOf pre) x.1.2.2.rc.addr).getD rc0).seq < x.1.2.2.rc.seq
        · rw [if_pos ⟨h1, hc⟩, if_pos hc]
        · rw [if_neg (fun e => hc e.2), if_neg hc])
      unfold rcV at hlk hrun
      obtain ⟨es, ck, hmap⟩ := hR1.at_
      generalize ((lmOf pre) x.1.2.2.rc.addr).getD rc0 = q at *
      rw [h1] at x0
      clear h1 hra hwf hmax hpk
      by_cases hc : q.seq < x.1.2.2.rc.seq
      · have hH := HSM.out
        rw [if_pos hc] at hH
        replace HSM := Lib.hid hH
        have H2 := Lib.hid hR2
        have HM := Lib.hid hmap
        clear hH hmap hR2
        gi_wp2
        exact ⟨KeepsFrom.of_grownBy hg (fun j e => by cases e; omega), (Below.refl _ W).grown hg hB1.size (fun k e => by cases e; exact Nat.le_refl _),
          ⟨bS1.kept hg (fun e => by injection e with e; omega), by rw [hst.out, HSM.out, hll]; exact H2.out⟩, hB1.grown hg hB1.size (fun k e => by cases e; exact Nat.le_refl _)⟩
      · have hH := HSM.out
        rw [if_neg hc] at hH
        replace HSM := Lib.hid hH
        clear hH hmap hR2 hg hrun
        gi_wp2
        exact ⟨KeepsFrom.refl _ _, Below.refl _ _, ⟨bS1, by rw [hst.out, HSM.out]; exact hR1.mono (by omega)⟩, hB1⟩
    · have hH : lmStep (lmOf pre) x.1 = lmOf pre := by unfold lmStep; rw [if_neg (fun e => h1 e.1)]
      have HSM := Lib.hid hH
      have h1' : (x.1.2.2.state == 1) = false := by simpa using h1
      clear hH h1 hpk
      gi_wp2
      exact ⟨KeepsFrom.refl _ _, Below.refl _ _, ⟨bS1, by rw [hst.out, HSM.out]; exact hR1.mono (by omega)⟩, hB1⟩
  case done =>
    rintro D ys W hD hys ⟨⟨bS1, hR1⟩, hB1⟩ hK
    have cS := bS1.cell
    gi_wp2
    refine ⟨by simp, .inl ⟨_, _, rfl, run_takeDeferred hK, ?_⟩⟩
    have hyl : ys.length ≤ 16 := by have h1 := HAL.out; have h2 := HFL.out; rw [← hys, List.length_map] at h1; omega
    have hRf : RMap Try.prog 3 W w.heap.size 16 (lastMap (allFrom 0 f)) := by rw [← hys]; exact hR1.mono hyl
    exact ⟨_, results_tmp rfl _ _ _, rfl, hRf.kept (grownBy_putObj' _ D _) (fun e => by cases e; omega), hB1.trans (belowK_b (w := w) (Nat.le_refl _) W D _ _ (by omega) hK rfl rfl)⟩
  case stop =>
    rintro D c pre W _ _ h _
    exact h.elim
end Go.Proofs.Ytfkjhnfbajflaaa
