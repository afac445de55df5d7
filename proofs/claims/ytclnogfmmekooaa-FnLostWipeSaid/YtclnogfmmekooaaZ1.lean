/- What the laws' walks share: words, plain laws, and the walks of functions, part 1. -/
import Derived.Conc.Beside
import Derived.OrdersHeld
namespace Go.Proofs.Ytclnogfmmekooaa
theorem jA {α : Type} {xs : List α} {i : Nat} (h : i < xs.toArray.size) : xs.toArray[i]'h = xs[i]'(by simpa using h) := List.getElem_toArray h
theorem jB {α : Type} {x : α} {xs : List α} (h : 0 < (x :: xs).length) : (x :: xs)[0]'h = x := rfl
theorem jC {α : Type} {x : α} {xs : List α} {i : Nat} (h : i + 1 < (x :: xs).length) : (x :: xs)[i + 1]'h = xs[i]'(by simpa using h) := List.getElem_cons_succ x xs i h
theorem jD {α : Type} (l : List α) (i : Nat) (x : α) : l.toArray.setIfInBounds i x = (l.set i x).toArray := List.setIfInBounds_toArray l i x
theorem jE {α : Type} (x y : α) (xs : List α) : (x :: xs).set 0 y = y :: xs := List.set_cons_zero
theorem jF {α : Type} (x y : α) (xs : List α) (i : Nat) : (x :: xs).set (i + 1) y = x :: xs.set i y := List.set_cons_succ
end Go.Proofs.Ytclnogfmmekooaa
namespace Go.Proofs.Ytclnogfmmekooaa
set_option linter.unusedVariables false
set_option linter.unusedSimpArgs false
open Go.Conc

/-! ### values, code, objects within a set of blocks -/
/-- The functions that may be called; a block of the caller's of which the cells from lo to hi alone are known: (block, lo, hi). -/
structure Cfg where
 fn : Nat → Bool
 dead : Option (Nat × Nat × Nat)
instance : CoeFun Cfg (fun _ => Nat → Bool) := ⟨Cfg.fn⟩
instance : Coe Cfg (Nat → Bool) := ⟨Cfg.fn⟩
/-- From which cell on a block may be read. -/
def Cfg.lo (G : Cfg) (b : Nat) : Nat := match G.dead with
 | some (c, l, _) => if b = c then l else 0
 | none => 0
/-- The address lies within the set. -/
structure Ina (G : Cfg) (A : Nat → Prop) (a : Addr) : Prop where
 blk : A a.block
 low : G.lo a.block ≤ a.off
/-- A new block. -/
structure Fresh (G : Cfg) (A : Nat → Prop) (r : Nat) : Prop where
 non : ¬ A r
 zero : G.lo r = 0
theorem Ina.mono {G : Cfg} {A A' : Nat → Prop} {a : Addr} (h : ∀ b, A b → A' b) (x : Ina G A a) : Ina G A' a := ⟨h _ x.blk, x.low⟩
theorem Ina.add {G : Cfg} {A : Nat → Prop} {a : Addr} (x : Ina G A a) (n : Nat) : Ina G A (a.add n) := by
 unfold Addr.add
 split
 · exact x
 · exact ⟨x.blk, Nat.le_trans x.low (Nat.le_add_right _ _)⟩
theorem Ina.up {G : Cfg} {A : Nat → Prop} {a a' : Addr} (x : Ina G A a) (h1 : a'.block = a.block) (h2 : a.off ≤ a'.off) : Ina G A a' := ⟨by rw [h1]; exact x.blk, by rw [h1]; exact Nat.le_trans x.low h2⟩
theorem Fresh.ina {G : Cfg} {A : Nat → Prop} {r : Nat} (h : Fresh G A r) (o : Nat) (s : Option Nat) : Ina G (fun b => A b ∨ b = r) ⟨r, o, s⟩ := ⟨.inr rfl, by rw [h.zero]; exact Nat.zero_le _⟩
/-- What is held: a set of blocks; 'G': the functions that may be called. -/
inductive VIn (G : Cfg) (A : Nat → Prop) : Value → Prop
 | bool (b : Bool) : VIn G A (.bool b)
 | int (k : IntKind) (n : Int) : VIn G A (.int k n)
 | float (k : FloatKind) (n : Nat) : VIn G A (.float k n)
 | string (s : ByteArray) : VIn G A (.string s)
 | ptr0 : VIn G A (.pointer none)
 | ptr {a : Addr} : Ina G A a → VIn G A (.pointer (some a))
 | slice0 (n c : Nat) : VIn G A (.slice none n c)
 | slice {a : Addr} (n c : Nat) : Ina G A a → VIn G A (.slice (some a) n c)
 | map0 : VIn G A (.map none)
 | map {r : Nat} : A r → VIn G A (.map (some r))
 | chan0 : VIn G A (.chan none)
 | func {f : FuncId} {first captured : Array Value} : G f = true → (∀ v ∈ first, VIn G A v) → (∀ v ∈ captured, VIn G A v) → VIn G A (.func (.func f) first captured)
 | yield {l : Nat} {first captured : Array Value} : A l → (∀ v ∈ first, VIn G A v) → (∀ v ∈ captured, VIn G A v) → VIn G A (.func (.yield l) first captured)
 | nilFunc : VIn G A .nilFunc
 | nilIface : VIn G A .nilIface
 | iface {t : TypeId} {v : Value} : VIn G A v → VIn G A (.iface t v)
 | agg {cs : Array Value} : (∀ v ∈ cs, VIn G A v) → VIn G A (.agg cs)
 | tuple {vs : Array Value} : (∀ v ∈ vs, VIn G A v) → VIn G A (.tuple vs)

theorem VIn.mono {G : Cfg} {A A' : Nat → Prop} (h : ∀ b, A b → A' b) {v : Value} (hv : VIn G A v) : VIn G A' v := by
 induction hv with
 | bool b => exact .bool b
 | int k n => exact .int k n
 | float k n => exact .float k n
 | string s => exact .string s
 | ptr0 => exact .ptr0
 | ptr x => exact .ptr (x.mono h)
 | slice0 n c => exact .slice0 n c
 | slice n c x => exact .slice n c (x.mono h)
 | map0 => exact .map0
 | map x => exact .map (h _ x)
 | chan0 => exact .chan0
 | func hg _ _ i1 i2 => exact .func hg i1 i2
 | yield hl _ _ i1 i2 => exact .yield (h _ hl) i1 i2
 | nilFunc => exact .nilFunc
 | nilIface => exact .nilIface
 | iface _ i => exact .iface i
 | agg _ i => exact .agg i
 | tuple _ i => exact .tuple i

/-- A constant without addresses. -/
def plainN : Nat → Value → Bool
 | 0, _ => false
 | n + 1, v => match v with
   | .bool _ | .int .. | .float .. | .string _ | .pointer none | .slice none _ _ | .map none | .chan none | .nilFunc | .nilIface => true
   | .agg cs => cs.toList.all (plainN n)
   | .tuple cs => cs.toList.all (plainN n)
   | _ => false
def plainV (v : Value) : Bool := plainN 9 v
theorem VIn.of_plainN {G : Cfg} {A : Nat → Prop} : ∀ (n : Nat) {v : Value}, plainN n v = true → VIn G A v
 | 0, _, h => by simp [plainN] at h
 | n + 1, v, h => by
   cases v with
   | bool b => exact .bool b
   | int k n => exact .int k n
   | float k n => exact .float k n
   | complex k a b => simp [plainN] at h
   | string s => exact .string s
   | pointer a => cases a with | none => exact .ptr0 | some a => simp [plainN] at h
   | slice a n c => cases a with | none => exact .slice0 n c | some a => simp [plainN] at h
   | map r => cases r with | none => exact .map0 | some a => simp [plainN] at h
   | chan r => cases r with | none => exact .chan0 | some a => simp [plainN] at h
   | func fn a b => simp [plainN] at h
   | nilFunc => exact .nilFunc
   | nilIface => exact .nilIface
   | iface t v => simp [plainN] at h
   | agg cs =>
     refine .agg fun v hv => VIn.of_plainN n ?_
     simp only [plainN, List.all_eq_true] at h
     exact h v (Array.mem_toList_iff.2 hv)
   | tuple cs =>
     refine .tuple fun v hv => VIn.of_plainN n ?_
     simp only [plainN, List.all_eq_true] at h
     exact h v (Array.mem_toList_iff.2 hv)
theorem VIn.of_plain {G : Cfg} {A : Nat → Prop} {v : Value} (h : plainV v = true) : VIn G A v := .of_plainN 9 h

/-! ### clean code -/
def operOk (G : Nat → Bool) : Operand → Bool
 | .tmp _ => true
 | .const v => plainV v
 | .global _ => false
 | .func f => G f
/-- A type of the program's table; the elements' type of a slice or a map is one. -/
def tyOk (P : Program) (t : TypeId) : Bool := decide (t < P.types.size)
def elOk (P : Program) (t : TypeId) : Bool :=
 match P.underlying t with
 | some (.slice e) | some (.map _ e) => tyOk P e
 | _ => true
/-- Values of the type are compared without a look at memory. -/
def eqOk (P : Program) : Nat → TypeId → Bool
 | 0, _ => false
 | d + 1, t => match P.underlying t with
   | some .bool | some (.int _) | some (.float _) | some .string | some (.slice _) | some (.map _ _) | some (.func ..) => true
   | some (.struct fs) => fs.all fun f => eqOk P d f.type
   | some (.array _ e) => eqOk P d e
   | _ => false
/-- A map's keys are such. -/
def keyOk (P : Program) (t : TypeId) : Bool := match P.underlying t with
 | some (.map k _) => eqOk P 9 k
 | _ => true
def isUns (P : Program) (t : TypeId) : Bool := match P.underlying t with | some .unsafePointer => true | _ => false
def isNil (x : Operand) : Bool := match x with | .const .nilIface => true | _ => false
def isEq (op : BinOp) : Bool := match op with | .eql | .neq => true | _ => false
def opOk (P : Program) (G : Nat → Bool) (o : Op) : Bool :=
 (match o with
 | .alloc t | .build t _ => tyOk P t
 | .buildSlice t _ _ | .makeSlice t _ _ => elOk P t
 | .lookup t _ _ _ => elOk P t && keyOk P t
 | .mapUpdate t _ _ _ => keyOk P t
 | .move _ | .assign _ | .pick .. | .box .. | .load .. | .store .. | .nilCheck _ | .unOp .. | .makeInterface ..
 | .makeMap .. | .slice .. | .fieldAddr .. | .field .. | .indexAddr .. | .extract .. => true
 | .binOp op t x y _ => !isUns P t && (!isEq op || (eqOk P 9 t || (isNil x || isNil y)))
 | .convert s d _ => (P.underlying s matches some (.int _)) && (P.underlying d matches some (.int _))
 | .makeFunc (.func f) .. => G f
 | .call c => (match c.callee with
   | .value _ => true
   | .builtin .append => (match c.argTypes[0]? with | some t => elOk P t | none => true)
   | .builtin .copy | .builtin .len | .builtin .max | .builtin .min => true
   | _ => false)
 | _ => false) && o.operands.all (operOk G)
def codeOk (P : Program) (G : Nat → Bool) : Code → Bool
 | .skip | .exit _ | .ret | .refuse _ => true
 | .region _ ops _ => ops.all fun o => opOk P G o.op
 | .seq a b => codeOk P G a && codeOk P G b
 | .cond c a b => operOk G c && (codeOk P G a && codeOk P G b)
 | .block _ c | .loop c => codeOk P G c
 | .rangeFunc f _ a b => operOk G f && (codeOk P G a && codeOk P G b)
 | _ => false

/-- An object within the set. -/
inductive OIn (P : Program) (G : Cfg) (A : Nat → Prop) (r : Nat) : Obj → Prop
 | cells {c : Array Value} {e : TypeId} {fr : Nat × Nat} : (∀ j v, G.lo r ≤ j → c[j]? = some v → VIn G A v) → OIn P G A r (.cells c e fr)
 | map {es : Array MapEntry} {clock : Nat} : (∀ e ∈ es, VIn G A e.key ∧ VIn G A e.val) → OIn P G A r (.map es clock)
 | loop {l : Loop} : (∀ v ∈ l.tmps, VIn G A v) → codeOk P G l.assign = true → codeOk P G l.body = true → (∀ c, l.pending = some c → codeOk P G c = true) → A l.defers → OIn P G A r (.loop l)
 | deferred {o : Option (List Deferred)} : (∀ ds, o = some ds → ds = []) → OIn P G A r (.deferred o)
 | number {a : Addr} {lost : Bool} : A a.block → OIn P G A r (.number a lost)
theorem OIn.all {P : Program} {G : Cfg} {A : Nat → Prop} {r : Nat} {c : Array Value} {e : TypeId} {fr : Nat × Nat} (h : ∀ v ∈ c, VIn G A v) : OIn P G A r (.cells c e fr) := .cells fun _ _ _ hv => h _ (Array.mem_of_getElem? hv)
theorem OIn.mono {P : Program} {G : Cfg} {A A' : Nat → Prop} {r : Nat} (h : ∀ b, A b → A' b) {o : Obj} (ho : OIn P G A r o) : OIn P G A' r o := by
 cases ho with
 | cells hc => exact .cells fun j v hj hv => (hc j v hj hv).mono h
 | map hm => exact .map fun e he => ⟨(hm e he).1.mono h, (hm e he).2.mono h⟩
 | loop h1 h2 h3 h4 h5 => exact .loop (fun v hv => (h1 v hv).mono h) h2 h3 h4 (h _ h5)
 | deferred hd => exact .deferred hd
 | number ha => exact .number (h _ ha)
/-- The set is closed in this heap. -/
structure HIn (P : Program) (G : Cfg) (A : Nat → Prop) (w : World) : Prop where
 obj : ∀ r, A r → ∃ o, w.heap[r]? = some o ∧ OIn P G A r o
 there : ∀ c l h, G.dead = some (c, l, h) → c < w.heap.size
theorem HIn.zero {P : Program} {G : Cfg} {A : Nat → Prop} {w : World} (h : HIn P G A w) (r : Nat) (hr : w.heap.size ≤ r) : G.lo r = 0 := by
 unfold Cfg.lo
 split
 · rename_i c l hi e
   have := h.there c l hi e
   rw [if_neg (by omega)]
 · rfl
theorem HIn.lt {P : Program} {G : Cfg} {A : Nat → Prop} {w : World} (h : HIn P G A w) {r : Nat} (hr : A r) : r < w.heap.size := by
 obtain ⟨o, ho, _⟩ := h.obj r hr
 exact (Array.getElem?_eq_some_iff.1 ho).1

/-! ### a piece of semantics within the set -/
def haltOk : Halt → Prop
 | .panic _ | .stuck _ => True
 | .unsupported (.initOrder _) => False
 | .unsupported _ => True
 | _ => False
/-- A block's size counts for nothing: at a greater one the piece comes to the same. -/
def ShOk (P : Program) {α : Type} (k : Option (TypeId × Nat) → Sem α) : Prop := ∀ t n n', n ≤ n' → ∀ w es x w1 es1, (k (some (t, n))).runT P w es = (.ok x w1, es1) → (k (some (t, n'))).runT P w es = (.ok x w1, es1)
theorem ShOk.same {P : Program} {α : Type} {k : Option (TypeId × Nat) → Sem α} (h : ∀ t n n', k (some (t, n)) = k (some (t, n'))) : ShOk P k := fun t n n' _ w es x w1 es1 e => by rw [h t n' n]; exact e
/-- It never comes well to its end. -/
def NeverOk (P : Program) {α : Type} (s : Sem α) : Prop := ∀ w es x w1 es1, s.runT P w es ≠ (.ok x w1, es1)
theorem ShOk.never {P : Program} {α : Type} {k : Option (TypeId × Nat) → Sem α} (h : ∀ s, NeverOk P (k s)) : ShOk P k := fun t n n' _ w es x w1 es1 e => absurd e (h _ w es x w1 es1)
theorem ShOk.bind {P : Program} {α β : Type} {k : Option (TypeId × Nat) → Sem α} {f : α → Sem β} (h : ShOk P k) : ShOk P fun s => (k s).bind f := by
 intro t n n' hn w es x w1 es1 e
 simp only [Sem.runT_bind'] at e ⊢
 cases hr : (k (some (t, n))).runT P w es with
 | mk r es' =>
   rw [hr] at e
   cases r with
   | ok a w' => rw [h t n n' hn _ _ _ _ _ hr]; exact e
   | halt y w' => cases e
theorem NeverOk.bind {P : Program} {α β : Type} {s : Sem α} (f : α → Sem β) (h : NeverOk P s) : NeverOk P (s.bind f) := by
 intro w es x w1 es1 e
 rw [Sem.runT_bind'] at e
 cases hr : s.runT P w es with
 | mk r es' =>
   rw [hr] at e
   cases r with
   | ok a w' => exact h _ _ _ _ _ hr
   | halt y w' => cases e
theorem NeverOk.bindR {P : Program} {α β : Type} {s : Sem α} {f : α → Sem β} (h : ∀ a, NeverOk P (f a)) : NeverOk P (s.bind f) := by
 intro w es x w1 es1 e
 rw [Sem.runT_bind'] at e
 cases hr : s.runT P w es with
 | mk r es' =>
   rw [hr] at e
   cases r with
   | ok a w' => exact h _ _ _ _ _ _ e
   | halt y w' => cases e
def Sem.Fr (P : Program) (G : Cfg) {α : Type} : Sem α → (Nat → Prop) → ((Nat → Prop) → α → Prop) → Prop
 | .pure a, A, Q => Q A a
 | .load _ a k, A, Q => Ina G A a ∧ ∀ v, VIn G A v → Sem.Fr P G (k v) A Q
 | .store _ a v k, A, Q => A a.block ∧ VIn G A v ∧ Sem.Fr P G k A Q
 | .new o k, A, Q => (∀ r, OIn P G A r o) ∧ ∀ r, Fresh G A r → Sem.Fr P G (k r) (fun b => A b ∨ b = r) Q
 | .shape _ k, A, Q => (∀ s, Sem.Fr P G (k s) A Q) ∧ ShOk P k
 | .freeze a _ k, A, Q => A a.block ∧ Sem.Fr P G k A Q
 | .frozen _ k, A, Q => ∀ b, Sem.Fr P G (k b) A Q
 | .getObj r k, A, Q => A r ∧ ∀ o, OIn P G A r o → Sem.Fr P G (k o) A Q
 | .setObj r o k, A, Q => A r ∧ OIn P G A r o ∧ (∀ c e f, o ≠ .cells c e f) ∧ Sem.Fr P G k A Q
 | .choose _ k, A, Q => ∀ n, Sem.Fr P G (k n) A Q
 | .sys _ _, _, _ => False
 | .program k, A, Q => Sem.Fr P G (k P) A Q
 | .mark m k, A, Q => m = .noRoom ∧ Sem.Fr P G k A Q
 | .halt h, _, _ => haltOk h
section
variable {P : Program} {G : Cfg} {α β : Type}
theorem Sem.Fr.mono {s : Sem α} {Q Q' : (Nat → Prop) → α → Prop} : ∀ {A : Nat → Prop}, Sem.Fr P G s A Q → (∀ A' a, (∀ b, A b → A' b) → Q A' a → Q' A' a) → Sem.Fr P G s A Q' := by
 induction s with
 | pure a => exact fun h hq => hq _ _ (fun _ x => x) h
 | load m a k ih => exact fun h hq => ⟨h.1, fun v hv => ih v (h.2 v hv) hq⟩
 | store m a v k ih => exact fun h hq => ⟨h.1, h.2.1, ih h.2.2 hq⟩
 | new o k ih => exact fun h hq => ⟨h.1, fun r hr => ih r (h.2 r hr) fun A' a hA => hq A' a fun b hb => hA b (.inl hb)⟩
 | shape r k ih => exact fun h hq => ⟨fun s => ih s (h.1 s) hq, h.2⟩
 | freeze a n k ih => exact fun h hq => ⟨h.1, ih h.2 hq⟩
 | frozen a k ih => exact fun h hq b => ih b (h b) hq
 | getObj r k ih => exact fun h hq => ⟨h.1, fun o ho => ih o (h.2 o ho) hq⟩
 | setObj r o k ih => exact fun h hq => ⟨h.1, h.2.1, h.2.2.1, ih h.2.2.2 hq⟩
 | choose q k ih => exact fun h hq n => ih n (h n) hq
 | sys c k ih => exact fun h _ => h
 | program k ih => exact fun h hq => ih P h hq
 | mark m k ih => exact fun h hq => ⟨h.1, ih h.2 hq⟩
 | halt h => exact fun h _ => h
theorem Sem.Fr.bind {s : Sem α} {f : α → Sem β} {Q : (Nat → Prop) → β → Prop} : ∀ {A : Nat → Prop}, Sem.Fr P G s A (fun A' a => Sem.Fr P G (f a) A' Q) → Sem.Fr P G (s.bind f) A Q := by
 induction s with
 | pure a => exact fun h => h
 | load m a k ih => exact fun h => ⟨h.1, fun v hv => ih v (h.2 v hv)⟩
 | store m a v k ih => exact fun h => ⟨h.1, h.2.1, ih h.2.2⟩
 | new o k ih => exact fun h => ⟨h.1, fun r hr => ih r (h.2 r hr)⟩
 | shape r k ih => exact fun h => ⟨fun s => ih s (h.1 s), h.2.bind⟩
 | freeze a n k ih => exact fun h => ⟨h.1, ih h.2⟩
 | frozen a k ih => exact fun h b => ih b (h b)
 | getObj r k ih => exact fun h => ⟨h.1, fun o ho => ih o (h.2 o ho)⟩
 | setObj r o k ih => exact fun h => ⟨h.1, h.2.1, h.2.2.1, ih h.2.2.2⟩
 | choose q k ih => exact fun h n => ih n (h n)
 | sys c k ih => exact fun h => h
 | program k ih => exact fun h => ih P h
 | mark m k ih => exact fun h => ⟨h.1, ih h.2⟩
 | halt h => exact fun h => h
end

/-! ### what it does to the world -/
/-- An access within the set, or a mark 'no room'. -/
def EvIn (A : Nat → Prop) (e : Event) : Prop :=
 match e.loc with
 | .cell a => A a.block
 | .obj r => A r ∧ e.sync = false
 | .mark m => m = .noRoom
 | _ => False
theorem EvIn.mono {A A' : Nat → Prop} (h : ∀ b, A b → A' b) {e : Event} (he : EvIn A e) : EvIn A' e := by
 unfold EvIn at *
 split <;> simp_all
/-- The world behind it: what was not held stands. -/
structure Kept (A A' : Nat → Prop) (w w' : World) : Prop where
 grow : ∀ b, A b → A' b
 fresh : ∀ b, A' b → A b ∨ w.heap.size ≤ b
 size : w.heap.size ≤ w'.heap.size
 stand : ∀ b, ¬ A b → b < w.heap.size → w'.heap[b]? = w.heap[b]?
 os : w'.os = w.os
 output : w'.output = w.output
 tape : w'.tape = w.tape
theorem Kept.refl (A : Nat → Prop) (w : World) : Kept A A w w := ⟨fun _ h => h, fun _ h => .inl h, Nat.le_refl _, fun _ _ _ => rfl, rfl, rfl, rfl⟩
theorem Kept.trans {A A' A'' : Nat → Prop} {w w' w'' : World} (h : Kept A A' w w') (k : Kept A' A'' w' w'') : Kept A A'' w w'' :=
 ⟨fun b x => k.grow b (h.grow b x), fun b x => (k.fresh b x).elim (h.fresh b) (fun y => .inr (Nat.le_trans h.size y)), Nat.le_trans h.size k.size,
  fun b x y => by rw [k.stand b (fun z => (h.fresh b z).elim x (fun l => by omega)) (Nat.lt_of_lt_of_le y h.size), h.stand b x y], k.os.trans h.os, k.output.trans h.output, k.tape.trans h.tape⟩

theorem getElem?_push_old {α : Type} (a : Array α) (x : α) {i : Nat} (h : i < a.size) : (a.push x)[i]? = a[i]? := by
 rw [Array.getElem?_push]; simp [Nat.ne_of_lt h]
theorem HIn.push {P : Program} {G : Cfg} {A : Nat → Prop} {w : World} (h : HIn P G A w) {o : Obj} (ho : ∀ r, OIn P G A r o) : HIn P G (fun b => A b ∨ b = w.heap.size) { w with heap := w.heap.push o } := by
 refine ⟨fun r hr => ?_, fun c l hi e => by have := h.there c l hi e; simp; omega⟩
 rcases hr with hr | rfl
 · obtain ⟨x, hx, hin⟩ := h.obj r hr
   exact ⟨x, by show (w.heap.push o)[r]? = _; rw [getElem?_push_old _ _ (h.lt hr)]; exact hx, hin.mono fun b hb => .inl hb⟩
 · exact ⟨o, by simp, (ho _).mono fun b hb => .inl hb⟩
theorem HIn.set {P : Program} {G : Cfg} {A : Nat → Prop} {w : World} (h : HIn P G A w) {r : Nat} {o : Obj} (ho : OIn P G A r o) : HIn P G A { w with heap := w.heap.setIfInBounds r o } := by
 refine ⟨fun q hq => ?_, fun c l hi e => by simpa using h.there c l hi e⟩
 obtain ⟨x, hx, hin⟩ := h.obj q hq
 by_cases e : r = q
 · subst e
   exact ⟨o, by simp [h.lt hq], ho⟩
 · exact ⟨x, by show (w.heap.setIfInBounds r o)[q]? = _; rw [Array.getElem?_setIfInBounds_ne e]; exact hx, hin⟩
theorem Kept.push {A : Nat → Prop} (w : World) (o : Obj) : Kept A (fun b => A b ∨ b = w.heap.size) w { w with heap := w.heap.push o } :=
 ⟨fun b h => .inl h, fun b h => h.elim .inl fun e => .inr (by omega), by simp, fun b _ hb => getElem?_push_old _ _ hb, rfl, rfl, rfl⟩
theorem Kept.set {A : Nat → Prop} (w : World) {r : Nat} (hr : A r) (o : Obj) : Kept A A w { w with heap := w.heap.setIfInBounds r o } :=
 ⟨fun _ h => h, fun b h => .inl h, by simp, fun b hb _ => Array.getElem?_setIfInBounds_ne (fun e : r = b => hb (by rw [← e]; exact hr)), rfl, rfl, rfl⟩
theorem cell_in {P : Program} {G : Cfg} {A : Nat → Prop} {w : World} (h : HIn P G A w) {a : Addr} (ha : Ina G A a) {v : Value} (hv : w.cell? a = some v) : VIn G A v := by
 obtain ⟨o, ho, hin⟩ := h.obj _ ha.blk
 unfold World.cell? at hv
 rw [ho] at hv
 cases hin with
 | cells hc =>
   simp only at hv
   split at hv
   · cases hv
   · exact hc _ v ha.low hv
 | _ => simp at hv
theorem far_no {P : Program} {G : Cfg} {A : Nat → Prop} {w : World} (h : HIn P G A w) {a : Addr} (ha : A a.block) (m : Bool) : ∃ s, w.farLoad P a m = .error (.stuck s) := by
 obtain ⟨o, ho, hin⟩ := h.obj _ ha
 unfold World.farLoad World.noCell
 rw [ho]
 cases hin <;> exact ⟨_, rfl⟩
theorem farS_no {P : Program} {G : Cfg} {A : Nat → Prop} {w : World} (h : HIn P G A w) {a : Addr} (ha : A a.block) (v : Value) (m : Bool) : ∃ s, w.farStore P a v m = .error (.stuck s) := by
 obtain ⟨o, ho, hin⟩ := h.obj _ ha
 unfold World.farStore World.noCell
 rw [ho]
 cases hin <;> exact ⟨_, rfl⟩
theorem HIn.modify {P : Program} {G : Cfg} {A : Nat → Prop} {w : World} (h : HIn P G A w) (r : Nat) (f : Obj → Obj) (hf : ∀ o, OIn P G A r o → OIn P G A r (f o)) : HIn P G A { w with heap := w.heap.modify r f } := by
 refine ⟨fun q hq => ?_, fun c l hi e => by simpa using h.there c l hi e⟩
 obtain ⟨x, hx, hin⟩ := h.obj q hq
 by_cases e : r = q
 · subst e
   exact ⟨f x, by show (w.heap.modify r f)[r]? = _; rw [Array.getElem?_modify]; simp [hx], hf x hin⟩
 · exact ⟨x, by show (w.heap.modify r f)[q]? = _; rw [Array.getElem?_modify]; simp [e, hx], hin⟩
theorem Kept.modify {A : Nat → Prop} (w : World) {r : Nat} (hr : A r) (f : Obj → Obj) : Kept A A w { w with heap := w.heap.modify r f } :=
 ⟨fun _ h => h, fun b h => .inl h, by simp, fun b hb _ => by show (w.heap.modify r f)[b]? = _; rw [Array.getElem?_modify]; simp [show r ≠ b from fun e => hb (e ▸ hr)], rfl, rfl, rfl⟩
theorem HIn.setCell {P : Program} {G : Cfg} {A : Nat → Prop} {w : World} (h : HIn P G A w) (a : Addr) {v : Value} (hv : VIn G A v) : HIn P G A (w.setCell a v) := by
 refine h.modify _ _ fun o ho => ?_
 cases ho with
 | cells hc =>
   refine .cells fun j x hj hx => ?_
   split at hx
   · exact hc j x hj hx
   · rw [Array.getElem?_setIfInBounds] at hx
     split at hx
     · split at hx
       · cases hx; exact hv
       · cases hx
     · exact hc j x hj hx
 | map hm => exact .map hm
 | loop h1 h2 h3 h4 h5 => exact .loop h1 h2 h3 h4 h5
 | deferred hd => exact .deferred hd
 | number ha => exact .number ha
theorem HIn.freeze {P : Program} {G : Cfg} {A : Nat → Prop} {w : World} (h : HIn P G A w) (a : Addr) (n : Nat) : HIn P G A (w.freeze a n) := by
 unfold World.freeze
 split
 · exact h
 · refine h.modify _ _ fun o ho => ?_
   cases ho with
   | cells hc => exact .cells hc
   | map hm => exact .map hm
   | loop h1 h2 h3 h4 h5 => exact .loop h1 h2 h3 h4 h5
   | deferred hd => exact .deferred hd
   | number ha => exact .number ha
theorem HIn.drew {P : Program} {G : Cfg} {A : Nat → Prop} {w : World} (h : HIn P G A w) (d : Nat) : HIn P G A { w with drawn := d } := ⟨h.obj, h.there⟩

theorem EvIn.cell {A : Nat → Prop} {a : Addr} {x y : Bool} (h : A a.block) : EvIn A ⟨.cell a, x, y⟩ := h
theorem EvIn.obj {A : Nat → Prop} {r : Nat} {x y : Bool} (h : A r) (hy : y = false) : EvIn A ⟨.obj r, x, y⟩ := ⟨h, hy⟩
theorem EvIn.mark {A : Nat → Prop} {m : Mark} {x y : Bool} (h : m = .noRoom) : EvIn A ⟨.mark m, x, y⟩ := h
theorem push_ev {A : Nat → Prop} {x : Event} {es : Array Event} (h : EvIn A x) : ∀ e ∈ es.push x, e ∈ es ∨ EvIn A e := by
 intro e he
 rcases Array.mem_push.1 he with h1 | rfl
 · exact .inl h1
 · exact .inr h
/-- ████ A PIECE WITHIN THE SET TOUCHES THE SET ALONE. ████ -/
theorem Sem.Fr.run {P : Program} {G : Cfg} {α : Type} {s : Sem α} {Q : (Nat → Prop) → α → Prop} : ∀ {A : Nat → Prop} {w : World} {es : Array Event}, Sem.Fr P G s A Q → HIn P G A w →
 match s.runT P w es with
 | (.ok a w', es') => ∃ A', Kept A A' w w' ∧ HIn P G A' w' ∧ Q A' a ∧ ∀ e ∈ es', e ∈ es ∨ EvIn A' e
 | (.halt h w', es') => haltOk h ∧ ∃ A', Kept A A' w w' ∧ HIn P G A' w' ∧ ∀ e ∈ es', e ∈ es ∨ EvIn A' e := by
 have after : ∀ {β : Type} {A A₁ : Nat → Prop} {w w₁ : World} {es es₁ : Array Event} {Q : (Nat → Prop) → β → Prop} {x : Result β × Array Event}, Kept A A₁ w w₁ → (∀ e ∈ es₁, e ∈ es ∨ EvIn A₁ e) →
  (match x with
  | (.ok a w', es') => ∃ A', Kept A₁ A' w₁ w' ∧ HIn P G A' w' ∧ Q A' a ∧ ∀ e ∈ es', e ∈ es₁ ∨ EvIn A' e
  | (.halt h w', es') => haltOk h ∧ ∃ A', Kept A₁ A' w₁ w' ∧ HIn P G A' w' ∧ ∀ e ∈ es', e ∈ es₁ ∨ EvIn A' e) →
  (match x with
  | (.ok a w', es') => ∃ A', Kept A A' w w' ∧ HIn P G A' w' ∧ Q A' a ∧ ∀ e ∈ es', e ∈ es ∨ EvIn A' e
  | (.halt h w', es') => haltOk h ∧ ∃ A', Kept A A' w w' ∧ HIn P G A' w' ∧ ∀ e ∈ es', e ∈ es ∨ EvIn A' e) := by
  intro β A A₁ w w₁ es es₁ Q x hk he hx
  obtain ⟨r, es'⟩ := x
  cases r with
  | ok a w' =>
    obtain ⟨A', k, hh, q, e⟩ := hx
    exact ⟨A', hk.trans k, hh, q, fun y hy => (e y hy).elim (fun z => (he y z).imp id (·.mono k.grow)) .inr⟩
  | halt h w' =>
    obtain ⟨ho, A', k, hh, e⟩ := hx
    exact ⟨ho, A', hk.trans k, hh, fun y hy => (e y hy).elim (fun z => (he y z).imp id (·.mono k.grow)) .inr⟩
 induction s with
 | pure a => exact fun {A w es} h hw => ⟨A, .refl A w, hw, h, fun e he => .inl he⟩
 | load m a k ih =>
   intro A w es h hw
   simp only [Sem.runT]
   cases hc : w.cell? a with
   | some v =>
     simp only
     exact after (.refl A w) (push_ev (.cell h.1.blk)) (ih v (h.2 v (cell_in hw h.1 hc)) hw)
   | none =>
     obtain ⟨s, hs⟩ := far_no hw h.1.blk (m == .atomic)
     simp only [hs]
     exact ⟨trivial, A, .refl A w, hw, fun e he => .inl he⟩
 | store m a v k ih =>
   intro A w es h hw
   have key : (match w.cell? a with
    | some _ =>
      if w.frozen? a then (Result.halt (.unsupported (.unsafePointer "a write to bytes that a string shares")) w, es)
      else k.runT P (w.setCell a v) (es.push ⟨.cell a, true, m == .atomic⟩)
    | none => match w.farStore P a v (m == .atomic) with
      | .ok (w, touched) => k.runT P w (es ++ touched.toArray.map (⟨.cell ·, true, m == .atomic⟩))
      | .error h => (Result.halt h w, es)) = (Sem.store m a v k).runT P w es ∨ (Sem.store m a v k).runT P w es = (.halt (.stuck "store: not the value of one cell") w, es) := by
    cases v <;> first | exact .inl rfl | exact .inr rfl
   rcases key with key | key
   · rw [← key]
     cases hc : w.cell? a with
     | some x =>
       simp only
       by_cases hf : w.frozen? a = true
       · simp only [hf, if_true]
         exact ⟨trivial, A, .refl A w, hw, fun e he => .inl he⟩
       · simp only [hf, if_false, Bool.false_eq_true]
         exact after (.modify w h.1 _) (push_ev (.cell h.1)) (ih h.2.2 (hw.setCell a h.2.1))
     | none =>
       obtain ⟨s, hs⟩ := farS_no hw h.1 v (m == .atomic)
       simp only [hs]
       exact ⟨trivial, A, .refl A w, hw, fun e he => .inl he⟩
   · rw [key]
     exact ⟨trivial, A, .refl A w, hw, fun e he => .inl he⟩
 | new o k ih =>
   intro A w es h hw
   exact after (Kept.push w o) (fun e he => .inl he) (ih _ (h.2 _ ⟨fun x => Nat.lt_irrefl _ (hw.lt x), hw.zero _ (Nat.le_refl _)⟩) (hw.push h.1))
 | shape r k ih => exact fun {A w es} h hw => ih _ (h.1 _) hw
 | freeze a n k ih =>
   intro A w es h hw
   refine after (A₁ := A) (w₁ := w.freeze a n) ?_ (fun e he => .inl he) (ih h.2 (hw.freeze a n))
   unfold World.freeze
   split
   · exact .refl A w
   · exact .modify w h.1 _
 | frozen a k ih => exact fun {A w es} h hw => ih _ (h _) hw
 | getObj r k ih =>
   intro A w es h hw
   obtain ⟨o, ho, hin⟩ := hw.obj r h.1
   simp only [Sem.runT, ho]
   cases hin with
   | cells hc => exact ⟨trivial, A, .refl A w, hw, fun e he => .inl he⟩
   | map hm => exact after (.refl A w) (push_ev (.obj h.1 rfl)) (ih _ (h.2 _ (.map hm)) hw)
   | loop h1 h2 h3 h4 h5 => exact after (.refl A w) (push_ev (.obj h.1 rfl)) (ih _ (h.2 _ (.loop h1 h2 h3 h4 h5)) hw)
   | deferred hd => exact after (.refl A w) (push_ev (.obj h.1 rfl)) (ih _ (h.2 _ (.deferred hd)) hw)
   | number ha => exact after (.refl A w) (push_ev (.obj h.1 rfl)) (ih _ (h.2 _ (.number ha)) hw)
 | setObj r o k ih =>
   intro A w es h hw
   obtain ⟨x, hx, hin⟩ := hw.obj r h.1
   have hs : o.isChan = false := by cases h.2.1 <;> rfl
   simp only [Sem.runT, hx]
   cases hin with
   | cells hc => exact ⟨trivial, A, .refl A w, hw, fun e he => .inl he⟩
   | map _ => exact after (.set w h.1 o) (push_ev (.obj h.1 hs)) (ih h.2.2.2 (hw.set h.2.1))
   | loop _ _ _ _ _ => exact after (.set w h.1 o) (push_ev (.obj h.1 hs)) (ih h.2.2.2 (hw.set h.2.1))
   | deferred _ => exact after (.set w h.1 o) (push_ev (.obj h.1 hs)) (ih h.2.2.2 (hw.set h.2.1))
   | number _ => exact after (.set w h.1 o) (push_ev (.obj h.1 hs)) (ih h.2.2.2 (hw.set h.2.1))
 | choose q k ih =>
   intro A w es h hw
   simp only [Sem.runT]
   by_cases hq : q.forced = true
   · simp only [hq, if_true]
     exact ih _ (h _) hw
   · simp only [hq, if_false, Bool.false_eq_true]
     refine after (A₁ := A) (w₁ := { w with drawn := w.drawn + 1 }) ⟨fun _ x => x, fun _ x => .inl x, Nat.le_refl _, fun _ _ _ => rfl, rfl, rfl, rfl⟩ (fun e he => .inl he) (ih _ (h _) (hw.drew _))
 | sys c k ih => exact fun h _ => h.elim
 | program k ih => exact fun {A w es} h hw => ih P h hw
 | mark m k ih =>
   intro A w es h hw
   exact after (.refl A w) (push_ev (.mark h.1)) (ih h.2 hw)
 | halt h => exact fun {A w es} ho hw => ⟨ho, A, .refl A w, hw, fun e he => .inl he⟩
end Go.Proofs.Ytclnogfmmekooaa
namespace Go.Proofs.Ytclnogfmmekooaa
set_option linter.unusedVariables false
set_option linter.unusedSimpArgs false
open Go.Conc
/-- The rules of the program: what each function that may be called is; the zero values bear no address. -/
structure Clean1 (P : Program) (G : Cfg) : Prop where
 func : ∀ f, G f = true → ∃ fn c, P.funcs[f]? = some fn ∧ fn.body = some c ∧ codeOk P G c = true ∧ (fn.name == "runtime.NumGoroutine") = false
 zero : ∀ (t : Nat) i v, t < P.types.size → P.types[t]? = some i → i.zero = some v → plainV v = true
section
variable {P : Program} {G : Cfg} {α β : Type} {A : Nat → Prop}
theorem fr_bind {s : Sem α} {f : α → Sem β} {Q : (Nat → Prop) → β → Prop} (h : Sem.Fr P G s A (fun A' a => Sem.Fr P G (f a) A' Q)) : Sem.Fr P G (s >>= f) A Q := Sem.Fr.bind h
theorem fr_map {s : Sem α} {f : α → β} {Q : (Nat → Prop) → β → Prop} (h : Sem.Fr P G s A (fun A' a => Q A' (f a))) : Sem.Fr P G (f <$> s) A Q := Sem.Fr.bind h
theorem fr_pure {a : α} {Q : (Nat → Prop) → α → Prop} (h : Q A a) : Sem.Fr P G (pure a) A Q := h
theorem fr_stuck {s : String} {Q : (Nat → Prop) → α → Prop} : Sem.Fr P G (stuck s) A Q := trivial
theorem fr_unsup {u : Unsupported} {Q : (Nat → Prop) → α → Prop} (h : ∀ g, u ≠ .initOrder g) : Sem.Fr P G (unsupported u) A Q := by
 show haltOk (.unsupported u)
 cases u <;> first | trivial | exact absurd rfl (h _)
theorem fr_panic {v : Value} {Q : (Nat → Prop) → α → Prop} : Sem.Fr P G (goPanic v) A Q := trivial
theorem fr_program {f : Program → Sem α} {Q : (Nat → Prop) → α → Prop} (h : Sem.Fr P G (f P) A Q) : Sem.Fr P G (program >>= f) A Q := h
theorem fr_choose {q : Question} {Q : (Nat → Prop) → Nat → Prop} (h : ∀ n, Q A n) : Sem.Fr P G (choose q) A Q := h
theorem fr_new {o : Obj} {Q : (Nat → Prop) → Nat → Prop} (ho : ∀ r, OIn P G A r o) (h : ∀ r, Fresh G A r → Q (fun b => A b ∨ b = r) r) : Sem.Fr P G (newObj o) A Q := ⟨ho, h⟩
theorem fr_load {a : Addr} {Q : (Nat → Prop) → Value → Prop} (ha : Ina G A a) (h : ∀ v, VIn G A v → Q A v) : Sem.Fr P G (load a) A Q := ⟨ha, h⟩
theorem fr_store {a : Addr} {v : Value} {Q : (Nat → Prop) → Unit → Prop} (ha : Ina G A a) (hv : VIn G A v) (h : Q A ()) : Sem.Fr P G (store a v) A Q := ⟨ha.blk, hv, h⟩
theorem fr_getObj {r : Nat} {Q : (Nat → Prop) → Obj → Prop} (ha : A r) (h : ∀ o, OIn P G A r o → Q A o) : Sem.Fr P G (getObj r) A Q := ⟨ha, h⟩
theorem fr_setObj {r : Nat} {o : Obj} {Q : (Nat → Prop) → Unit → Prop} (ha : A r) (ho : OIn P G A r o) (h : Q A ()) (hn : ∀ c e f, o ≠ .cells c e f := by simp) : Sem.Fr P G (setObj r o) A Q := ⟨ha, ho, hn, h⟩
theorem fr_shapeB {r : Nat} {f : Option (TypeId × Nat) → Sem α} {Q : (Nat → Prop) → α → Prop} (h : ∀ s, Sem.Fr P G (f s) A Q) (he : ShOk P f) : Sem.Fr P G (shape r >>= f) A Q := ⟨h, he⟩
theorem fr_frozen {a : Addr} {Q : (Nat → Prop) → Bool → Prop} (h : ∀ b, Q A b) : Sem.Fr P G (frozen a) A Q := h
theorem fr_typeInfo {t : TypeId} {Q : (Nat → Prop) → TypeInfo → Prop} (h : ∀ i, P.info? t = some i → Q A i) : Sem.Fr P G (typeInfo t) A Q := by
 unfold typeInfo
 refine fr_program ?_
 split
 · rename_i i hi; exact h i hi
 · exact fr_stuck
theorem fr_underlying {t : TypeId} {Q : (Nat → Prop) → TypeDesc → Prop} (h : ∀ d, P.underlying t = some d → Q A d) : Sem.Fr P G (underlying t) A Q := by
 unfold underlying
 refine fr_program ?_
 split
 · rename_i i hi; exact h i hi
 · exact fr_stuck
theorem fr_sizeOf {t : TypeId} {Q : (Nat → Prop) → Nat → Prop} (h : ∀ n, Q A n) : Sem.Fr P G (sizeOf t) A Q := fr_bind (fr_typeInfo fun _ _ => h _)
theorem fr_isAgg {t : TypeId} {Q : (Nat → Prop) → Bool → Prop} (h : ∀ b, Q A b) : Sem.Fr P G (isAgg t) A Q := by
 unfold isAgg
 refine fr_bind (fr_underlying fun d _ => ?_)
 split <;> exact fr_pure (h _)
theorem fr_typeStr {t : TypeId} {Q : (Nat → Prop) → String → Prop} (h : ∀ s, Q A s) : Sem.Fr P G (typeStr t) A Q := by
 unfold typeStr
 refine fr_bind (fr_typeInfo fun i _ => ?_)
 dsimp only
 split
 · exact fr_unsup (by simp)
 · exact fr_pure (h _)
theorem fr_zeroValue (hP : Clean1 P G) {t : TypeId} (ht : t < P.types.size) {Q : (Nat → Prop) → Value → Prop} (h : ∀ v, (∀ B, VIn G B v) → Q A v) : Sem.Fr P G (zeroValue t) A Q := by
 unfold zeroValue
 refine fr_bind (fr_typeInfo fun i hi => ?_)
 split
 · rename_i v hv; exact fr_pure (h v fun B => .of_plain (hP.zero t i v ht (by simpa [Tables.info?, ht] using hi) hv))
 · exact fr_unsup (by simp)
theorem fr_loadCellsFrom {a : Addr} (ha : Ina G A a) {Q : (Nat → Prop) → Array Value → Prop} : ∀ (n i : Nat) (acc : Array Value), (∀ v ∈ acc, VIn G A v) → (∀ cs, (∀ v ∈ cs, VIn G A v) → Q A cs) → Sem.Fr P G (loadCellsFrom a i n acc) A Q
 | 0, i, acc, hacc, h => fr_pure (h acc hacc)
 | n + 1, i, acc, hacc, h => fr_bind (fr_load (ha.add _) fun v hv => fr_loadCellsFrom ha n (i + 1) (acc.push v) (fun x hx => (Array.mem_push.1 hx).elim (hacc x) fun e => e ▸ hv) h)
theorem fr_loadCells {a : Addr} (ha : Ina G A a) {n : Nat} {Q : (Nat → Prop) → Array Value → Prop} (h : ∀ cs, (∀ v ∈ cs, VIn G A v) → Q A cs) : Sem.Fr P G (loadCells a n) A Q :=
 fr_loadCellsFrom ha n 0 #[] (by simp) h
theorem fr_storeCells {a : Addr} (ha : Ina G A a) {Q : (Nat → Prop) → Unit → Prop} : ∀ (vs : List Value) (i : Nat), (∀ v ∈ vs, VIn G A v) → Q A () → Sem.Fr P G (storeCells a vs i) A Q
 | [], i, _, h => fr_pure h
 | v :: rest, i, hv, h => fr_bind (fr_store (ha.add _) (hv v (by simp)) (fr_storeCells ha rest (i + 1) (fun x hx => hv x (by simp [hx])) h))
theorem fr_loadVar {t : TypeId} {a : Addr} (ha : Ina G A a) {Q : (Nat → Prop) → Value → Prop} (h : ∀ v, VIn G A v → Q A v) : Sem.Fr P G (loadVar t a) A Q := by
 unfold loadVar
 refine fr_bind (fr_isAgg fun b => ?_)
 cases b with
 | true => exact fr_bind (fr_sizeOf fun n => fr_bind (fr_loadCells ha fun cs hcs => fr_pure (h _ (.agg hcs))))
 | false => exact fr_load ha h
theorem cells_in {v : Value} (h : VIn G A v) : ∀ x ∈ v.cells, VIn G A x := by
 cases v with
 | agg cs => cases h with | agg hc => exact hc
 | _ =>
   intro x hx
   simp only [Value.cells, List.mem_toArray, List.mem_cons, List.not_mem_nil, or_false] at hx
   rw [hx]
   exact h
theorem fr_storeVar {t : TypeId} {a : Addr} {v : Value} (ha : Ina G A a) (hv : VIn G A v) {Q : (Nat → Prop) → Unit → Prop} (h : Q A ()) : Sem.Fr P G (storeVar t a v) A Q := by
 unfold storeVar
 refine fr_bind (fr_sizeOf fun n => ?_)
 split
 · exact fr_bind fr_stuck
 · exact fr_storeCells ha _ _ (fun x hx => cells_in hv x (Array.mem_toList_iff.1 hx)) h
theorem fr_newRow {e : TypeId} {cs : Array Value} (hcs : ∀ v ∈ cs, VIn G A v) {Q : (Nat → Prop) → Addr → Prop} (h : ∀ r, Fresh G A r → Q (fun b => A b ∨ b = r) ⟨r, 0, none⟩) : Sem.Fr P G (newRow e cs) A Q :=
 fr_bind (fr_new (fun _ => .all hcs) fun r hr => fr_pure (h r hr))
theorem fr_newVar {e : TypeId} {v : Value} (hv : VIn G A v) {Q : (Nat → Prop) → Addr → Prop} (h : ∀ r, Fresh G A r → Q (fun b => A b ∨ b = r) ⟨r, 0, none⟩) : Sem.Fr P G (newVar e v) A Q :=
 fr_newRow (cells_in hv) h
theorem fr_elemOf {t : TypeId} {Q : (Nat → Prop) → TypeId → Prop} (h : ∀ e, Q A e) : Sem.Fr P G (elemOf t) A Q := by
 unfold elemOf
 refine fr_bind (fr_underlying fun d _ => ?_)
 split
 · exact fr_pure (h _)
 · exact fr_stuck
theorem mem_extract {α : Type} {cs : Array α} {i j : Nat} {v : α} (h : v ∈ cs.extract i j) : v ∈ cs := by
 obtain ⟨k, hk, rfl⟩ := Array.mem_iff_getElem.1 h
 simp only [Array.getElem_extract]
 exact Array.getElem_mem _
theorem fr_part {t : TypeId} {cs : Array Value} (hcs : ∀ v ∈ cs, VIn G A v) {off : Nat} {Q : (Nat → Prop) → Value → Prop} (h : ∀ v, VIn G A v → Q A v) : Sem.Fr P G (part t cs off) A Q := by
 unfold part
 refine fr_bind (fr_isAgg fun b => ?_)
 cases b with
 | true => exact fr_bind (fr_sizeOf fun n => fr_pure (h _ (.agg fun v hv => hcs v (mem_extract hv))))
 | false =>
   simp only [Bool.false_eq_true, if_false]
   split
   · rename_i v hv; exact fr_pure (h v (hcs v (Array.mem_of_getElem? hv)))
   · exact fr_stuck
theorem fr_runtimePanic {e : RuntimeError} {Q : (Nat → Prop) → α → Prop} (he : ∀ a b c d, e ≠ .typeAssertion a b c d) : Sem.Fr P G (runtimePanic e) A Q := by
 unfold runtimePanic
 refine fr_program ?_
 cases e with
 | typeAssertion a b c d => exact absurd rfl (he _ _ _ _)
 | panicNil => exact fr_bind (fr_elemOf fun e => fr_bind (fr_newVar (.agg (by simp)) fun r _ => fr_panic))
 | _ => exact fr_panic
theorem fr_boundsPanic {k : IntKind} {x y : Int} {c : BoundsCode} {Q : (Nat → Prop) → α → Prop} : Sem.Fr P G (boundsPanic k x y c) A Q := by
 unfold boundsPanic
 dsimp only
 split
 · exact fr_bind (fr_map (fr_choose fun n => fr_runtimePanic (by simp)))
 · exact fr_bind (fr_pure (fr_runtimePanic (by simp)))
theorem fr_asIntOf {v : Value} {Q : (Nat → Prop) → IntKind × Int → Prop} (h : ∀ x, Q A x) : Sem.Fr P G (asIntOf v) A Q := by
 unfold asIntOf
 split
 · exact fr_pure (h _)
 · exact fr_unsup (by simp)
 · exact fr_stuck
theorem fr_asInt {v : Value} {Q : (Nat → Prop) → Int → Prop} (h : ∀ x, Q A x) : Sem.Fr P G (asInt v) A Q := fr_bind (fr_asIntOf fun x => h _)
theorem fr_asBool {v : Value} {Q : (Nat → Prop) → Bool → Prop} (h : ∀ x, Q A x) : Sem.Fr P G (asBool v) A Q := by
 unfold asBool
 split
 · exact fr_pure (h _)
 · exact fr_stuck
theorem fr_asAgg {v : Value} (hv : VIn G A v) {Q : (Nat → Prop) → Array Value → Prop} (h : ∀ cs, (∀ x ∈ cs, VIn G A x) → Q A cs) : Sem.Fr P G (asAgg v) A Q := by
 unfold asAgg
 split
 · cases hv with | agg hc => exact fr_pure (h _ hc)
 · exact fr_stuck
theorem fr_asAddr {v : Value} (hv : VIn G A v) {Q : (Nat → Prop) → Addr → Prop} (h : ∀ a, Ina G A a → Q A a) : Sem.Fr P G (asAddr v) A Q := by
 unfold asAddr
 split
 · cases hv with | ptr ha => exact fr_pure (h _ ha)
 · exact fr_runtimePanic (by simp)
 · exact fr_stuck
theorem fr_sureAddr {v : Value} (hv : VIn G A v) {Q : (Nat → Prop) → Addr → Prop} (h : ∀ a, Ina G A a → Q A a) : Sem.Fr P G (Instr.sureAddr v) A Q := by
 unfold Instr.sureAddr
 split
 · cases hv with | ptr ha => exact fr_pure (h _ ha)
 · exact fr_stuck
end
end Go.Proofs.Ytclnogfmmekooaa
namespace Go.Proofs.Ytclnogfmmekooaa
set_option linter.unusedVariables false
set_option linter.unusedSimpArgs false
open Go.Conc
/-- What an operation may come to. -/
def NIn (P : Program) (G : Cfg) (A : Nat → Prop) : Next → Prop
 | .value v => VIn G A v
 | .skip => True
 | .enter f args => G f = true ∧ ∀ v ∈ args, VIn G A v
 | .round l _ tmps a b => A l ∧ (∀ v ∈ tmps, VIn G A v) ∧ codeOk P G a = true ∧ codeOk P G b = true
 | _ => False
section
variable {P : Program} {G : Cfg} {A : Nat → Prop}
theorem fr_alloc (hP : Clean1 P G) {e : TypeId} (he : e < P.types.size) {Q : (Nat → Prop) → Value → Prop} (h : ∀ r, Fresh G A r → Q (fun b => A b ∨ b = r) (.pointer (some ⟨r, 0, none⟩))) : Sem.Fr P G (Instr.alloc e true (.tuple #[])) A Q :=
 fr_bind (fr_zeroValue hP he fun v hv => fr_bind (fr_newVar (hv A) fun r hr => fr_pure (h r hr)))
theorem fr_box {e : TypeId} {v : Value} (hv : VIn G A v) {Q : (Nat → Prop) → Value → Prop} (h : ∀ r, Fresh G A r → Q (fun b => A b ∨ b = r) (.pointer (some ⟨r, 0, none⟩))) : Sem.Fr P G (Instr.box e v) A Q :=
 fr_bind (fr_newVar hv fun r hr => fr_pure (h r hr))
theorem foldl_set_in {cs : Array Value} (off : Nat) : ∀ (l : List (Value × Nat)), (∀ v ∈ cs, VIn G A v) → (∀ p ∈ l, VIn G A p.1) → ∀ v ∈ l.foldl (fun cs (x : Value × Nat) => cs.setIfInBounds (off + x.2) x.1) cs, VIn G A v
 | [], h, _ => h
 | (c, j) :: l, h, hl => by
   rw [List.foldl_cons]
   refine foldl_set_in off l (fun v hv => ?_) (fun p hp => hl p (by simp [hp]))
   rcases Array.mem_or_eq_of_mem_setIfInBounds hv with h1 | h1
   · exact h v h1
   · rw [h1]; exact hl (c, j) (by simp)
theorem fill_in {place : Nat → Option (Nat × Nat)} : ∀ (l : List (Nat × Value)) (cs r : Array Value), (∀ v ∈ cs, VIn G A v) → (∀ p ∈ l, VIn G A p.2) → Instr.fill place cs l = some r → ∀ v ∈ r, VIn G A v
 | [], cs, r, h, _, e => by simp only [Instr.fill, Option.some.injEq] at e; exact e ▸ h
 | (i, v) :: l, cs, r, h, hl, e => by
   simp only [Instr.fill] at e
   split at e
   · cases e
   · split at e
     · cases e
     · refine fill_in l _ r ?_ (fun p hp => hl p (by simp [hp])) e
       rw [← Array.foldl_toList]
       refine foldl_set_in _ _ h fun p hp => ?_
       have hv : VIn G A v := hl (i, v) (by simp)
       obtain ⟨x, j⟩ := p
       have := (Array.mem_toList_iff.1 hp)
       exact cells_in hv x (Array.fst_mem_of_mem_zipIdx this)
theorem fr_mapM {α β : Type} {f : α → Sem β} {R : β → Prop} {Q : (Nat → Prop) → Array β → Prop} (xs : Array α) (hf : ∀ x (Q' : (Nat → Prop) → β → Prop), (∀ y, R y → Q' A y) → Sem.Fr P G (f x) A Q') (h : ∀ ys, Q A ys) : Sem.Fr P G (xs.mapM f) A Q := by
 rw [Array.mapM_eq_foldlM, ← Array.foldlM_toList]
 generalize (#[] : Array β) = acc
 induction xs.toList generalizing acc with
 | nil => exact fr_pure (h _)
 | cons x l ih => exact fr_bind (fr_bind (hf x _ fun y _ => fr_pure (ih _)))
theorem fr_build (hP : Clean1 P G) {t : TypeId} (ht : t < P.types.size) {parts : Array (Nat × Value)} (hp : ∀ p ∈ parts, VIn G A p.2) {Q : (Nat → Prop) → Value → Prop} (h : ∀ v, VIn G A v → Q A v) : Sem.Fr P G (Instr.build t parts) A Q := by
 unfold Instr.build
 refine fr_bind (fr_zeroValue hP ht fun z hz => ?_)
 refine fr_bind (fr_underlying fun d _ => ?_)
 have hpl : ∀ p ∈ parts.toList, VIn G A p.2 := fun p hx => hp p (Array.mem_toList_iff.1 hx)
 split
 · refine fr_bind (fr_mapM (R := fun _ => True) _ (fun x Q' hQ => fr_bind (fr_sizeOf fun n => fr_pure (hQ _ trivial))) fun ys => ?_)
   split
   · rename_i cells hc; exact fr_pure (h _ (.agg (fill_in _ _ _ (cells_in (hz A)) hpl hc)))
   · exact fr_stuck
 · refine fr_bind (fr_sizeOf fun n => ?_)
   split
   · rename_i cells hc; exact fr_pure (h _ (.agg (fill_in _ _ _ (cells_in (hz A)) hpl hc)))
   · exact fr_stuck
 · exact fr_stuck
theorem range_map_in {z : Array Value} (hz : ∀ v ∈ z, VIn G A v) (n : Nat) (hn : n ≠ 0 → 0 < z.size ∨ True) : ∀ v ∈ (Array.range n).map (fun i => z[i % z.size]!), VIn G A v := by
 intro v hv
 obtain ⟨i, _, rfl⟩ := Array.mem_map.1 hv
 rw [getElem!_def]
 split
 · rename_i x hx; exact hz x (Array.mem_of_getElem? hx)
 · exact .bool _
theorem fr_buildSlice (hP : Clean1 P G) {t : TypeId} (he : ∀ e, P.underlying t = some (.slice e) → e < P.types.size) {len : Nat} {parts : Array (Nat × Value)} (hp : ∀ p ∈ parts, VIn G A p.2) {Q : (Nat → Prop) → Value → Prop} (h : ∀ r v, Fresh G A r → VIn G (fun b => A b ∨ b = r) v → Q (fun b => A b ∨ b = r) v) : Sem.Fr P G (Instr.buildSlice t len parts) A Q := by
 have hpl : ∀ p ∈ parts.toList, VIn G A p.2 := fun p hx => hp p (Array.mem_toList_iff.1 hx)
 unfold Instr.buildSlice
 (repeat' (first | (with_reducible exact fr_stuck) | (with_reducible exact fr_panic) | (with_reducible exact fr_boundsPanic) | (with_reducible exact fr_runtimePanic (by simp)) | (with_reducible exact fr_unsup (by simp)) | (with_reducible refine fr_program ?_) | (with_reducible refine fr_mayShare (fun _ => ?_) (fun _ => ?_)) | (with_reducible exact never_unsup) | (with_reducible refine never_bindR fun _ => ?_) | (with_reducible refine fr_shapeB (fun _ => ?_) (ShOk.same (by intros; rfl))) | (with_reducible refine fr_bind ?_) | (with_reducible refine fr_pure ?_) | (with_reducible refine fr_typeInfo fun _ _ => ?_) | (with_reducible refine fr_underlying fun _ _ => ?_) | (with_reducible refine fr_sizeOf fun _ => ?_) | (with_reducible refine fr_isAgg fun _ => ?_) | (with_reducible refine fr_choose fun _ => ?_) | (with_reducible refine fr_map ?_) | (with_reducible refine fr_asIntOf fun _ => ?_) | (with_reducible refine fr_asInt fun _ => ?_) | (with_reducible refine fr_asBool fun _ => ?_)  | (with_reducible refine fr_frozen fun _ => ?_) | (with_reducible refine fr_typeStr fun _ => ?_) | (with_reducible refine fr_elemOf fun _ => ?_) | (with_reducible refine fr_zeroValue (by assumption) (by first | assumption | exact he _ (by assumption)) fun _ _ => ?_) | (with_reducible refine fr_sureAddr (by assumption) fun _ _ => ?_) | (with_reducible refine fr_asAddr (by assumption) fun _ _ => ?_) | (with_reducible refine fr_asAgg (by assumption) fun _ _ => ?_) | (with_reducible refine fr_sliceBound fun _ => ?_) | (with_reducible refine fr_sliceBounds fun _ => ?_) | (with_reducible refine fr_askRoom ?_) | (with_reducible refine fr_byteOf (by assumption) fun _ => ?_) | (with_reducible refine fr_loadVar (by assumption) fun _ _ => ?_) | (with_reducible refine fr_part (by assumption) fun _ _ => ?_) | (with_reducible refine fr_fieldPlace (by assumption) fun _ _ => ?_) | (with_reducible refine fr_lenOf fun _ => ?_) | (with_reducible refine fr_mayShare fun _ => ?_) | (with_reducible refine fr_firstCells (by assumption) fun _ _ => ?_) | (with_reducible refine fr_noRoom ?_) | split | dsimp only))
 · rename_i hc
   exact fr_newRow (fill_in _ _ _ (range_map_in (by simp) _ (fun _ => .inr trivial)) hpl hc) fun r hr => fr_pure (h r _ hr (.slice _ _ (hr.ina _ _)))
 · rename_i hv _ _ hc
   exact fr_newRow (fill_in _ _ _ (range_map_in (cells_in (hv A)) _ (fun _ => .inr trivial)) hpl hc) fun r hr => fr_pure (h r _ hr (.slice _ _ (hr.ina _ _)))
theorem fr_loadAt {t : TypeId} {v : Value} (hv : VIn G A v) {Q : (Nat → Prop) → Value → Prop} (h : ∀ v, VIn G A v → Q A v) : Sem.Fr P G (Instr.loadAt t v) A Q :=
 fr_bind (fr_sureAddr hv fun a ha => fr_loadVar ha h)
theorem fr_storeAt {t : TypeId} {v x : Value} (hv : VIn G A v) (hx : VIn G A x) {Q : (Nat → Prop) → Unit → Prop} (h : Q A ()) : Sem.Fr P G (Instr.storeAt t v x) A Q :=
 fr_bind (fr_sureAddr hv fun a ha => fr_storeVar ha hx h)
theorem fr_viewAt {r : Nat} (hr : A r) {Q : (Nat → Prop) → Option (Addr × TypeId) → Prop} (h : Q A none) : Sem.Fr P G (viewAt r) A Q := by
 unfold viewAt
 refine fr_shapeB (fun s => ?_) (ShOk.same (by intros; rfl))
 split
 · exact fr_pure h
 · refine fr_bind (fr_getObj hr fun o ho => ?_)
   cases ho <;> exact fr_pure h
theorem fr_noView {a : Addr} (ha : A a.block) {Q : (Nat → Prop) → Unit → Prop} (h : Q A ()) : Sem.Fr P G (noView a) A Q :=
 fr_bind (fr_viewAt ha (fr_pure h))
theorem fr_byteOf {a : Addr} (ha : A a.block) {Q : (Nat → Prop) → Nat → Prop} (h : ∀ n, Q A n) : Sem.Fr P G (byteOf a) A Q := by
 unfold byteOf
 split
 · exact fr_pure (h _)
 · refine fr_program (fr_bind (fr_noView ha ?_))
   (repeat' (first | (with_reducible exact fr_stuck) | (with_reducible exact fr_panic) | (with_reducible exact fr_boundsPanic) | (with_reducible exact fr_runtimePanic (by simp)) | (with_reducible exact fr_unsup (by simp)) | (with_reducible refine fr_program ?_) | (with_reducible refine fr_mayShare (fun _ => ?_) (fun _ => ?_)) | (with_reducible exact never_unsup) | (with_reducible refine never_bindR fun _ => ?_) | (with_reducible refine fr_shapeB (fun _ => ?_) (ShOk.same (by intros; rfl))) | (with_reducible refine fr_bind ?_) | (with_reducible refine fr_pure ?_) | (with_reducible refine fr_typeInfo fun _ _ => ?_) | (with_reducible refine fr_underlying fun _ _ => ?_) | (with_reducible refine fr_sizeOf fun _ => ?_) | (with_reducible refine fr_isAgg fun _ => ?_) | (with_reducible refine fr_choose fun _ => ?_) | (with_reducible refine fr_map ?_) | (with_reducible refine fr_asIntOf fun _ => ?_) | (with_reducible refine fr_asInt fun _ => ?_) | (with_reducible refine fr_asBool fun _ => ?_)  | (with_reducible refine fr_frozen fun _ => ?_) | (with_reducible refine fr_typeStr fun _ => ?_) | (with_reducible refine fr_elemOf fun _ => ?_) | (with_reducible refine fr_zeroValue (by assumption) (by first | assumption | exact he _ (by assumption)) fun _ _ => ?_) | (with_reducible refine fr_sureAddr (by assumption) fun _ _ => ?_) | (with_reducible refine fr_asAddr (by assumption) fun _ _ => ?_) | (with_reducible refine fr_asAgg (by assumption) fun _ _ => ?_) | (with_reducible refine fr_sliceBound fun _ => ?_) | (with_reducible refine fr_sliceBounds fun _ => ?_) | (with_reducible refine fr_askRoom ?_) | (with_reducible refine fr_byteOf (by assumption) fun _ => ?_) | (with_reducible refine fr_loadVar (by assumption) fun _ _ => ?_) | (with_reducible refine fr_part (by assumption) fun _ _ => ?_) | (with_reducible refine fr_fieldPlace (by assumption) fun _ _ => ?_) | (with_reducible refine fr_lenOf fun _ => ?_) | (with_reducible refine fr_mayShare fun _ => ?_) | (with_reducible refine fr_firstCells (by assumption) fun _ _ => ?_) | (with_reducible refine fr_noRoom ?_) | split | dsimp only))
   all_goals exact h _
theorem fr_partAt {a : Addr} (ha : Ina G A a) {c b : Nat} {Q : (Nat → Prop) → Addr → Prop} (h : ∀ x : Addr, Ina G A x → Q A x) : Sem.Fr P G (partAt a c b) A Q := by
 unfold partAt
 refine fr_bind ?_
 refine fr_byteOf ha.blk fun n => ?_
 refine fr_bind ?_
 refine fr_byteOf (a := ⟨a.block, a.off + c, none⟩) ha.blk fun m => fr_pure (h _ ?_)
 split <;> exact ha.up rfl (Nat.le_add_right _ _)
theorem fr_fieldPlace {a : Addr} (ha : Ina G A a) {f : Field} {Q : (Nat → Prop) → Addr → Prop} (h : ∀ x : Addr, Ina G A x → Q A x) : Sem.Fr P G (fieldPlace a f) A Q := by
 unfold fieldPlace
 refine fr_bind (fr_sizeOf fun n => ?_)
 split
 · exact fr_partAt ha h
 · exact fr_pure (h _ (ha.add _))
theorem fr_fieldAt {t : TypeId} {v : Value} (hv : VIn G A v) {f : Nat} {Q : (Nat → Prop) → Value → Prop} (h : ∀ v, VIn G A v → Q A v) : Sem.Fr P G (Instr.fieldAt t v f) A Q := by
 unfold Instr.fieldAt
 (repeat' (first | (with_reducible exact fr_stuck) | (with_reducible exact fr_panic) | (with_reducible exact fr_boundsPanic) | (with_reducible exact fr_runtimePanic (by simp)) | (with_reducible exact fr_unsup (by simp)) | (with_reducible refine fr_program ?_) | (with_reducible refine fr_mayShare (fun _ => ?_) (fun _ => ?_)) | (with_reducible exact never_unsup) | (with_reducible refine never_bindR fun _ => ?_) | (with_reducible refine fr_shapeB (fun _ => ?_) (ShOk.same (by intros; rfl))) | (with_reducible refine fr_bind ?_) | (with_reducible refine fr_pure ?_) | (with_reducible refine fr_typeInfo fun _ _ => ?_) | (with_reducible refine fr_underlying fun _ _ => ?_) | (with_reducible refine fr_sizeOf fun _ => ?_) | (with_reducible refine fr_isAgg fun _ => ?_) | (with_reducible refine fr_choose fun _ => ?_) | (with_reducible refine fr_map ?_) | (with_reducible refine fr_asIntOf fun _ => ?_) | (with_reducible refine fr_asInt fun _ => ?_) | (with_reducible refine fr_asBool fun _ => ?_)  | (with_reducible refine fr_frozen fun _ => ?_) | (with_reducible refine fr_typeStr fun _ => ?_) | (with_reducible refine fr_elemOf fun _ => ?_) | (with_reducible refine fr_zeroValue (by assumption) (by first | assumption | exact he _ (by assumption)) fun _ _ => ?_) | (with_reducible refine fr_sureAddr (by assumption) fun _ _ => ?_) | (with_reducible refine fr_asAddr (by assumption) fun _ _ => ?_) | (with_reducible refine fr_asAgg (by assumption) fun _ _ => ?_) | (with_reducible refine fr_sliceBound fun _ => ?_) | (with_reducible refine fr_sliceBounds fun _ => ?_) | (with_reducible refine fr_askRoom ?_) | (with_reducible refine fr_byteOf (by assumption) fun _ => ?_) | (with_reducible refine fr_loadVar (by assumption) fun _ _ => ?_) | (with_reducible refine fr_part (by assumption) fun _ _ => ?_) | (with_reducible refine fr_fieldPlace (by assumption) fun _ _ => ?_) | (with_reducible refine fr_lenOf fun _ => ?_) | (with_reducible refine fr_mayShare fun _ => ?_) | (with_reducible refine fr_firstCells (by assumption) fun _ _ => ?_) | (with_reducible refine fr_noRoom ?_) | split | dsimp only))
 exact h _ (.ptr (by assumption))
theorem fr_indexAt {t : TypeId} {v i : Value} (hv : VIn G A v) {Q : (Nat → Prop) → Value → Prop} (h : ∀ v, VIn G A v → Q A v) : Sem.Fr P G (Instr.indexAt t v i) A Q := by
 unfold Instr.indexAt
 (repeat' (first | (with_reducible exact fr_stuck) | (with_reducible exact fr_panic) | (with_reducible exact fr_boundsPanic) | (with_reducible exact fr_runtimePanic (by simp)) | (with_reducible exact fr_unsup (by simp)) | (with_reducible refine fr_program ?_) | (with_reducible refine fr_mayShare (fun _ => ?_) (fun _ => ?_)) | (with_reducible exact never_unsup) | (with_reducible refine never_bindR fun _ => ?_) | (with_reducible refine fr_shapeB (fun _ => ?_) (ShOk.same (by intros; rfl))) | (with_reducible refine fr_bind ?_) | (with_reducible refine fr_pure ?_) | (with_reducible refine fr_typeInfo fun _ _ => ?_) | (with_reducible refine fr_underlying fun _ _ => ?_) | (with_reducible refine fr_sizeOf fun _ => ?_) | (with_reducible refine fr_isAgg fun _ => ?_) | (with_reducible refine fr_choose fun _ => ?_) | (with_reducible refine fr_map ?_) | (with_reducible refine fr_asIntOf fun _ => ?_) | (with_reducible refine fr_asInt fun _ => ?_) | (with_reducible refine fr_asBool fun _ => ?_)  | (with_reducible refine fr_frozen fun _ => ?_) | (with_reducible refine fr_typeStr fun _ => ?_) | (with_reducible refine fr_elemOf fun _ => ?_) | (with_reducible refine fr_zeroValue (by assumption) (by first | assumption | exact he _ (by assumption)) fun _ _ => ?_) | (with_reducible refine fr_sureAddr (by assumption) fun _ _ => ?_) | (with_reducible refine fr_asAddr (by assumption) fun _ _ => ?_) | (with_reducible refine fr_asAgg (by assumption) fun _ _ => ?_) | (with_reducible refine fr_sliceBound fun _ => ?_) | (with_reducible refine fr_sliceBounds fun _ => ?_) | (with_reducible refine fr_askRoom ?_) | (with_reducible refine fr_byteOf (by assumption) fun _ => ?_) | (with_reducible refine fr_loadVar (by assumption) fun _ _ => ?_) | (with_reducible refine fr_part (by assumption) fun _ _ => ?_) | (with_reducible refine fr_fieldPlace (by assumption) fun _ _ => ?_) | (with_reducible refine fr_lenOf fun _ => ?_) | (with_reducible refine fr_mayShare fun _ => ?_) | (with_reducible refine fr_firstCells (by assumption) fun _ _ => ?_) | (with_reducible refine fr_noRoom ?_) | split | dsimp only))
 all_goals (refine h _ (.ptr (Ina.add ?_ _)))
 all_goals (injections; subst_vars; first | assumption | (cases hv; assumption))
theorem fr_sliceBound {x : Value} {y : Nat} {c : BoundsCode} {Q : (Nat → Prop) → Nat → Prop} (h : ∀ n, Q A n) : Sem.Fr P G (Instr.sliceBound x y c) A Q := by
 unfold Instr.sliceBound
 (repeat' (first | (with_reducible exact fr_stuck) | (with_reducible exact fr_panic) | (with_reducible exact fr_boundsPanic) | (with_reducible exact fr_runtimePanic (by simp)) | (with_reducible exact fr_unsup (by simp)) | (with_reducible refine fr_program ?_) | (with_reducible refine fr_mayShare (fun _ => ?_) (fun _ => ?_)) | (with_reducible exact never_unsup) | (with_reducible refine never_bindR fun _ => ?_) | (with_reducible refine fr_shapeB (fun _ => ?_) (ShOk.same (by intros; rfl))) | (with_reducible refine fr_bind ?_) | (with_reducible refine fr_pure ?_) | (with_reducible refine fr_typeInfo fun _ _ => ?_) | (with_reducible refine fr_underlying fun _ _ => ?_) | (with_reducible refine fr_sizeOf fun _ => ?_) | (with_reducible refine fr_isAgg fun _ => ?_) | (with_reducible refine fr_choose fun _ => ?_) | (with_reducible refine fr_map ?_) | (with_reducible refine fr_asIntOf fun _ => ?_) | (with_reducible refine fr_asInt fun _ => ?_) | (with_reducible refine fr_asBool fun _ => ?_)  | (with_reducible refine fr_frozen fun _ => ?_) | (with_reducible refine fr_typeStr fun _ => ?_) | (with_reducible refine fr_elemOf fun _ => ?_) | (with_reducible refine fr_zeroValue (by assumption) (by first | assumption | exact he _ (by assumption)) fun _ _ => ?_) | (with_reducible refine fr_sureAddr (by assumption) fun _ _ => ?_) | (with_reducible refine fr_asAddr (by assumption) fun _ _ => ?_) | (with_reducible refine fr_asAgg (by assumption) fun _ _ => ?_) | (with_reducible refine fr_sliceBound fun _ => ?_) | (with_reducible refine fr_sliceBounds fun _ => ?_) | (with_reducible refine fr_askRoom ?_) | (with_reducible refine fr_byteOf (by assumption) fun _ => ?_) | (with_reducible refine fr_loadVar (by assumption) fun _ _ => ?_) | (with_reducible refine fr_part (by assumption) fun _ _ => ?_) | (with_reducible refine fr_fieldPlace (by assumption) fun _ _ => ?_) | (with_reducible refine fr_lenOf fun _ => ?_) | (with_reducible refine fr_mayShare fun _ => ?_) | (with_reducible refine fr_firstCells (by assumption) fun _ _ => ?_) | (with_reducible refine fr_noRoom ?_) | split | dsimp only))
 exact h _
theorem fr_sliceBounds {b : Bool} {n c : Nat} {lo hi mx : Option Value} {Q : (Nat → Prop) → Nat × Nat × Nat → Prop} (h : ∀ x, Q A x) : Sem.Fr P G (Instr.sliceBounds b n c lo hi mx) A Q := by
 unfold Instr.sliceBounds
 cases lo <;> cases hi <;> cases mx <;> (repeat' (first | (with_reducible exact fr_stuck) | (with_reducible exact fr_panic) | (with_reducible exact fr_boundsPanic) | (with_reducible exact fr_runtimePanic (by simp)) | (with_reducible exact fr_unsup (by simp)) | (with_reducible refine fr_program ?_) | (with_reducible refine fr_mayShare (fun _ => ?_) (fun _ => ?_)) | (with_reducible exact never_unsup) | (with_reducible refine never_bindR fun _ => ?_) | (with_reducible refine fr_shapeB (fun _ => ?_) (ShOk.same (by intros; rfl))) | (with_reducible refine fr_bind ?_) | (with_reducible refine fr_pure ?_) | (with_reducible refine fr_typeInfo fun _ _ => ?_) | (with_reducible refine fr_underlying fun _ _ => ?_) | (with_reducible refine fr_sizeOf fun _ => ?_) | (with_reducible refine fr_isAgg fun _ => ?_) | (with_reducible refine fr_choose fun _ => ?_) | (with_reducible refine fr_map ?_) | (with_reducible refine fr_asIntOf fun _ => ?_) | (with_reducible refine fr_asInt fun _ => ?_) | (with_reducible refine fr_asBool fun _ => ?_)  | (with_reducible refine fr_frozen fun _ => ?_) | (with_reducible refine fr_typeStr fun _ => ?_) | (with_reducible refine fr_elemOf fun _ => ?_) | (with_reducible refine fr_zeroValue (by assumption) (by first | assumption | exact he _ (by assumption)) fun _ _ => ?_) | (with_reducible refine fr_sureAddr (by assumption) fun _ _ => ?_) | (with_reducible refine fr_asAddr (by assumption) fun _ _ => ?_) | (with_reducible refine fr_asAgg (by assumption) fun _ _ => ?_) | (with_reducible refine fr_sliceBound fun _ => ?_) | (with_reducible refine fr_sliceBounds fun _ => ?_) | (with_reducible refine fr_askRoom ?_) | (with_reducible refine fr_byteOf (by assumption) fun _ => ?_) | (with_reducible refine fr_loadVar (by assumption) fun _ _ => ?_) | (with_reducible refine fr_part (by assumption) fun _ _ => ?_) | (with_reducible refine fr_fieldPlace (by assumption) fun _ _ => ?_) | (with_reducible refine fr_lenOf fun _ => ?_) | (with_reducible refine fr_mayShare fun _ => ?_) | (with_reducible refine fr_firstCells (by assumption) fun _ _ => ?_) | (with_reducible refine fr_noRoom ?_) | split | dsimp only))
 all_goals exact h _
theorem fr_slice {t : TypeId} {x : Value} (hx : VIn G A x) {lo hi mx : Option Value} {Q : (Nat → Prop) → Value → Prop} (h : ∀ v, VIn G A v → Q A v) : Sem.Fr P G (Instr.slice t x lo hi mx) A Q := by
 unfold Instr.slice
 (repeat' (first | (with_reducible exact fr_stuck) | (with_reducible exact fr_panic) | (with_reducible exact fr_boundsPanic) | (with_reducible exact fr_runtimePanic (by simp)) | (with_reducible exact fr_unsup (by simp)) | (with_reducible refine fr_program ?_) | (with_reducible refine fr_mayShare (fun _ => ?_) (fun _ => ?_)) | (with_reducible exact never_unsup) | (with_reducible refine never_bindR fun _ => ?_) | (with_reducible refine fr_shapeB (fun _ => ?_) (ShOk.same (by intros; rfl))) | (with_reducible refine fr_bind ?_) | (with_reducible refine fr_pure ?_) | (with_reducible refine fr_typeInfo fun _ _ => ?_) | (with_reducible refine fr_underlying fun _ _ => ?_) | (with_reducible refine fr_sizeOf fun _ => ?_) | (with_reducible refine fr_isAgg fun _ => ?_) | (with_reducible refine fr_choose fun _ => ?_) | (with_reducible refine fr_map ?_) | (with_reducible refine fr_asIntOf fun _ => ?_) | (with_reducible refine fr_asInt fun _ => ?_) | (with_reducible refine fr_asBool fun _ => ?_)  | (with_reducible refine fr_frozen fun _ => ?_) | (with_reducible refine fr_typeStr fun _ => ?_) | (with_reducible refine fr_elemOf fun _ => ?_) | (with_reducible refine fr_zeroValue (by assumption) (by first | assumption | exact he _ (by assumption)) fun _ _ => ?_) | (with_reducible refine fr_sureAddr (by assumption) fun _ _ => ?_) | (with_reducible refine fr_asAddr (by assumption) fun _ _ => ?_) | (with_reducible refine fr_asAgg (by assumption) fun _ _ => ?_) | (with_reducible refine fr_sliceBound fun _ => ?_) | (with_reducible refine fr_sliceBounds fun _ => ?_) | (with_reducible refine fr_askRoom ?_) | (with_reducible refine fr_byteOf (by assumption) fun _ => ?_) | (with_reducible refine fr_loadVar (by assumption) fun _ _ => ?_) | (with_reducible refine fr_part (by assumption) fun _ _ => ?_) | (with_reducible refine fr_fieldPlace (by assumption) fun _ _ => ?_) | (with_reducible refine fr_lenOf fun _ => ?_) | (with_reducible refine fr_mayShare fun _ => ?_) | (with_reducible refine fr_firstCells (by assumption) fun _ _ => ?_) | (with_reducible refine fr_noRoom ?_) | split | dsimp only))
 all_goals refine h _ ?_
 all_goals first | exact .string _ | assumption | exact .slice _ _ (by assumption) | exact .slice _ _ (Ina.add (by assumption) _) | (cases hx <;> first | exact .slice0 _ _ | exact .slice _ _ (by assumption) | exact .slice _ _ (Ina.add (by assumption) _))
theorem fr_sliceAt {t : TypeId} {x : Value} (hx : VIn G A x) {lo hi mx : Option Value} {Q : (Nat → Prop) → Value → Prop} (h : ∀ v, VIn G A v → Q A v) : Sem.Fr P G (Instr.sliceAt t x lo hi mx) A Q := by
 unfold Instr.sliceAt
 (repeat' (first | (with_reducible exact fr_stuck) | (with_reducible exact fr_panic) | (with_reducible exact fr_boundsPanic) | (with_reducible exact fr_runtimePanic (by simp)) | (with_reducible exact fr_unsup (by simp)) | (with_reducible refine fr_program ?_) | (with_reducible refine fr_mayShare (fun _ => ?_) (fun _ => ?_)) | (with_reducible exact never_unsup) | (with_reducible refine never_bindR fun _ => ?_) | (with_reducible refine fr_shapeB (fun _ => ?_) (ShOk.same (by intros; rfl))) | (with_reducible refine fr_bind ?_) | (with_reducible refine fr_pure ?_) | (with_reducible refine fr_typeInfo fun _ _ => ?_) | (with_reducible refine fr_underlying fun _ _ => ?_) | (with_reducible refine fr_sizeOf fun _ => ?_) | (with_reducible refine fr_isAgg fun _ => ?_) | (with_reducible refine fr_choose fun _ => ?_) | (with_reducible refine fr_map ?_) | (with_reducible refine fr_asIntOf fun _ => ?_) | (with_reducible refine fr_asInt fun _ => ?_) | (with_reducible refine fr_asBool fun _ => ?_)  | (with_reducible refine fr_frozen fun _ => ?_) | (with_reducible refine fr_typeStr fun _ => ?_) | (with_reducible refine fr_elemOf fun _ => ?_) | (with_reducible refine fr_zeroValue (by assumption) (by first | assumption | exact he _ (by assumption)) fun _ _ => ?_) | (with_reducible refine fr_sureAddr (by assumption) fun _ _ => ?_) | (with_reducible refine fr_asAddr (by assumption) fun _ _ => ?_) | (with_reducible refine fr_asAgg (by assumption) fun _ _ => ?_) | (with_reducible refine fr_sliceBound fun _ => ?_) | (with_reducible refine fr_sliceBounds fun _ => ?_) | (with_reducible refine fr_askRoom ?_) | (with_reducible refine fr_byteOf (by assumption) fun _ => ?_) | (with_reducible refine fr_loadVar (by assumption) fun _ _ => ?_) | (with_reducible refine fr_part (by assumption) fun _ _ => ?_) | (with_reducible refine fr_fieldPlace (by assumption) fun _ _ => ?_) | (with_reducible refine fr_lenOf fun _ => ?_) | (with_reducible refine fr_mayShare fun _ => ?_) | (with_reducible refine fr_firstCells (by assumption) fun _ _ => ?_) | (with_reducible refine fr_noRoom ?_) | split | dsimp only))
 all_goals first | exact fr_slice hx h | refine h _ ?_
 all_goals first | exact .slice _ _ (by assumption) | exact .slice _ _ (Ina.add (by assumption) _)
theorem fr_field {t : TypeId} {x : Value} (hx : VIn G A x) {f : Nat} {Q : (Nat → Prop) → Value → Prop} (h : ∀ v, VIn G A v → Q A v) : Sem.Fr P G (Instr.field t x f) A Q := by
 unfold Instr.field
 (repeat' (first | (with_reducible exact fr_stuck) | (with_reducible exact fr_panic) | (with_reducible exact fr_boundsPanic) | (with_reducible exact fr_runtimePanic (by simp)) | (with_reducible exact fr_unsup (by simp)) | (with_reducible refine fr_program ?_) | (with_reducible refine fr_mayShare (fun _ => ?_) (fun _ => ?_)) | (with_reducible exact never_unsup) | (with_reducible refine never_bindR fun _ => ?_) | (with_reducible refine fr_shapeB (fun _ => ?_) (ShOk.same (by intros; rfl))) | (with_reducible refine fr_bind ?_) | (with_reducible refine fr_pure ?_) | (with_reducible refine fr_typeInfo fun _ _ => ?_) | (with_reducible refine fr_underlying fun _ _ => ?_) | (with_reducible refine fr_sizeOf fun _ => ?_) | (with_reducible refine fr_isAgg fun _ => ?_) | (with_reducible refine fr_choose fun _ => ?_) | (with_reducible refine fr_map ?_) | (with_reducible refine fr_asIntOf fun _ => ?_) | (with_reducible refine fr_asInt fun _ => ?_) | (with_reducible refine fr_asBool fun _ => ?_)  | (with_reducible refine fr_frozen fun _ => ?_) | (with_reducible refine fr_typeStr fun _ => ?_) | (with_reducible refine fr_elemOf fun _ => ?_) | (with_reducible refine fr_zeroValue (by assumption) (by first | assumption | exact he _ (by assumption)) fun _ _ => ?_) | (with_reducible refine fr_sureAddr (by assumption) fun _ _ => ?_) | (with_reducible refine fr_asAddr (by assumption) fun _ _ => ?_) | (with_reducible refine fr_asAgg (by assumption) fun _ _ => ?_) | (with_reducible refine fr_sliceBound fun _ => ?_) | (with_reducible refine fr_sliceBounds fun _ => ?_) | (with_reducible refine fr_askRoom ?_) | (with_reducible refine fr_byteOf (by assumption) fun _ => ?_) | (with_reducible refine fr_loadVar (by assumption) fun _ _ => ?_) | (with_reducible refine fr_part (by assumption) fun _ _ => ?_) | (with_reducible refine fr_fieldPlace (by assumption) fun _ _ => ?_) | (with_reducible refine fr_lenOf fun _ => ?_) | (with_reducible refine fr_mayShare fun _ => ?_) | (with_reducible refine fr_firstCells (by assumption) fun _ _ => ?_) | (with_reducible refine fr_noRoom ?_) | split | dsimp only))
 exact h _ (by assumption)
theorem fr_extract {x : Value} (hx : VIn G A x) {i : Nat} {Q : (Nat → Prop) → Value → Prop} (h : ∀ v, VIn G A v → Q A v) : Sem.Fr P G (Instr.extract x i) A Q := by
 unfold Instr.extract
 split
 · cases hx with | tuple hv =>
   split
   · rename_i v hv'; exact fr_pure (h _ (hv _ (Array.mem_of_getElem? hv')))
   · exact fr_stuck
 · exact fr_stuck
theorem fr_makeInterface {t : TypeId} {x : Value} (hx : VIn G A x) {Q : (Nat → Prop) → Value → Prop} (h : ∀ v, VIn G A v → Q A v) : Sem.Fr P G (Instr.makeInterface t x) A Q := by
 unfold Instr.makeInterface
 refine fr_bind (fr_underlying fun d _ => ?_)
 split
 · exact fr_stuck
 · exact fr_pure (h _ (.iface hx))
theorem fr_makeMap {t : TypeId} {x : Option Value} {Q : (Nat → Prop) → Value → Prop} (h : ∀ r, Fresh G A r → Q (fun b => A b ∨ b = r) (.map (some r))) : Sem.Fr P G (Instr.makeMap t x) A Q := by
 unfold Instr.makeMap
 have fin : Sem.Fr P G (do pure (.map (some (← newObj (.map #[] 0)))) : Sem Value) A Q := fr_bind (fr_new (fun _ => .map (by simp)) fun r hr => fr_pure (h r hr))
 cases x with
 | none => exact fin
 | some v =>
   refine fr_bind (fr_underlying fun d _ => ?_)
   split
   · exact fr_bind (fr_asInt fun _ => fin)
   · exact fr_stuck
theorem fr_askRoom {n : Nat} {Q : (Nat → Prop) → Unit → Prop} (h : Q A ()) : Sem.Fr P G (askRoom n) A Q := by
 unfold askRoom
 split
 · exact ⟨rfl, h⟩
 · exact fr_pure h
theorem fr_makeSlice (hP : Clean1 P G) {t : TypeId} (he : ∀ e, P.underlying t = some (.slice e) → e < P.types.size) {x y : Value} {Q : (Nat → Prop) → Value → Prop} (h : ∀ r v, Fresh G A r → VIn G (fun b => A b ∨ b = r) v → Q (fun b => A b ∨ b = r) v) : Sem.Fr P G (Instr.makeSlice t x y) A Q := by
 unfold Instr.makeSlice
 (repeat' (first | (with_reducible exact fr_stuck) | (with_reducible exact fr_panic) | (with_reducible exact fr_boundsPanic) | (with_reducible exact fr_runtimePanic (by simp)) | (with_reducible exact fr_unsup (by simp)) | (with_reducible refine fr_program ?_) | (with_reducible refine fr_mayShare (fun _ => ?_) (fun _ => ?_)) | (with_reducible exact never_unsup) | (with_reducible refine never_bindR fun _ => ?_) | (with_reducible refine fr_shapeB (fun _ => ?_) (ShOk.same (by intros; rfl))) | (with_reducible refine fr_bind ?_) | (with_reducible refine fr_pure ?_) | (with_reducible refine fr_typeInfo fun _ _ => ?_) | (with_reducible refine fr_underlying fun _ _ => ?_) | (with_reducible refine fr_sizeOf fun _ => ?_) | (with_reducible refine fr_isAgg fun _ => ?_) | (with_reducible refine fr_choose fun _ => ?_) | (with_reducible refine fr_map ?_) | (with_reducible refine fr_asIntOf fun _ => ?_) | (with_reducible refine fr_asInt fun _ => ?_) | (with_reducible refine fr_asBool fun _ => ?_)  | (with_reducible refine fr_frozen fun _ => ?_) | (with_reducible refine fr_typeStr fun _ => ?_) | (with_reducible refine fr_elemOf fun _ => ?_) | (with_reducible refine fr_zeroValue (by assumption) (by first | assumption | exact he _ (by assumption)) fun _ _ => ?_) | (with_reducible refine fr_sureAddr (by assumption) fun _ _ => ?_) | (with_reducible refine fr_asAddr (by assumption) fun _ _ => ?_) | (with_reducible refine fr_asAgg (by assumption) fun _ _ => ?_) | (with_reducible refine fr_sliceBound fun _ => ?_) | (with_reducible refine fr_sliceBounds fun _ => ?_) | (with_reducible refine fr_askRoom ?_) | (with_reducible refine fr_byteOf (by assumption) fun _ => ?_) | (with_reducible refine fr_loadVar (by assumption) fun _ _ => ?_) | (with_reducible refine fr_part (by assumption) fun _ _ => ?_) | (with_reducible refine fr_fieldPlace (by assumption) fun _ _ => ?_) | (with_reducible refine fr_lenOf fun _ => ?_) | (with_reducible refine fr_mayShare fun _ => ?_) | (with_reducible refine fr_firstCells (by assumption) fun _ _ => ?_) | (with_reducible refine fr_noRoom ?_) | split | dsimp only))
 · exact fr_newRow (range_map_in (by simp) _ (fun _ => .inr trivial)) fun r hr => fr_pure (h r _ hr (.slice _ _ (hr.ina _ _)))
 · rename_i hv
   exact fr_newRow (range_map_in (cells_in (hv A)) _ (fun _ => .inr trivial)) fun r hr => fr_pure (h r _ hr (.slice _ _ (hr.ina _ _)))
theorem fr_numberAt {r : Nat} (hr : A r) {Q : (Nat → Prop) → Option (Addr × Bool) → Prop} (h : ∀ x, (∀ a b, x = some (a, b) → A a.block) → Q A x) : Sem.Fr P G (numberAt r) A Q := by
 unfold numberAt
 refine fr_shapeB (fun s => ?_) (ShOk.same (by intros; rfl))
 split
 · exact fr_pure (h _ (by simp))
 · refine fr_bind (fr_getObj hr fun o ho => ?_)
   cases ho with
   | number ha => exact fr_pure (h _ (by intro a b e; cases e; exact ha))
   | _ => exact fr_pure (h _ (by simp))
theorem fr_behindNumber {a : Addr} (ha : A a.block) {Q : (Nat → Prop) → Addr × Bool → Prop} (h : ∀ x : Addr × Bool, A x.1.block → Q A x) : Sem.Fr P G (behindNumber a) A Q := by
 unfold behindNumber
 refine fr_bind (fr_numberAt ha fun x hx => fr_pure (h _ ?_))
 cases x with
 | none => exact ha
 | some y => exact hx _ _ rfl
end
end Go.Proofs.Ytclnogfmmekooaa
namespace Go.Proofs.Ytclnogfmmekooaa
set_option linter.unusedVariables false
set_option linter.unusedSimpArgs false
open Go.Conc
section
variable {P : Program} {G : Cfg} {A : Nat → Prop}
theorem fr_forIn {α β : Type} {f : α → β → Sem (ForInStep β)} {I : β → Prop} {Q : (Nat → Prop) → β → Prop} (h : ∀ s, I s → Q A s)
 (hf : ∀ x s (Q' : (Nat → Prop) → ForInStep β → Prop), I s → (∀ s', I s' → Q' A (.done s')) → (∀ s', I s' → Q' A (.yield s')) → Sem.Fr P G (f x s) A Q') :
 ∀ (l : List α) (s : β), I s → Sem.Fr P G (forIn l s f) A Q
 | [], s, hs => by rw [List.forIn_nil]; exact fr_pure (h s hs)
 | x :: l, s, hs => by
   rw [List.forIn_cons]
   refine fr_bind (hf x s _ hs (fun s' h' => fr_pure (h s' h')) (fun s' h' => fr_forIn h hf l s' h'))
theorem fr_forInA {α β : Type} {f : α → β → Sem (ForInStep β)} {I : β → Prop} {Q : (Nat → Prop) → β → Prop} {xs : Array α} {s : β} (hs : I s) (h : ∀ s, I s → Q A s)
 (hf : ∀ x s (Q' : (Nat → Prop) → ForInStep β → Prop), I s → (∀ s', I s' → Q' A (.done s')) → (∀ s', I s' → Q' A (.yield s')) → Sem.Fr P G (f x s) A Q') : Sem.Fr P G (forIn xs s f) A Q := by
 rw [← Array.forIn_toList]; exact fr_forIn h hf _ _ hs
theorem fr_forInM {α β : Type} {f : α → β → Sem (ForInStep β)} {I : β → Prop} {Q : (Nat → Prop) → β → Prop} (h : ∀ s, I s → Q A s) :
 ∀ (l : List α) (s : β), I s → (∀ x ∈ l, ∀ s (Q' : (Nat → Prop) → ForInStep β → Prop), I s → (∀ s', I s' → Q' A (.done s')) → (∀ s', I s' → Q' A (.yield s')) → Sem.Fr P G (f x s) A Q') → Sem.Fr P G (forIn l s f) A Q
 | [], s, hs, _ => by rw [List.forIn_nil]; exact fr_pure (h s hs)
 | x :: l, s, hs, hf => by
   rw [List.forIn_cons]
   refine fr_bind (hf x (by simp) s _ hs (fun s' h' => fr_pure (h s' h')) (fun s' h' => fr_forInM h l s' h' fun y hy => hf y (by simp [hy])))
theorem fr_forInR {β : Type} {f : Nat → β → Sem (ForInStep β)} {I : β → Prop} {Q : (Nat → Prop) → β → Prop} {r : Std.Legacy.Range} {s : β} (hs : I s) (h : ∀ s, I s → Q A s)
 (hf : ∀ x s (Q' : (Nat → Prop) → ForInStep β → Prop), I s → (∀ s', I s' → Q' A (.done s')) → (∀ s', I s' → Q' A (.yield s')) → Sem.Fr P G (f x s) A Q') : Sem.Fr P G (forIn r s f) A Q := by
 rw [Std.Legacy.Range.forIn_eq_forIn_range']; exact fr_forIn h hf _ _ hs
theorem agg_in {cs : Array Value} (h : VIn G A (.agg cs)) : ∀ v ∈ cs, VIn G A v := by cases h; assumption
theorem iface_in {t : TypeId} {v : Value} (h : VIn G A (.iface t v)) : VIn G A v := by cases h; assumption
theorem ptr_in {a : Addr} (h : VIn G A (.pointer (some a))) : Ina G A a := by cases h; assumption
theorem fr_equalIn : ∀ (d e : Nat) (t : TypeId) (x y : Value), eqOk P e t = true → VIn G A x → VIn G A y → ∀ {Q : (Nat → Prop) → Bool → Prop}, (∀ b, Q A b) → Sem.Fr P G (Op.equalIn d t x y) A Q
 | 0, _, _, _, _, _, _, _, _, _ => fr_unsup (by simp)
 | _, 0, _, _, _, he, _, _, _, _ => by simp [eqOk] at he
 | d + 1, e + 1, t, x, y, he, hx, hy, Q, h => by
   unfold Op.equalIn
   refine fr_bind ?_
   refine fr_underlying fun ty hty => ?_
   simp only [eqOk, hty] at he
   split
   all_goals try exact fr_pure (h _)
   all_goals try exact fr_unsup (by simp)
   all_goals try exact fr_stuck
   all_goals try (simp at he; done)
   · split
     · exact fr_pure (h _)
     · exact fr_stuck
   · refine fr_bind (fr_behindNumber (ptr_in hx).blk fun a ha => ?_)
     refine fr_bind (fr_behindNumber (ptr_in hy).blk fun b hb => ?_)
     dsimp only
     refine fr_program ?_
     split
     · refine fr_bind (fr_byteOf ha fun m => ?_)
       refine fr_bind (fr_byteOf hb fun n => fr_pure (h _))
     · (repeat' (first | (with_reducible exact fr_stuck) | (with_reducible exact fr_panic) | (with_reducible exact fr_boundsPanic) | (with_reducible exact fr_runtimePanic (by simp)) | (with_reducible exact fr_unsup (by simp)) | (with_reducible refine fr_program ?_) | (with_reducible refine fr_mayShare (fun _ => ?_) (fun _ => ?_)) | (with_reducible exact never_unsup) | (with_reducible refine never_bindR fun _ => ?_) | (with_reducible refine fr_shapeB (fun _ => ?_) (ShOk.same (by intros; rfl))) | (with_reducible refine fr_bind ?_) | (with_reducible refine fr_pure ?_) | (with_reducible refine fr_typeInfo fun _ _ => ?_) | (with_reducible refine fr_underlying fun _ _ => ?_) | (with_reducible refine fr_sizeOf fun _ => ?_) | (with_reducible refine fr_isAgg fun _ => ?_) | (with_reducible refine fr_choose fun _ => ?_) | (with_reducible refine fr_map ?_) | (with_reducible refine fr_asIntOf fun _ => ?_) | (with_reducible refine fr_asInt fun _ => ?_) | (with_reducible refine fr_asBool fun _ => ?_)  | (with_reducible refine fr_frozen fun _ => ?_) | (with_reducible refine fr_typeStr fun _ => ?_) | (with_reducible refine fr_elemOf fun _ => ?_) | (with_reducible refine fr_zeroValue (by assumption) (by first | assumption | exact he _ (by assumption)) fun _ _ => ?_) | (with_reducible refine fr_sureAddr (by assumption) fun _ _ => ?_) | (with_reducible refine fr_asAddr (by assumption) fun _ _ => ?_) | (with_reducible refine fr_asAgg (by assumption) fun _ _ => ?_) | (with_reducible refine fr_sliceBound fun _ => ?_) | (with_reducible refine fr_sliceBounds fun _ => ?_) | (with_reducible refine fr_askRoom ?_) | (with_reducible refine fr_byteOf (by assumption) fun _ => ?_) | (with_reducible refine fr_loadVar (by assumption) fun _ _ => ?_) | (with_reducible refine fr_part (by assumption) fun _ _ => ?_) | (with_reducible refine fr_fieldPlace (by assumption) fun _ _ => ?_) | (with_reducible refine fr_lenOf fun _ => ?_) | (with_reducible refine fr_mayShare fun _ => ?_) | (with_reducible refine fr_firstCells (by assumption) fun _ _ => ?_) | (with_reducible refine fr_noRoom ?_) | split | dsimp only))
       all_goals exact h _
   · (repeat' (first | (with_reducible exact fr_stuck) | (with_reducible exact fr_panic) | (with_reducible exact fr_boundsPanic) | (with_reducible exact fr_runtimePanic (by simp)) | (with_reducible exact fr_unsup (by simp)) | (with_reducible refine fr_program ?_) | (with_reducible refine fr_mayShare (fun _ => ?_) (fun _ => ?_)) | (with_reducible exact never_unsup) | (with_reducible refine never_bindR fun _ => ?_) | (with_reducible refine fr_shapeB (fun _ => ?_) (ShOk.same (by intros; rfl))) | (with_reducible refine fr_bind ?_) | (with_reducible refine fr_pure ?_) | (with_reducible refine fr_typeInfo fun _ _ => ?_) | (with_reducible refine fr_underlying fun _ _ => ?_) | (with_reducible refine fr_sizeOf fun _ => ?_) | (with_reducible refine fr_isAgg fun _ => ?_) | (with_reducible refine fr_choose fun _ => ?_) | (with_reducible refine fr_map ?_) | (with_reducible refine fr_asIntOf fun _ => ?_) | (with_reducible refine fr_asInt fun _ => ?_) | (with_reducible refine fr_asBool fun _ => ?_)  | (with_reducible refine fr_frozen fun _ => ?_) | (with_reducible refine fr_typeStr fun _ => ?_) | (with_reducible refine fr_elemOf fun _ => ?_) | (with_reducible refine fr_zeroValue (by assumption) (by first | assumption | exact he _ (by assumption)) fun _ _ => ?_) | (with_reducible refine fr_sureAddr (by assumption) fun _ _ => ?_) | (with_reducible refine fr_asAddr (by assumption) fun _ _ => ?_) | (with_reducible refine fr_asAgg (by assumption) fun _ _ => ?_) | (with_reducible refine fr_sliceBound fun _ => ?_) | (with_reducible refine fr_sliceBounds fun _ => ?_) | (with_reducible refine fr_askRoom ?_) | (with_reducible refine fr_byteOf (by assumption) fun _ => ?_) | (with_reducible refine fr_loadVar (by assumption) fun _ _ => ?_) | (with_reducible refine fr_part (by assumption) fun _ _ => ?_) | (with_reducible refine fr_fieldPlace (by assumption) fun _ _ => ?_) | (with_reducible refine fr_lenOf fun _ => ?_) | (with_reducible refine fr_mayShare fun _ => ?_) | (with_reducible refine fr_firstCells (by assumption) fun _ _ => ?_) | (with_reducible refine fr_noRoom ?_) | split | dsimp only))
     all_goals exact h _
   · have hcx := agg_in hx
     have hcy := agg_in hy
     refine fr_program ?_
     split
     · exact fr_bind (fr_unsup (by simp))
     · refine fr_bind ?_
       rw [← Array.forIn_toList]
       refine fr_forInM (I := fun _ => True) (fun s _ => ?_) _ _ trivial (fun f hf s Q' _ hd hy' => ?_)
       · (repeat' (first | (with_reducible exact fr_stuck) | (with_reducible exact fr_panic) | (with_reducible exact fr_boundsPanic) | (with_reducible exact fr_runtimePanic (by simp)) | (with_reducible exact fr_unsup (by simp)) | (with_reducible refine fr_program ?_) | (with_reducible refine fr_mayShare (fun _ => ?_) (fun _ => ?_)) | (with_reducible exact never_unsup) | (with_reducible refine never_bindR fun _ => ?_) | (with_reducible refine fr_shapeB (fun _ => ?_) (ShOk.same (by intros; rfl))) | (with_reducible refine fr_bind ?_) | (with_reducible refine fr_pure ?_) | (with_reducible refine fr_typeInfo fun _ _ => ?_) | (with_reducible refine fr_underlying fun _ _ => ?_) | (with_reducible refine fr_sizeOf fun _ => ?_) | (with_reducible refine fr_isAgg fun _ => ?_) | (with_reducible refine fr_choose fun _ => ?_) | (with_reducible refine fr_map ?_) | (with_reducible refine fr_asIntOf fun _ => ?_) | (with_reducible refine fr_asInt fun _ => ?_) | (with_reducible refine fr_asBool fun _ => ?_)  | (with_reducible refine fr_frozen fun _ => ?_) | (with_reducible refine fr_typeStr fun _ => ?_) | (with_reducible refine fr_elemOf fun _ => ?_) | (with_reducible refine fr_zeroValue (by assumption) (by first | assumption | exact he _ (by assumption)) fun _ _ => ?_) | (with_reducible refine fr_sureAddr (by assumption) fun _ _ => ?_) | (with_reducible refine fr_asAddr (by assumption) fun _ _ => ?_) | (with_reducible refine fr_asAgg (by assumption) fun _ _ => ?_) | (with_reducible refine fr_sliceBound fun _ => ?_) | (with_reducible refine fr_sliceBounds fun _ => ?_) | (with_reducible refine fr_askRoom ?_) | (with_reducible refine fr_byteOf (by assumption) fun _ => ?_) | (with_reducible refine fr_loadVar (by assumption) fun _ _ => ?_) | (with_reducible refine fr_part (by assumption) fun _ _ => ?_) | (with_reducible refine fr_fieldPlace (by assumption) fun _ _ => ?_) | (with_reducible refine fr_lenOf fun _ => ?_) | (with_reducible refine fr_mayShare fun _ => ?_) | (with_reducible refine fr_firstCells (by assumption) fun _ _ => ?_) | (with_reducible refine fr_noRoom ?_) | split | dsimp only))
         all_goals exact h _
       · have hef := Array.all_eq_true'.1 he f (Array.mem_toList_iff.1 hf)
         (repeat' (first | (with_reducible exact fr_stuck) | (with_reducible exact fr_panic) | (with_reducible exact fr_boundsPanic) | (with_reducible exact fr_runtimePanic (by simp)) | (with_reducible exact fr_unsup (by simp)) | (with_reducible refine fr_program ?_) | (with_reducible refine fr_mayShare (fun _ => ?_) (fun _ => ?_)) | (with_reducible exact never_unsup) | (with_reducible refine never_bindR fun _ => ?_) | (with_reducible refine fr_shapeB (fun _ => ?_) (ShOk.same (by intros; rfl))) | (with_reducible refine fr_bind ?_) | (with_reducible refine fr_pure ?_) | (with_reducible refine fr_typeInfo fun _ _ => ?_) | (with_reducible refine fr_underlying fun _ _ => ?_) | (with_reducible refine fr_sizeOf fun _ => ?_) | (with_reducible refine fr_isAgg fun _ => ?_) | (with_reducible refine fr_choose fun _ => ?_) | (with_reducible refine fr_map ?_) | (with_reducible refine fr_asIntOf fun _ => ?_) | (with_reducible refine fr_asInt fun _ => ?_) | (with_reducible refine fr_asBool fun _ => ?_)  | (with_reducible refine fr_frozen fun _ => ?_) | (with_reducible refine fr_typeStr fun _ => ?_) | (with_reducible refine fr_elemOf fun _ => ?_) | (with_reducible refine fr_zeroValue (by assumption) (by first | assumption | exact he _ (by assumption)) fun _ _ => ?_) | (with_reducible refine fr_sureAddr (by assumption) fun _ _ => ?_) | (with_reducible refine fr_asAddr (by assumption) fun _ _ => ?_) | (with_reducible refine fr_asAgg (by assumption) fun _ _ => ?_) | (with_reducible refine fr_sliceBound fun _ => ?_) | (with_reducible refine fr_sliceBounds fun _ => ?_) | (with_reducible refine fr_askRoom ?_) | (with_reducible refine fr_byteOf (by assumption) fun _ => ?_) | (with_reducible refine fr_loadVar (by assumption) fun _ _ => ?_) | (with_reducible refine fr_part (by assumption) fun _ _ => ?_) | (with_reducible refine fr_fieldPlace (by assumption) fun _ _ => ?_) | (with_reducible refine fr_lenOf fun _ => ?_) | (with_reducible refine fr_mayShare fun _ => ?_) | (with_reducible refine fr_firstCells (by assumption) fun _ _ => ?_) | (with_reducible refine fr_noRoom ?_) | split | dsimp only))
         all_goals try exact hd _ trivial
         all_goals try exact hy' _ trivial
         all_goals (refine fr_equalIn d e _ _ _ hef (by assumption) (by assumption) fun b => ?_)
         all_goals (repeat' (first | (with_reducible exact fr_stuck) | (with_reducible exact fr_panic) | (with_reducible exact fr_boundsPanic) | (with_reducible exact fr_runtimePanic (by simp)) | (with_reducible exact fr_unsup (by simp)) | (with_reducible refine fr_program ?_) | (with_reducible refine fr_mayShare (fun _ => ?_) (fun _ => ?_)) | (with_reducible exact never_unsup) | (with_reducible refine never_bindR fun _ => ?_) | (with_reducible refine fr_shapeB (fun _ => ?_) (ShOk.same (by intros; rfl))) | (with_reducible refine fr_bind ?_) | (with_reducible refine fr_pure ?_) | (with_reducible refine fr_typeInfo fun _ _ => ?_) | (with_reducible refine fr_underlying fun _ _ => ?_) | (with_reducible refine fr_sizeOf fun _ => ?_) | (with_reducible refine fr_isAgg fun _ => ?_) | (with_reducible refine fr_choose fun _ => ?_) | (with_reducible refine fr_map ?_) | (with_reducible refine fr_asIntOf fun _ => ?_) | (with_reducible refine fr_asInt fun _ => ?_) | (with_reducible refine fr_asBool fun _ => ?_)  | (with_reducible refine fr_frozen fun _ => ?_) | (with_reducible refine fr_typeStr fun _ => ?_) | (with_reducible refine fr_elemOf fun _ => ?_) | (with_reducible refine fr_zeroValue (by assumption) (by first | assumption | exact he _ (by assumption)) fun _ _ => ?_) | (with_reducible refine fr_sureAddr (by assumption) fun _ _ => ?_) | (with_reducible refine fr_asAddr (by assumption) fun _ _ => ?_) | (with_reducible refine fr_asAgg (by assumption) fun _ _ => ?_) | (with_reducible refine fr_sliceBound fun _ => ?_) | (with_reducible refine fr_sliceBounds fun _ => ?_) | (with_reducible refine fr_askRoom ?_) | (with_reducible refine fr_byteOf (by assumption) fun _ => ?_) | (with_reducible refine fr_loadVar (by assumption) fun _ _ => ?_) | (with_reducible refine fr_part (by assumption) fun _ _ => ?_) | (with_reducible refine fr_fieldPlace (by assumption) fun _ _ => ?_) | (with_reducible refine fr_lenOf fun _ => ?_) | (with_reducible refine fr_mayShare fun _ => ?_) | (with_reducible refine fr_firstCells (by assumption) fun _ _ => ?_) | (with_reducible refine fr_noRoom ?_) | split | dsimp only))
         all_goals first | exact hd _ trivial | exact hy' _ trivial
   · have hcx := agg_in hx
     have hcy := agg_in hy
     refine fr_bind ?_
     refine fr_sizeOf fun n => ?_
     refine fr_bind (fr_forInR (I := fun _ => True) trivial (fun s _ => ?_) (fun f s Q' _ hd hy' => ?_))
     · (repeat' (first | (with_reducible exact fr_stuck) | (with_reducible exact fr_panic) | (with_reducible exact fr_boundsPanic) | (with_reducible exact fr_runtimePanic (by simp)) | (with_reducible exact fr_unsup (by simp)) | (with_reducible refine fr_program ?_) | (with_reducible refine fr_mayShare (fun _ => ?_) (fun _ => ?_)) | (with_reducible exact never_unsup) | (with_reducible refine never_bindR fun _ => ?_) | (with_reducible refine fr_shapeB (fun _ => ?_) (ShOk.same (by intros; rfl))) | (with_reducible refine fr_bind ?_) | (with_reducible refine fr_pure ?_) | (with_reducible refine fr_typeInfo fun _ _ => ?_) | (with_reducible refine fr_underlying fun _ _ => ?_) | (with_reducible refine fr_sizeOf fun _ => ?_) | (with_reducible refine fr_isAgg fun _ => ?_) | (with_reducible refine fr_choose fun _ => ?_) | (with_reducible refine fr_map ?_) | (with_reducible refine fr_asIntOf fun _ => ?_) | (with_reducible refine fr_asInt fun _ => ?_) | (with_reducible refine fr_asBool fun _ => ?_)  | (with_reducible refine fr_frozen fun _ => ?_) | (with_reducible refine fr_typeStr fun _ => ?_) | (with_reducible refine fr_elemOf fun _ => ?_) | (with_reducible refine fr_zeroValue (by assumption) (by first | assumption | exact he _ (by assumption)) fun _ _ => ?_) | (with_reducible refine fr_sureAddr (by assumption) fun _ _ => ?_) | (with_reducible refine fr_asAddr (by assumption) fun _ _ => ?_) | (with_reducible refine fr_asAgg (by assumption) fun _ _ => ?_) | (with_reducible refine fr_sliceBound fun _ => ?_) | (with_reducible refine fr_sliceBounds fun _ => ?_) | (with_reducible refine fr_askRoom ?_) | (with_reducible refine fr_byteOf (by assumption) fun _ => ?_) | (with_reducible refine fr_loadVar (by assumption) fun _ _ => ?_) | (with_reducible refine fr_part (by assumption) fun _ _ => ?_) | (with_reducible refine fr_fieldPlace (by assumption) fun _ _ => ?_) | (with_reducible refine fr_lenOf fun _ => ?_) | (with_reducible refine fr_mayShare fun _ => ?_) | (with_reducible refine fr_firstCells (by assumption) fun _ _ => ?_) | (with_reducible refine fr_noRoom ?_) | split | dsimp only))
       all_goals exact h _
     · (repeat' (first | (with_reducible exact fr_stuck) | (with_reducible exact fr_panic) | (with_reducible exact fr_boundsPanic) | (with_reducible exact fr_runtimePanic (by simp)) | (with_reducible exact fr_unsup (by simp)) | (with_reducible refine fr_program ?_) | (with_reducible refine fr_mayShare (fun _ => ?_) (fun _ => ?_)) | (with_reducible exact never_unsup) | (with_reducible refine never_bindR fun _ => ?_) | (with_reducible refine fr_shapeB (fun _ => ?_) (ShOk.same (by intros; rfl))) | (with_reducible refine fr_bind ?_) | (with_reducible refine fr_pure ?_) | (with_reducible refine fr_typeInfo fun _ _ => ?_) | (with_reducible refine fr_underlying fun _ _ => ?_) | (with_reducible refine fr_sizeOf fun _ => ?_) | (with_reducible refine fr_isAgg fun _ => ?_) | (with_reducible refine fr_choose fun _ => ?_) | (with_reducible refine fr_map ?_) | (with_reducible refine fr_asIntOf fun _ => ?_) | (with_reducible refine fr_asInt fun _ => ?_) | (with_reducible refine fr_asBool fun _ => ?_)  | (with_reducible refine fr_frozen fun _ => ?_) | (with_reducible refine fr_typeStr fun _ => ?_) | (with_reducible refine fr_elemOf fun _ => ?_) | (with_reducible refine fr_zeroValue (by assumption) (by first | assumption | exact he _ (by assumption)) fun _ _ => ?_) | (with_reducible refine fr_sureAddr (by assumption) fun _ _ => ?_) | (with_reducible refine fr_asAddr (by assumption) fun _ _ => ?_) | (with_reducible refine fr_asAgg (by assumption) fun _ _ => ?_) | (with_reducible refine fr_sliceBound fun _ => ?_) | (with_reducible refine fr_sliceBounds fun _ => ?_) | (with_reducible refine fr_askRoom ?_) | (with_reducible refine fr_byteOf (by assumption) fun _ => ?_) | (with_reducible refine fr_loadVar (by assumption) fun _ _ => ?_) | (with_reducible refine fr_part (by assumption) fun _ _ => ?_) | (with_reducible refine fr_fieldPlace (by assumption) fun _ _ => ?_) | (with_reducible refine fr_lenOf fun _ => ?_) | (with_reducible refine fr_mayShare fun _ => ?_) | (with_reducible refine fr_firstCells (by assumption) fun _ _ => ?_) | (with_reducible refine fr_noRoom ?_) | split | dsimp only))
       all_goals try exact hd _ trivial
       all_goals try exact hy' _ trivial
       all_goals (refine fr_equalIn d e _ _ _ he (by assumption) (by assumption) fun b => ?_)
       all_goals (repeat' (first | (with_reducible exact fr_stuck) | (with_reducible exact fr_panic) | (with_reducible exact fr_boundsPanic) | (with_reducible exact fr_runtimePanic (by simp)) | (with_reducible exact fr_unsup (by simp)) | (with_reducible refine fr_program ?_) | (with_reducible refine fr_mayShare (fun _ => ?_) (fun _ => ?_)) | (with_reducible exact never_unsup) | (with_reducible refine never_bindR fun _ => ?_) | (with_reducible refine fr_shapeB (fun _ => ?_) (ShOk.same (by intros; rfl))) | (with_reducible refine fr_bind ?_) | (with_reducible refine fr_pure ?_) | (with_reducible refine fr_typeInfo fun _ _ => ?_) | (with_reducible refine fr_underlying fun _ _ => ?_) | (with_reducible refine fr_sizeOf fun _ => ?_) | (with_reducible refine fr_isAgg fun _ => ?_) | (with_reducible refine fr_choose fun _ => ?_) | (with_reducible refine fr_map ?_) | (with_reducible refine fr_asIntOf fun _ => ?_) | (with_reducible refine fr_asInt fun _ => ?_) | (with_reducible refine fr_asBool fun _ => ?_)  | (with_reducible refine fr_frozen fun _ => ?_) | (with_reducible refine fr_typeStr fun _ => ?_) | (with_reducible refine fr_elemOf fun _ => ?_) | (with_reducible refine fr_zeroValue (by assumption) (by first | assumption | exact he _ (by assumption)) fun _ _ => ?_) | (with_reducible refine fr_sureAddr (by assumption) fun _ _ => ?_) | (with_reducible refine fr_asAddr (by assumption) fun _ _ => ?_) | (with_reducible refine fr_asAgg (by assumption) fun _ _ => ?_) | (with_reducible refine fr_sliceBound fun _ => ?_) | (with_reducible refine fr_sliceBounds fun _ => ?_) | (with_reducible refine fr_askRoom ?_) | (with_reducible refine fr_byteOf (by assumption) fun _ => ?_) | (with_reducible refine fr_loadVar (by assumption) fun _ _ => ?_) | (with_reducible refine fr_part (by assumption) fun _ _ => ?_) | (with_reducible refine fr_fieldPlace (by assumption) fun _ _ => ?_) | (with_reducible refine fr_lenOf fun _ => ?_) | (with_reducible refine fr_mayShare fun _ => ?_) | (with_reducible refine fr_firstCells (by assumption) fun _ _ => ?_) | (with_reducible refine fr_noRoom ?_) | split | dsimp only))
       all_goals first | exact hd _ trivial | exact hy' _ trivial
theorem fr_equalNil {d : Nat} {t : TypeId} {x y : Value} (hn : x = .nilIface ∨ y = .nilIface) {Q : (Nat → Prop) → Bool → Prop} (h : ∀ b, Q A b) : Sem.Fr P G (Op.equalIn d t x y) A Q := by
 cases d with
 | zero => exact fr_unsup (by simp)
 | succ d =>
   unfold Op.equalIn
   refine fr_bind ?_
   refine fr_underlying fun ty hty => ?_
   rcases hn with rfl | rfl <;> split
   all_goals first | exact fr_pure (h _) | exact fr_unsup (by simp) | exact fr_stuck | (simp at *; done) | skip
theorem fr_equalN {t : TypeId} {x y : Value} (he : eqOk P 9 t = true ∨ x = .nilIface ∨ y = .nilIface) (hx : VIn G A x) (hy : VIn G A y) {Q : (Nat → Prop) → Bool → Prop} (h : ∀ b, Q A b) : Sem.Fr P G (Op.equal t x y) A Q := he.elim (fun he => fr_equalIn _ 9 _ _ _ he hx hy h) fun hn => fr_equalNil hn h
theorem fr_equal {t : TypeId} {x y : Value} (he : eqOk P 9 t = true) (hx : VIn G A x) (hy : VIn G A y) {Q : (Nat → Prop) → Bool → Prop} (h : ∀ b, Q A b) : Sem.Fr P G (Op.equal t x y) A Q := fr_equalIn _ 9 _ _ _ he hx hy h
theorem fr_eqGuardIn : ∀ (d : Nat) (t : TypeId) (x y : Value), VIn G A x → VIn G A y → ∀ {Q : (Nat → Prop) → Bool → Prop}, (∀ b, Q A b) → Sem.Fr P G (Op.eqGuardIn d t x y) A Q
 | 0, _, _, _, _, _, _, _ => fr_unsup (by simp)
 | d + 1, t, x, y, hx, hy, Q, h => by
   unfold Op.eqGuardIn
   refine fr_bind ?_
   refine fr_underlying fun ty _ => ?_
   split
   · exact fr_pure (h _)
   · have hcx := agg_in hx
     have hcy := agg_in hy
     refine fr_bind (fr_forInA (I := fun _ => True) trivial (fun s _ => ?_) (fun f s Q' _ hd hy' => ?_))
     · (repeat' (first | (with_reducible exact fr_stuck) | (with_reducible exact fr_panic) | (with_reducible exact fr_boundsPanic) | (with_reducible exact fr_runtimePanic (by simp)) | (with_reducible exact fr_unsup (by simp)) | (with_reducible refine fr_program ?_) | (with_reducible refine fr_mayShare (fun _ => ?_) (fun _ => ?_)) | (with_reducible exact never_unsup) | (with_reducible refine never_bindR fun _ => ?_) | (with_reducible refine fr_shapeB (fun _ => ?_) (ShOk.same (by intros; rfl))) | (with_reducible refine fr_bind ?_) | (with_reducible refine fr_pure ?_) | (with_reducible refine fr_typeInfo fun _ _ => ?_) | (with_reducible refine fr_underlying fun _ _ => ?_) | (with_reducible refine fr_sizeOf fun _ => ?_) | (with_reducible refine fr_isAgg fun _ => ?_) | (with_reducible refine fr_choose fun _ => ?_) | (with_reducible refine fr_map ?_) | (with_reducible refine fr_asIntOf fun _ => ?_) | (with_reducible refine fr_asInt fun _ => ?_) | (with_reducible refine fr_asBool fun _ => ?_)  | (with_reducible refine fr_frozen fun _ => ?_) | (with_reducible refine fr_typeStr fun _ => ?_) | (with_reducible refine fr_elemOf fun _ => ?_) | (with_reducible refine fr_zeroValue (by assumption) (by first | assumption | exact he _ (by assumption)) fun _ _ => ?_) | (with_reducible refine fr_sureAddr (by assumption) fun _ _ => ?_) | (with_reducible refine fr_asAddr (by assumption) fun _ _ => ?_) | (with_reducible refine fr_asAgg (by assumption) fun _ _ => ?_) | (with_reducible refine fr_sliceBound fun _ => ?_) | (with_reducible refine fr_sliceBounds fun _ => ?_) | (with_reducible refine fr_askRoom ?_) | (with_reducible refine fr_byteOf (by assumption) fun _ => ?_) | (with_reducible refine fr_loadVar (by assumption) fun _ _ => ?_) | (with_reducible refine fr_part (by assumption) fun _ _ => ?_) | (with_reducible refine fr_fieldPlace (by assumption) fun _ _ => ?_) | (with_reducible refine fr_lenOf fun _ => ?_) | (with_reducible refine fr_mayShare fun _ => ?_) | (with_reducible refine fr_firstCells (by assumption) fun _ _ => ?_) | (with_reducible refine fr_noRoom ?_) | split | dsimp only))
       all_goals exact h _
     · (repeat' (first | (with_reducible exact fr_stuck) | (with_reducible exact fr_panic) | (with_reducible exact fr_boundsPanic) | (with_reducible exact fr_runtimePanic (by simp)) | (with_reducible exact fr_unsup (by simp)) | (with_reducible refine fr_program ?_) | (with_reducible refine fr_mayShare (fun _ => ?_) (fun _ => ?_)) | (with_reducible exact never_unsup) | (with_reducible refine never_bindR fun _ => ?_) | (with_reducible refine fr_shapeB (fun _ => ?_) (ShOk.same (by intros; rfl))) | (with_reducible refine fr_bind ?_) | (with_reducible refine fr_pure ?_) | (with_reducible refine fr_typeInfo fun _ _ => ?_) | (with_reducible refine fr_underlying fun _ _ => ?_) | (with_reducible refine fr_sizeOf fun _ => ?_) | (with_reducible refine fr_isAgg fun _ => ?_) | (with_reducible refine fr_choose fun _ => ?_) | (with_reducible refine fr_map ?_) | (with_reducible refine fr_asIntOf fun _ => ?_) | (with_reducible refine fr_asInt fun _ => ?_) | (with_reducible refine fr_asBool fun _ => ?_)  | (with_reducible refine fr_frozen fun _ => ?_) | (with_reducible refine fr_typeStr fun _ => ?_) | (with_reducible refine fr_elemOf fun _ => ?_) | (with_reducible refine fr_zeroValue (by assumption) (by first | assumption | exact he _ (by assumption)) fun _ _ => ?_) | (with_reducible refine fr_sureAddr (by assumption) fun _ _ => ?_) | (with_reducible refine fr_asAddr (by assumption) fun _ _ => ?_) | (with_reducible refine fr_asAgg (by assumption) fun _ _ => ?_) | (with_reducible refine fr_sliceBound fun _ => ?_) | (with_reducible refine fr_sliceBounds fun _ => ?_) | (with_reducible refine fr_askRoom ?_) | (with_reducible refine fr_byteOf (by assumption) fun _ => ?_) | (with_reducible refine fr_loadVar (by assumption) fun _ _ => ?_) | (with_reducible refine fr_part (by assumption) fun _ _ => ?_) | (with_reducible refine fr_fieldPlace (by assumption) fun _ _ => ?_) | (with_reducible refine fr_lenOf fun _ => ?_) | (with_reducible refine fr_mayShare fun _ => ?_) | (with_reducible refine fr_firstCells (by assumption) fun _ _ => ?_) | (with_reducible refine fr_noRoom ?_) | split | dsimp only))
       all_goals try exact hd _ trivial
       all_goals try exact hy' _ trivial
       all_goals (refine fr_eqGuardIn d _ _ _ (by assumption) (by assumption) fun b => ?_)
       all_goals (repeat' (first | (with_reducible exact fr_stuck) | (with_reducible exact fr_panic) | (with_reducible exact fr_boundsPanic) | (with_reducible exact fr_runtimePanic (by simp)) | (with_reducible exact fr_unsup (by simp)) | (with_reducible refine fr_program ?_) | (with_reducible refine fr_mayShare (fun _ => ?_) (fun _ => ?_)) | (with_reducible exact never_unsup) | (with_reducible refine never_bindR fun _ => ?_) | (with_reducible refine fr_shapeB (fun _ => ?_) (ShOk.same (by intros; rfl))) | (with_reducible refine fr_bind ?_) | (with_reducible refine fr_pure ?_) | (with_reducible refine fr_typeInfo fun _ _ => ?_) | (with_reducible refine fr_underlying fun _ _ => ?_) | (with_reducible refine fr_sizeOf fun _ => ?_) | (with_reducible refine fr_isAgg fun _ => ?_) | (with_reducible refine fr_choose fun _ => ?_) | (with_reducible refine fr_map ?_) | (with_reducible refine fr_asIntOf fun _ => ?_) | (with_reducible refine fr_asInt fun _ => ?_) | (with_reducible refine fr_asBool fun _ => ?_)  | (with_reducible refine fr_frozen fun _ => ?_) | (with_reducible refine fr_typeStr fun _ => ?_) | (with_reducible refine fr_elemOf fun _ => ?_) | (with_reducible refine fr_zeroValue (by assumption) (by first | assumption | exact he _ (by assumption)) fun _ _ => ?_) | (with_reducible refine fr_sureAddr (by assumption) fun _ _ => ?_) | (with_reducible refine fr_asAddr (by assumption) fun _ _ => ?_) | (with_reducible refine fr_asAgg (by assumption) fun _ _ => ?_) | (with_reducible refine fr_sliceBound fun _ => ?_) | (with_reducible refine fr_sliceBounds fun _ => ?_) | (with_reducible refine fr_askRoom ?_) | (with_reducible refine fr_byteOf (by assumption) fun _ => ?_) | (with_reducible refine fr_loadVar (by assumption) fun _ _ => ?_) | (with_reducible refine fr_part (by assumption) fun _ _ => ?_) | (with_reducible refine fr_fieldPlace (by assumption) fun _ _ => ?_) | (with_reducible refine fr_lenOf fun _ => ?_) | (with_reducible refine fr_mayShare fun _ => ?_) | (with_reducible refine fr_firstCells (by assumption) fun _ _ => ?_) | (with_reducible refine fr_noRoom ?_) | split | dsimp only))
       all_goals first | exact hd _ trivial | exact hy' _ trivial
   · have hcx := agg_in hx
     have hcy := agg_in hy
     refine fr_bind ?_
     refine fr_sizeOf fun n => ?_
     refine fr_bind (fr_forInR (I := fun _ => True) trivial (fun s _ => ?_) (fun f s Q' _ hd hy' => ?_))
     · (repeat' (first | (with_reducible exact fr_stuck) | (with_reducible exact fr_panic) | (with_reducible exact fr_boundsPanic) | (with_reducible exact fr_runtimePanic (by simp)) | (with_reducible exact fr_unsup (by simp)) | (with_reducible refine fr_program ?_) | (with_reducible refine fr_mayShare (fun _ => ?_) (fun _ => ?_)) | (with_reducible exact never_unsup) | (with_reducible refine never_bindR fun _ => ?_) | (with_reducible refine fr_shapeB (fun _ => ?_) (ShOk.same (by intros; rfl))) | (with_reducible refine fr_bind ?_) | (with_reducible refine fr_pure ?_) | (with_reducible refine fr_typeInfo fun _ _ => ?_) | (with_reducible refine fr_underlying fun _ _ => ?_) | (with_reducible refine fr_sizeOf fun _ => ?_) | (with_reducible refine fr_isAgg fun _ => ?_) | (with_reducible refine fr_choose fun _ => ?_) | (with_reducible refine fr_map ?_) | (with_reducible refine fr_asIntOf fun _ => ?_) | (with_reducible refine fr_asInt fun _ => ?_) | (with_reducible refine fr_asBool fun _ => ?_)  | (with_reducible refine fr_frozen fun _ => ?_) | (with_reducible refine fr_typeStr fun _ => ?_) | (with_reducible refine fr_elemOf fun _ => ?_) | (with_reducible refine fr_zeroValue (by assumption) (by first | assumption | exact he _ (by assumption)) fun _ _ => ?_) | (with_reducible refine fr_sureAddr (by assumption) fun _ _ => ?_) | (with_reducible refine fr_asAddr (by assumption) fun _ _ => ?_) | (with_reducible refine fr_asAgg (by assumption) fun _ _ => ?_) | (with_reducible refine fr_sliceBound fun _ => ?_) | (with_reducible refine fr_sliceBounds fun _ => ?_) | (with_reducible refine fr_askRoom ?_) | (with_reducible refine fr_byteOf (by assumption) fun _ => ?_) | (with_reducible refine fr_loadVar (by assumption) fun _ _ => ?_) | (with_reducible refine fr_part (by assumption) fun _ _ => ?_) | (with_reducible refine fr_fieldPlace (by assumption) fun _ _ => ?_) | (with_reducible refine fr_lenOf fun _ => ?_) | (with_reducible refine fr_mayShare fun _ => ?_) | (with_reducible refine fr_firstCells (by assumption) fun _ _ => ?_) | (with_reducible refine fr_noRoom ?_) | split | dsimp only))
       all_goals exact h _
     · (repeat' (first | (with_reducible exact fr_stuck) | (with_reducible exact fr_panic) | (with_reducible exact fr_boundsPanic) | (with_reducible exact fr_runtimePanic (by simp)) | (with_reducible exact fr_unsup (by simp)) | (with_reducible refine fr_program ?_) | (with_reducible refine fr_mayShare (fun _ => ?_) (fun _ => ?_)) | (with_reducible exact never_unsup) | (with_reducible refine never_bindR fun _ => ?_) | (with_reducible refine fr_shapeB (fun _ => ?_) (ShOk.same (by intros; rfl))) | (with_reducible refine fr_bind ?_) | (with_reducible refine fr_pure ?_) | (with_reducible refine fr_typeInfo fun _ _ => ?_) | (with_reducible refine fr_underlying fun _ _ => ?_) | (with_reducible refine fr_sizeOf fun _ => ?_) | (with_reducible refine fr_isAgg fun _ => ?_) | (with_reducible refine fr_choose fun _ => ?_) | (with_reducible refine fr_map ?_) | (with_reducible refine fr_asIntOf fun _ => ?_) | (with_reducible refine fr_asInt fun _ => ?_) | (with_reducible refine fr_asBool fun _ => ?_)  | (with_reducible refine fr_frozen fun _ => ?_) | (with_reducible refine fr_typeStr fun _ => ?_) | (with_reducible refine fr_elemOf fun _ => ?_) | (with_reducible refine fr_zeroValue (by assumption) (by first | assumption | exact he _ (by assumption)) fun _ _ => ?_) | (with_reducible refine fr_sureAddr (by assumption) fun _ _ => ?_) | (with_reducible refine fr_asAddr (by assumption) fun _ _ => ?_) | (with_reducible refine fr_asAgg (by assumption) fun _ _ => ?_) | (with_reducible refine fr_sliceBound fun _ => ?_) | (with_reducible refine fr_sliceBounds fun _ => ?_) | (with_reducible refine fr_askRoom ?_) | (with_reducible refine fr_byteOf (by assumption) fun _ => ?_) | (with_reducible refine fr_loadVar (by assumption) fun _ _ => ?_) | (with_reducible refine fr_part (by assumption) fun _ _ => ?_) | (with_reducible refine fr_fieldPlace (by assumption) fun _ _ => ?_) | (with_reducible refine fr_lenOf fun _ => ?_) | (with_reducible refine fr_mayShare fun _ => ?_) | (with_reducible refine fr_firstCells (by assumption) fun _ _ => ?_) | (with_reducible refine fr_noRoom ?_) | split | dsimp only))
       all_goals try exact hd _ trivial
       all_goals try exact hy' _ trivial
       all_goals (refine fr_eqGuardIn d _ _ _ (by assumption) (by assumption) fun b => ?_)
       all_goals (repeat' (first | (with_reducible exact fr_stuck) | (with_reducible exact fr_panic) | (with_reducible exact fr_boundsPanic) | (with_reducible exact fr_runtimePanic (by simp)) | (with_reducible exact fr_unsup (by simp)) | (with_reducible refine fr_program ?_) | (with_reducible refine fr_mayShare (fun _ => ?_) (fun _ => ?_)) | (with_reducible exact never_unsup) | (with_reducible refine never_bindR fun _ => ?_) | (with_reducible refine fr_shapeB (fun _ => ?_) (ShOk.same (by intros; rfl))) | (with_reducible refine fr_bind ?_) | (with_reducible refine fr_pure ?_) | (with_reducible refine fr_typeInfo fun _ _ => ?_) | (with_reducible refine fr_underlying fun _ _ => ?_) | (with_reducible refine fr_sizeOf fun _ => ?_) | (with_reducible refine fr_isAgg fun _ => ?_) | (with_reducible refine fr_choose fun _ => ?_) | (with_reducible refine fr_map ?_) | (with_reducible refine fr_asIntOf fun _ => ?_) | (with_reducible refine fr_asInt fun _ => ?_) | (with_reducible refine fr_asBool fun _ => ?_)  | (with_reducible refine fr_frozen fun _ => ?_) | (with_reducible refine fr_typeStr fun _ => ?_) | (with_reducible refine fr_elemOf fun _ => ?_) | (with_reducible refine fr_zeroValue (by assumption) (by first | assumption | exact he _ (by assumption)) fun _ _ => ?_) | (with_reducible refine fr_sureAddr (by assumption) fun _ _ => ?_) | (with_reducible refine fr_asAddr (by assumption) fun _ _ => ?_) | (with_reducible refine fr_asAgg (by assumption) fun _ _ => ?_) | (with_reducible refine fr_sliceBound fun _ => ?_) | (with_reducible refine fr_sliceBounds fun _ => ?_) | (with_reducible refine fr_askRoom ?_) | (with_reducible refine fr_byteOf (by assumption) fun _ => ?_) | (with_reducible refine fr_loadVar (by assumption) fun _ _ => ?_) | (with_reducible refine fr_part (by assumption) fun _ _ => ?_) | (with_reducible refine fr_fieldPlace (by assumption) fun _ _ => ?_) | (with_reducible refine fr_lenOf fun _ => ?_) | (with_reducible refine fr_mayShare fun _ => ?_) | (with_reducible refine fr_firstCells (by assumption) fun _ _ => ?_) | (with_reducible refine fr_noRoom ?_) | split | dsimp only))
       all_goals first | exact hd _ trivial | exact hy' _ trivial
   · exact fr_pure (h _)
end
end Go.Proofs.Ytclnogfmmekooaa
namespace Go.Proofs.Ytclnogfmmekooaa
set_option linter.unusedVariables false
set_option linter.unusedSimpArgs false
open Go.Conc
section
variable {P : Program} {G : Cfg} {A : Nat → Prop}
theorem fr_eqGuard {op : BinOp} {t : TypeId} {x y : Operand} {a b : Value} (ha : VIn G A a) (hb : VIn G A b) {Q : (Nat → Prop) → Unit → Prop} (h : Q A ()) : Sem.Fr P G (eqGuard op t x y a b) A Q := by
 unfold eqGuard
 (repeat' (first | (with_reducible exact fr_stuck) | (with_reducible exact fr_panic) | (with_reducible exact fr_boundsPanic) | (with_reducible exact fr_runtimePanic (by simp)) | (with_reducible exact fr_unsup (by simp)) | (with_reducible refine fr_program ?_) | (with_reducible refine fr_mayShare (fun _ => ?_) (fun _ => ?_)) | (with_reducible exact never_unsup) | (with_reducible refine never_bindR fun _ => ?_) | (with_reducible refine fr_shapeB (fun _ => ?_) (ShOk.same (by intros; rfl))) | (with_reducible refine fr_bind ?_) | (with_reducible refine fr_pure ?_) | (with_reducible refine fr_typeInfo fun _ _ => ?_) | (with_reducible refine fr_underlying fun _ _ => ?_) | (with_reducible refine fr_sizeOf fun _ => ?_) | (with_reducible refine fr_isAgg fun _ => ?_) | (with_reducible refine fr_choose fun _ => ?_) | (with_reducible refine fr_map ?_) | (with_reducible refine fr_asIntOf fun _ => ?_) | (with_reducible refine fr_asInt fun _ => ?_) | (with_reducible refine fr_asBool fun _ => ?_)  | (with_reducible refine fr_frozen fun _ => ?_) | (with_reducible refine fr_typeStr fun _ => ?_) | (with_reducible refine fr_elemOf fun _ => ?_) | (with_reducible refine fr_zeroValue (by assumption) (by first | assumption | exact he _ (by assumption)) fun _ _ => ?_) | (with_reducible refine fr_sureAddr (by assumption) fun _ _ => ?_) | (with_reducible refine fr_asAddr (by assumption) fun _ _ => ?_) | (with_reducible refine fr_asAgg (by assumption) fun _ _ => ?_) | (with_reducible refine fr_sliceBound fun _ => ?_) | (with_reducible refine fr_sliceBounds fun _ => ?_) | (with_reducible refine fr_askRoom ?_) | (with_reducible refine fr_byteOf (by assumption) fun _ => ?_) | (with_reducible refine fr_loadVar (by assumption) fun _ _ => ?_) | (with_reducible refine fr_part (by assumption) fun _ _ => ?_) | (with_reducible refine fr_fieldPlace (by assumption) fun _ _ => ?_) | (with_reducible refine fr_lenOf fun _ => ?_) | (with_reducible refine fr_mayShare fun _ => ?_) | (with_reducible refine fr_firstCells (by assumption) fun _ _ => ?_) | (with_reducible refine fr_noRoom ?_) | split | dsimp only))
 all_goals first | exact h | refine fr_eqGuardIn _ _ _ _ (by first | assumption | exact .nilIface) (by first | assumption | exact .nilIface) fun b => ?_
 all_goals (repeat' (first | (with_reducible exact fr_stuck) | (with_reducible exact fr_panic) | (with_reducible exact fr_boundsPanic) | (with_reducible exact fr_runtimePanic (by simp)) | (with_reducible exact fr_unsup (by simp)) | (with_reducible refine fr_program ?_) | (with_reducible refine fr_mayShare (fun _ => ?_) (fun _ => ?_)) | (with_reducible exact never_unsup) | (with_reducible refine never_bindR fun _ => ?_) | (with_reducible refine fr_shapeB (fun _ => ?_) (ShOk.same (by intros; rfl))) | (with_reducible refine fr_bind ?_) | (with_reducible refine fr_pure ?_) | (with_reducible refine fr_typeInfo fun _ _ => ?_) | (with_reducible refine fr_underlying fun _ _ => ?_) | (with_reducible refine fr_sizeOf fun _ => ?_) | (with_reducible refine fr_isAgg fun _ => ?_) | (with_reducible refine fr_choose fun _ => ?_) | (with_reducible refine fr_map ?_) | (with_reducible refine fr_asIntOf fun _ => ?_) | (with_reducible refine fr_asInt fun _ => ?_) | (with_reducible refine fr_asBool fun _ => ?_)  | (with_reducible refine fr_frozen fun _ => ?_) | (with_reducible refine fr_typeStr fun _ => ?_) | (with_reducible refine fr_elemOf fun _ => ?_) | (with_reducible refine fr_zeroValue (by assumption) (by first | assumption | exact he _ (by assumption)) fun _ _ => ?_) | (with_reducible refine fr_sureAddr (by assumption) fun _ _ => ?_) | (with_reducible refine fr_asAddr (by assumption) fun _ _ => ?_) | (with_reducible refine fr_asAgg (by assumption) fun _ _ => ?_) | (with_reducible refine fr_sliceBound fun _ => ?_) | (with_reducible refine fr_sliceBounds fun _ => ?_) | (with_reducible refine fr_askRoom ?_) | (with_reducible refine fr_byteOf (by assumption) fun _ => ?_) | (with_reducible refine fr_loadVar (by assumption) fun _ _ => ?_) | (with_reducible refine fr_part (by assumption) fun _ _ => ?_) | (with_reducible refine fr_fieldPlace (by assumption) fun _ _ => ?_) | (with_reducible refine fr_lenOf fun _ => ?_) | (with_reducible refine fr_mayShare fun _ => ?_) | (with_reducible refine fr_firstCells (by assumption) fun _ _ => ?_) | (with_reducible refine fr_noRoom ?_) | split | dsimp only))
 all_goals exact h
theorem cellAtBytes_mono {p : Program} {d : Nat} {e : TypeId} {c c' off : Nat} {b : Int} {o : Nat} (hc : c ≤ c') (h : cellAtBytes p d e c off b = some o) : cellAtBytes p d e c' off b = some o := by
 unfold cellAtBytes at h ⊢
 simp only [] at h ⊢
 split at h
 · cases h
 · rename_i h0
   rw [if_neg h0]
   simp only [Option.bind_eq_bind, Option.bind_eq_some_iff] at h ⊢
   obtain ⟨x, hx, h⟩ := h
   refine ⟨x, hx, ?_⟩
   split at h
   · cases h
   · rename_i h1
     rw [if_neg ?_]
     · exact h
     · intro h2
       refine h1 ?_
       simp only [Bool.or_eq_true, decide_eq_true_eq] at h2 ⊢
       refine h2.imp id fun h3 => ?_
       have : c * p.bytesOf e ≤ c' * p.bytesOf e := Nat.mul_le_mul_right _ hc
       have h4 : Int.ofNat (c * p.bytesOf e) ≤ Int.ofNat (c' * p.bytesOf e) := Int.ofNat_le.2 this
       exact Int.le_trans h4 h3
theorem fr_unsafeAdd {as : Array TypeId} {t : TypeId} {a : Addr} {n : Value} (ha : A a.block) {Q : (Nat → Prop) → Value → Prop} (h : ∀ b : Addr, A b.block → Q A (.pointer (some b))) : Sem.Fr P G (Builtin.unsafeAdd_ as t #[.pointer (some a), n]) A Q := by
 unfold Builtin.unsafeAdd_
 dsimp only
 refine fr_bind ?_
 refine fr_asInt fun i => ?_
 split
 · refine fr_bind (fr_viewAt ha ?_)
   (repeat' (first | (with_reducible exact fr_stuck) | (with_reducible exact fr_panic) | (with_reducible exact fr_boundsPanic) | (with_reducible exact fr_runtimePanic (by simp)) | (with_reducible exact fr_unsup (by simp)) | (with_reducible refine fr_program ?_) | (with_reducible refine fr_mayShare (fun _ => ?_) (fun _ => ?_)) | (with_reducible exact never_unsup) | (with_reducible refine never_bindR fun _ => ?_) | (with_reducible refine fr_shapeB (fun _ => ?_) (ShOk.same (by intros; rfl))) | (with_reducible refine fr_bind ?_) | (with_reducible refine fr_pure ?_) | (with_reducible refine fr_typeInfo fun _ _ => ?_) | (with_reducible refine fr_underlying fun _ _ => ?_) | (with_reducible refine fr_sizeOf fun _ => ?_) | (with_reducible refine fr_isAgg fun _ => ?_) | (with_reducible refine fr_choose fun _ => ?_) | (with_reducible refine fr_map ?_) | (with_reducible refine fr_asIntOf fun _ => ?_) | (with_reducible refine fr_asInt fun _ => ?_) | (with_reducible refine fr_asBool fun _ => ?_)  | (with_reducible refine fr_frozen fun _ => ?_) | (with_reducible refine fr_typeStr fun _ => ?_) | (with_reducible refine fr_elemOf fun _ => ?_) | (with_reducible refine fr_zeroValue (by assumption) (by first | assumption | exact he _ (by assumption)) fun _ _ => ?_) | (with_reducible refine fr_sureAddr (by assumption) fun _ _ => ?_) | (with_reducible refine fr_asAddr (by assumption) fun _ _ => ?_) | (with_reducible refine fr_asAgg (by assumption) fun _ _ => ?_) | (with_reducible refine fr_sliceBound fun _ => ?_) | (with_reducible refine fr_sliceBounds fun _ => ?_) | (with_reducible refine fr_askRoom ?_) | (with_reducible refine fr_byteOf (by assumption) fun _ => ?_) | (with_reducible refine fr_loadVar (by assumption) fun _ _ => ?_) | (with_reducible refine fr_part (by assumption) fun _ _ => ?_) | (with_reducible refine fr_fieldPlace (by assumption) fun _ _ => ?_) | (with_reducible refine fr_lenOf fun _ => ?_) | (with_reducible refine fr_mayShare fun _ => ?_) | (with_reducible refine fr_firstCells (by assumption) fun _ _ => ?_) | (with_reducible refine fr_noRoom ?_) | split | dsimp only))
   exact h _ ha
 · split
   · exact fr_bind (fr_unsup (by simp))
   · refine fr_shapeB (fun s => ?_) ?_
     · (repeat' (first | (with_reducible exact fr_stuck) | (with_reducible exact fr_panic) | (with_reducible exact fr_boundsPanic) | (with_reducible exact fr_runtimePanic (by simp)) | (with_reducible exact fr_unsup (by simp)) | (with_reducible refine fr_program ?_) | (with_reducible refine fr_mayShare (fun _ => ?_) (fun _ => ?_)) | (with_reducible exact never_unsup) | (with_reducible refine never_bindR fun _ => ?_) | (with_reducible refine fr_shapeB (fun _ => ?_) (ShOk.same (by intros; rfl))) | (with_reducible refine fr_bind ?_) | (with_reducible refine fr_pure ?_) | (with_reducible refine fr_typeInfo fun _ _ => ?_) | (with_reducible refine fr_underlying fun _ _ => ?_) | (with_reducible refine fr_sizeOf fun _ => ?_) | (with_reducible refine fr_isAgg fun _ => ?_) | (with_reducible refine fr_choose fun _ => ?_) | (with_reducible refine fr_map ?_) | (with_reducible refine fr_asIntOf fun _ => ?_) | (with_reducible refine fr_asInt fun _ => ?_) | (with_reducible refine fr_asBool fun _ => ?_)  | (with_reducible refine fr_frozen fun _ => ?_) | (with_reducible refine fr_typeStr fun _ => ?_) | (with_reducible refine fr_elemOf fun _ => ?_) | (with_reducible refine fr_zeroValue (by assumption) (by first | assumption | exact he _ (by assumption)) fun _ _ => ?_) | (with_reducible refine fr_sureAddr (by assumption) fun _ _ => ?_) | (with_reducible refine fr_asAddr (by assumption) fun _ _ => ?_) | (with_reducible refine fr_asAgg (by assumption) fun _ _ => ?_) | (with_reducible refine fr_sliceBound fun _ => ?_) | (with_reducible refine fr_sliceBounds fun _ => ?_) | (with_reducible refine fr_askRoom ?_) | (with_reducible refine fr_byteOf (by assumption) fun _ => ?_) | (with_reducible refine fr_loadVar (by assumption) fun _ _ => ?_) | (with_reducible refine fr_part (by assumption) fun _ _ => ?_) | (with_reducible refine fr_fieldPlace (by assumption) fun _ _ => ?_) | (with_reducible refine fr_lenOf fun _ => ?_) | (with_reducible refine fr_mayShare fun _ => ?_) | (with_reducible refine fr_firstCells (by assumption) fun _ _ => ?_) | (with_reducible refine fr_noRoom ?_) | split | dsimp only))
       all_goals exact h _ ha
     · intro e n1 n2 hn w es x w1 es1 hr
       have hm : n1 / P.cellsOf e ≤ n2 / P.cellsOf e := Nat.div_le_div_right hn
       simp only [] at hr ⊢
       have key : ∀ m, (do
        let p ← program
        match cellAtBytes p p.depth e (m / p.cellsOf e) a.off i with
        | some off => pure (Value.pointer (some { a with off := off }))
        | none => unsupported (.unsafePointer "Add") : Sem Value).runT P w es = (match cellAtBytes P P.depth e (m / P.cellsOf e) a.off i with
        | some off => pure (Value.pointer (some { a with off := off }))
        | none => unsupported (.unsafePointer "Add") : Sem Value).runT P w es := fun m => rfl
       replace hr := (key n1).symm.trans hr
       refine (key n2).trans ?_
       cases hc : cellAtBytes P P.depth e (n1 / P.cellsOf e) a.off i with
       | none => rw [hc] at hr; cases hr
       | some off => rw [hc] at hr; rw [cellAtBytes_mono hm hc]; exact hr
theorem fr_unsafeAdd0 {as : Array TypeId} {t : TypeId} {n : Value} {Q : (Nat → Prop) → Value → Prop} : Sem.Fr P G (Builtin.unsafeAdd_ as t #[.pointer none, n]) A Q := by
 unfold Builtin.unsafeAdd_
 dsimp only
 refine fr_bind ?_
 refine fr_asInt fun i => ?_
 (repeat' (first | (with_reducible exact fr_stuck) | (with_reducible exact fr_panic) | (with_reducible exact fr_boundsPanic) | (with_reducible exact fr_runtimePanic (by simp)) | (with_reducible exact fr_unsup (by simp)) | (with_reducible refine fr_program ?_) | (with_reducible refine fr_mayShare (fun _ => ?_) (fun _ => ?_)) | (with_reducible exact never_unsup) | (with_reducible refine never_bindR fun _ => ?_) | (with_reducible refine fr_shapeB (fun _ => ?_) (ShOk.same (by intros; rfl))) | (with_reducible refine fr_bind ?_) | (with_reducible refine fr_pure ?_) | (with_reducible refine fr_typeInfo fun _ _ => ?_) | (with_reducible refine fr_underlying fun _ _ => ?_) | (with_reducible refine fr_sizeOf fun _ => ?_) | (with_reducible refine fr_isAgg fun _ => ?_) | (with_reducible refine fr_choose fun _ => ?_) | (with_reducible refine fr_map ?_) | (with_reducible refine fr_asIntOf fun _ => ?_) | (with_reducible refine fr_asInt fun _ => ?_) | (with_reducible refine fr_asBool fun _ => ?_)  | (with_reducible refine fr_frozen fun _ => ?_) | (with_reducible refine fr_typeStr fun _ => ?_) | (with_reducible refine fr_elemOf fun _ => ?_) | (with_reducible refine fr_zeroValue (by assumption) (by first | assumption | exact he _ (by assumption)) fun _ _ => ?_) | (with_reducible refine fr_sureAddr (by assumption) fun _ _ => ?_) | (with_reducible refine fr_asAddr (by assumption) fun _ _ => ?_) | (with_reducible refine fr_asAgg (by assumption) fun _ _ => ?_) | (with_reducible refine fr_sliceBound fun _ => ?_) | (with_reducible refine fr_sliceBounds fun _ => ?_) | (with_reducible refine fr_askRoom ?_) | (with_reducible refine fr_byteOf (by assumption) fun _ => ?_) | (with_reducible refine fr_loadVar (by assumption) fun _ _ => ?_) | (with_reducible refine fr_part (by assumption) fun _ _ => ?_) | (with_reducible refine fr_fieldPlace (by assumption) fun _ _ => ?_) | (with_reducible refine fr_lenOf fun _ => ?_) | (with_reducible refine fr_mayShare fun _ => ?_) | (with_reducible refine fr_firstCells (by assumption) fun _ _ => ?_) | (with_reducible refine fr_noRoom ?_) | split | dsimp only))
theorem fr_movedNumber {t : TypeId} {x y : Value} (hx : VIn G A x) {a : Option Addr} (e : x = .pointer a) {Q : (Nat → Prop) → Value → Prop} (h : ∀ A' v, (∀ b, A b → A' b) → VIn G A' v → Q A' v) : Sem.Fr P G (movedNumber t x y) A Q := by
 subst e
 unfold movedNumber
 refine fr_bind ?_
 refine fr_underlying fun d _ => ?_
 cases a with
 | none =>
   (repeat' (first | (with_reducible exact fr_stuck) | (with_reducible exact fr_panic) | (with_reducible exact fr_boundsPanic) | (with_reducible exact fr_runtimePanic (by simp)) | (with_reducible exact fr_unsup (by simp)) | (with_reducible refine fr_program ?_) | (with_reducible refine fr_mayShare (fun _ => ?_) (fun _ => ?_)) | (with_reducible exact never_unsup) | (with_reducible refine never_bindR fun _ => ?_) | (with_reducible refine fr_shapeB (fun _ => ?_) (ShOk.same (by intros; rfl))) | (with_reducible refine fr_bind ?_) | (with_reducible refine fr_pure ?_) | (with_reducible refine fr_typeInfo fun _ _ => ?_) | (with_reducible refine fr_underlying fun _ _ => ?_) | (with_reducible refine fr_sizeOf fun _ => ?_) | (with_reducible refine fr_isAgg fun _ => ?_) | (with_reducible refine fr_choose fun _ => ?_) | (with_reducible refine fr_map ?_) | (with_reducible refine fr_asIntOf fun _ => ?_) | (with_reducible refine fr_asInt fun _ => ?_) | (with_reducible refine fr_asBool fun _ => ?_)  | (with_reducible refine fr_frozen fun _ => ?_) | (with_reducible refine fr_typeStr fun _ => ?_) | (with_reducible refine fr_elemOf fun _ => ?_) | (with_reducible refine fr_zeroValue (by assumption) (by first | assumption | exact he _ (by assumption)) fun _ _ => ?_) | (with_reducible refine fr_sureAddr (by assumption) fun _ _ => ?_) | (with_reducible refine fr_asAddr (by assumption) fun _ _ => ?_) | (with_reducible refine fr_asAgg (by assumption) fun _ _ => ?_) | (with_reducible refine fr_sliceBound fun _ => ?_) | (with_reducible refine fr_sliceBounds fun _ => ?_) | (with_reducible refine fr_askRoom ?_) | (with_reducible refine fr_byteOf (by assumption) fun _ => ?_) | (with_reducible refine fr_loadVar (by assumption) fun _ _ => ?_) | (with_reducible refine fr_part (by assumption) fun _ _ => ?_) | (with_reducible refine fr_fieldPlace (by assumption) fun _ _ => ?_) | (with_reducible refine fr_lenOf fun _ => ?_) | (with_reducible refine fr_mayShare fun _ => ?_) | (with_reducible refine fr_firstCells (by assumption) fun _ _ => ?_) | (with_reducible refine fr_noRoom ?_) | split | dsimp only))
   all_goals first | exact fr_unsafeAdd0 | (simp at *; done)
 | some a =>
   (repeat' (first | (with_reducible exact fr_stuck) | (with_reducible exact fr_panic) | (with_reducible exact fr_boundsPanic) | (with_reducible exact fr_runtimePanic (by simp)) | (with_reducible exact fr_unsup (by simp)) | (with_reducible refine fr_program ?_) | (with_reducible refine fr_mayShare (fun _ => ?_) (fun _ => ?_)) | (with_reducible exact never_unsup) | (with_reducible refine never_bindR fun _ => ?_) | (with_reducible refine fr_shapeB (fun _ => ?_) (ShOk.same (by intros; rfl))) | (with_reducible refine fr_bind ?_) | (with_reducible refine fr_pure ?_) | (with_reducible refine fr_typeInfo fun _ _ => ?_) | (with_reducible refine fr_underlying fun _ _ => ?_) | (with_reducible refine fr_sizeOf fun _ => ?_) | (with_reducible refine fr_isAgg fun _ => ?_) | (with_reducible refine fr_choose fun _ => ?_) | (with_reducible refine fr_map ?_) | (with_reducible refine fr_asIntOf fun _ => ?_) | (with_reducible refine fr_asInt fun _ => ?_) | (with_reducible refine fr_asBool fun _ => ?_)  | (with_reducible refine fr_frozen fun _ => ?_) | (with_reducible refine fr_typeStr fun _ => ?_) | (with_reducible refine fr_elemOf fun _ => ?_) | (with_reducible refine fr_zeroValue (by assumption) (by first | assumption | exact he _ (by assumption)) fun _ _ => ?_) | (with_reducible refine fr_sureAddr (by assumption) fun _ _ => ?_) | (with_reducible refine fr_asAddr (by assumption) fun _ _ => ?_) | (with_reducible refine fr_asAgg (by assumption) fun _ _ => ?_) | (with_reducible refine fr_sliceBound fun _ => ?_) | (with_reducible refine fr_sliceBounds fun _ => ?_) | (with_reducible refine fr_askRoom ?_) | (with_reducible refine fr_byteOf (by assumption) fun _ => ?_) | (with_reducible refine fr_loadVar (by assumption) fun _ _ => ?_) | (with_reducible refine fr_part (by assumption) fun _ _ => ?_) | (with_reducible refine fr_fieldPlace (by assumption) fun _ _ => ?_) | (with_reducible refine fr_lenOf fun _ => ?_) | (with_reducible refine fr_mayShare fun _ => ?_) | (with_reducible refine fr_firstCells (by assumption) fun _ _ => ?_) | (with_reducible refine fr_noRoom ?_) | split | dsimp only))
   all_goals first | (simp at *; done) | skip
   all_goals
    refine fr_behindNumber (by injections; subst_vars; exact (ptr_in hx).blk) fun z hz => ?_
    refine fr_bind (fr_unsafeAdd hz fun b hb => ?_)
    refine fr_bind (fr_new (fun _ => .number hb) fun r hr => fr_pure (h _ _ (fun b hb => .inl hb) (.ptr (hr.ina _ _))))
theorem fr_addrs {a b : Addr} (ha : A a.block) (hb : A b.block) {Q : (Nat → Prop) → Nat × Nat → Prop} (h : ∀ x, Q A x) : Sem.Fr P G (Op.twoPlaces a b) A Q := by
 unfold Op.twoPlaces
 refine fr_program ?_
 split
 · exact fr_bind (fr_unsup (by simp))
 · exact fr_bind (fr_byteOf ha fun m => fr_bind (fr_byteOf hb fun n => fr_pure (h _)))
theorem fr_addrMod {k : IntKind} {a : Addr} (ha : A a.block) {n : Int} {Q : (Nat → Prop) → Value → Prop} (h : ∀ v, VIn G A v → Q A v) : Sem.Fr P G (Op.addrMod k a n) A Q := by
 unfold Op.addrMod
 (repeat' (first | (with_reducible exact fr_stuck) | (with_reducible exact fr_panic) | (with_reducible exact fr_boundsPanic) | (with_reducible exact fr_runtimePanic (by simp)) | (with_reducible exact fr_unsup (by simp)) | (with_reducible refine fr_program ?_) | (with_reducible refine fr_mayShare (fun _ => ?_) (fun _ => ?_)) | (with_reducible exact never_unsup) | (with_reducible refine never_bindR fun _ => ?_) | (with_reducible refine fr_shapeB (fun _ => ?_) (ShOk.same (by intros; rfl))) | (with_reducible refine fr_bind ?_) | (with_reducible refine fr_pure ?_) | (with_reducible refine fr_typeInfo fun _ _ => ?_) | (with_reducible refine fr_underlying fun _ _ => ?_) | (with_reducible refine fr_sizeOf fun _ => ?_) | (with_reducible refine fr_isAgg fun _ => ?_) | (with_reducible refine fr_choose fun _ => ?_) | (with_reducible refine fr_map ?_) | (with_reducible refine fr_asIntOf fun _ => ?_) | (with_reducible refine fr_asInt fun _ => ?_) | (with_reducible refine fr_asBool fun _ => ?_)  | (with_reducible refine fr_frozen fun _ => ?_) | (with_reducible refine fr_typeStr fun _ => ?_) | (with_reducible refine fr_elemOf fun _ => ?_) | (with_reducible refine fr_zeroValue (by assumption) (by first | assumption | exact he _ (by assumption)) fun _ _ => ?_) | (with_reducible refine fr_sureAddr (by assumption) fun _ _ => ?_) | (with_reducible refine fr_asAddr (by assumption) fun _ _ => ?_) | (with_reducible refine fr_asAgg (by assumption) fun _ _ => ?_) | (with_reducible refine fr_sliceBound fun _ => ?_) | (with_reducible refine fr_sliceBounds fun _ => ?_) | (with_reducible refine fr_askRoom ?_) | (with_reducible refine fr_byteOf (by assumption) fun _ => ?_) | (with_reducible refine fr_loadVar (by assumption) fun _ _ => ?_) | (with_reducible refine fr_part (by assumption) fun _ _ => ?_) | (with_reducible refine fr_fieldPlace (by assumption) fun _ _ => ?_) | (with_reducible refine fr_lenOf fun _ => ?_) | (with_reducible refine fr_mayShare fun _ => ?_) | (with_reducible refine fr_firstCells (by assumption) fun _ _ => ?_) | (with_reducible refine fr_noRoom ?_) | split | dsimp only))
 exact h _ (.int _ _)
theorem fr_addrCmp {op : BinOp} {a b : Addr} (ha : A a.block) (hb : A b.block) {Q : (Nat → Prop) → Value → Prop} (h : ∀ v, VIn G A v → Q A v) : Sem.Fr P G (Op.addrCmp op a b) A Q := by
 unfold Op.addrCmp
 refine fr_bind (fr_addrs ha hb fun x => ?_)
 dsimp only
 split <;> first | exact fr_pure (h _ (.bool _)) | exact fr_unsup (by simp)
theorem fr_binOp {op : BinOp} {t : TypeId} {x y : Value} (hu : isUns P t = false) (he : isEq op = true → eqOk P 9 t = true ∨ x = .nilIface ∨ y = .nilIface) (hx : VIn G A x) (hy : VIn G A y) {Q : (Nat → Prop) → Value → Prop} (h : ∀ A' v, (∀ b, A b → A' b) → VIn G A' v → Q A' v) : Sem.Fr P G (binOp op t x y) A Q := by
 have h0 : ∀ v, VIn G A v → Q A v := fun v hv => h A v (fun _ z => z) hv
 unfold binOp
 split
 · unfold Op.shift
   (repeat' (first | (with_reducible exact fr_stuck) | (with_reducible exact fr_panic) | (with_reducible exact fr_boundsPanic) | (with_reducible exact fr_runtimePanic (by simp)) | (with_reducible exact fr_unsup (by simp)) | (with_reducible refine fr_program ?_) | (with_reducible refine fr_mayShare (fun _ => ?_) (fun _ => ?_)) | (with_reducible exact never_unsup) | (with_reducible refine never_bindR fun _ => ?_) | (with_reducible refine fr_shapeB (fun _ => ?_) (ShOk.same (by intros; rfl))) | (with_reducible refine fr_bind ?_) | (with_reducible refine fr_pure ?_) | (with_reducible refine fr_typeInfo fun _ _ => ?_) | (with_reducible refine fr_underlying fun _ _ => ?_) | (with_reducible refine fr_sizeOf fun _ => ?_) | (with_reducible refine fr_isAgg fun _ => ?_) | (with_reducible refine fr_choose fun _ => ?_) | (with_reducible refine fr_map ?_) | (with_reducible refine fr_asIntOf fun _ => ?_) | (with_reducible refine fr_asInt fun _ => ?_) | (with_reducible refine fr_asBool fun _ => ?_)  | (with_reducible refine fr_frozen fun _ => ?_) | (with_reducible refine fr_typeStr fun _ => ?_) | (with_reducible refine fr_elemOf fun _ => ?_) | (with_reducible refine fr_zeroValue (by assumption) (by first | assumption | exact he _ (by assumption)) fun _ _ => ?_) | (with_reducible refine fr_sureAddr (by assumption) fun _ _ => ?_) | (with_reducible refine fr_asAddr (by assumption) fun _ _ => ?_) | (with_reducible refine fr_asAgg (by assumption) fun _ _ => ?_) | (with_reducible refine fr_sliceBound fun _ => ?_) | (with_reducible refine fr_sliceBounds fun _ => ?_) | (with_reducible refine fr_askRoom ?_) | (with_reducible refine fr_byteOf (by assumption) fun _ => ?_) | (with_reducible refine fr_loadVar (by assumption) fun _ _ => ?_) | (with_reducible refine fr_part (by assumption) fun _ _ => ?_) | (with_reducible refine fr_fieldPlace (by assumption) fun _ _ => ?_) | (with_reducible refine fr_lenOf fun _ => ?_) | (with_reducible refine fr_mayShare fun _ => ?_) | (with_reducible refine fr_firstCells (by assumption) fun _ _ => ?_) | (with_reducible refine fr_noRoom ?_) | split | dsimp only))
   all_goals exact h0 _ (.int _ _)
 · unfold Op.shift
   (repeat' (first | (with_reducible exact fr_stuck) | (with_reducible exact fr_panic) | (with_reducible exact fr_boundsPanic) | (with_reducible exact fr_runtimePanic (by simp)) | (with_reducible exact fr_unsup (by simp)) | (with_reducible refine fr_program ?_) | (with_reducible refine fr_mayShare (fun _ => ?_) (fun _ => ?_)) | (with_reducible exact never_unsup) | (with_reducible refine never_bindR fun _ => ?_) | (with_reducible refine fr_shapeB (fun _ => ?_) (ShOk.same (by intros; rfl))) | (with_reducible refine fr_bind ?_) | (with_reducible refine fr_pure ?_) | (with_reducible refine fr_typeInfo fun _ _ => ?_) | (with_reducible refine fr_underlying fun _ _ => ?_) | (with_reducible refine fr_sizeOf fun _ => ?_) | (with_reducible refine fr_isAgg fun _ => ?_) | (with_reducible refine fr_choose fun _ => ?_) | (with_reducible refine fr_map ?_) | (with_reducible refine fr_asIntOf fun _ => ?_) | (with_reducible refine fr_asInt fun _ => ?_) | (with_reducible refine fr_asBool fun _ => ?_)  | (with_reducible refine fr_frozen fun _ => ?_) | (with_reducible refine fr_typeStr fun _ => ?_) | (with_reducible refine fr_elemOf fun _ => ?_) | (with_reducible refine fr_zeroValue (by assumption) (by first | assumption | exact he _ (by assumption)) fun _ _ => ?_) | (with_reducible refine fr_sureAddr (by assumption) fun _ _ => ?_) | (with_reducible refine fr_asAddr (by assumption) fun _ _ => ?_) | (with_reducible refine fr_asAgg (by assumption) fun _ _ => ?_) | (with_reducible refine fr_sliceBound fun _ => ?_) | (with_reducible refine fr_sliceBounds fun _ => ?_) | (with_reducible refine fr_askRoom ?_) | (with_reducible refine fr_byteOf (by assumption) fun _ => ?_) | (with_reducible refine fr_loadVar (by assumption) fun _ _ => ?_) | (with_reducible refine fr_part (by assumption) fun _ _ => ?_) | (with_reducible refine fr_fieldPlace (by assumption) fun _ _ => ?_) | (with_reducible refine fr_lenOf fun _ => ?_) | (with_reducible refine fr_mayShare fun _ => ?_) | (with_reducible refine fr_firstCells (by assumption) fun _ _ => ?_) | (with_reducible refine fr_noRoom ?_) | split | dsimp only))
   all_goals exact h0 _ (.int _ _)
 · unfold Op.intArith Op.intDiv Op.intBits Op.intCmp
   (repeat' (first | (with_reducible exact fr_stuck) | (with_reducible exact fr_panic) | (with_reducible exact fr_boundsPanic) | (with_reducible exact fr_runtimePanic (by simp)) | (with_reducible exact fr_unsup (by simp)) | (with_reducible refine fr_program ?_) | (with_reducible refine fr_mayShare (fun _ => ?_) (fun _ => ?_)) | (with_reducible exact never_unsup) | (with_reducible refine never_bindR fun _ => ?_) | (with_reducible refine fr_shapeB (fun _ => ?_) (ShOk.same (by intros; rfl))) | (with_reducible refine fr_bind ?_) | (with_reducible refine fr_pure ?_) | (with_reducible refine fr_typeInfo fun _ _ => ?_) | (with_reducible refine fr_underlying fun _ _ => ?_) | (with_reducible refine fr_sizeOf fun _ => ?_) | (with_reducible refine fr_isAgg fun _ => ?_) | (with_reducible refine fr_choose fun _ => ?_) | (with_reducible refine fr_map ?_) | (with_reducible refine fr_asIntOf fun _ => ?_) | (with_reducible refine fr_asInt fun _ => ?_) | (with_reducible refine fr_asBool fun _ => ?_)  | (with_reducible refine fr_frozen fun _ => ?_) | (with_reducible refine fr_typeStr fun _ => ?_) | (with_reducible refine fr_elemOf fun _ => ?_) | (with_reducible refine fr_zeroValue (by assumption) (by first | assumption | exact he _ (by assumption)) fun _ _ => ?_) | (with_reducible refine fr_sureAddr (by assumption) fun _ _ => ?_) | (with_reducible refine fr_asAddr (by assumption) fun _ _ => ?_) | (with_reducible refine fr_asAgg (by assumption) fun _ _ => ?_) | (with_reducible refine fr_sliceBound fun _ => ?_) | (with_reducible refine fr_sliceBounds fun _ => ?_) | (with_reducible refine fr_askRoom ?_) | (with_reducible refine fr_byteOf (by assumption) fun _ => ?_) | (with_reducible refine fr_loadVar (by assumption) fun _ _ => ?_) | (with_reducible refine fr_part (by assumption) fun _ _ => ?_) | (with_reducible refine fr_fieldPlace (by assumption) fun _ _ => ?_) | (with_reducible refine fr_lenOf fun _ => ?_) | (with_reducible refine fr_mayShare fun _ => ?_) | (with_reducible refine fr_firstCells (by assumption) fun _ _ => ?_) | (with_reducible refine fr_noRoom ?_) | split | dsimp only))
   all_goals first | exact h0 _ (.int _ _) | exact h0 _ (.bool _)
 · unfold Op.floatArith Op.floatCmp
   (repeat' (first | (with_reducible exact fr_stuck) | (with_reducible exact fr_panic) | (with_reducible exact fr_boundsPanic) | (with_reducible exact fr_runtimePanic (by simp)) | (with_reducible exact fr_unsup (by simp)) | (with_reducible refine fr_program ?_) | (with_reducible refine fr_mayShare (fun _ => ?_) (fun _ => ?_)) | (with_reducible exact never_unsup) | (with_reducible refine never_bindR fun _ => ?_) | (with_reducible refine fr_shapeB (fun _ => ?_) (ShOk.same (by intros; rfl))) | (with_reducible refine fr_bind ?_) | (with_reducible refine fr_pure ?_) | (with_reducible refine fr_typeInfo fun _ _ => ?_) | (with_reducible refine fr_underlying fun _ _ => ?_) | (with_reducible refine fr_sizeOf fun _ => ?_) | (with_reducible refine fr_isAgg fun _ => ?_) | (with_reducible refine fr_choose fun _ => ?_) | (with_reducible refine fr_map ?_) | (with_reducible refine fr_asIntOf fun _ => ?_) | (with_reducible refine fr_asInt fun _ => ?_) | (with_reducible refine fr_asBool fun _ => ?_)  | (with_reducible refine fr_frozen fun _ => ?_) | (with_reducible refine fr_typeStr fun _ => ?_) | (with_reducible refine fr_elemOf fun _ => ?_) | (with_reducible refine fr_zeroValue (by assumption) (by first | assumption | exact he _ (by assumption)) fun _ _ => ?_) | (with_reducible refine fr_sureAddr (by assumption) fun _ _ => ?_) | (with_reducible refine fr_asAddr (by assumption) fun _ _ => ?_) | (with_reducible refine fr_asAgg (by assumption) fun _ _ => ?_) | (with_reducible refine fr_sliceBound fun _ => ?_) | (with_reducible refine fr_sliceBounds fun _ => ?_) | (with_reducible refine fr_askRoom ?_) | (with_reducible refine fr_byteOf (by assumption) fun _ => ?_) | (with_reducible refine fr_loadVar (by assumption) fun _ _ => ?_) | (with_reducible refine fr_part (by assumption) fun _ _ => ?_) | (with_reducible refine fr_fieldPlace (by assumption) fun _ _ => ?_) | (with_reducible refine fr_lenOf fun _ => ?_) | (with_reducible refine fr_mayShare fun _ => ?_) | (with_reducible refine fr_firstCells (by assumption) fun _ _ => ?_) | (with_reducible refine fr_noRoom ?_) | split | dsimp only))
   all_goals first | exact h0 _ (.float _ _) | exact h0 _ (.bool _)
 · cases hx
 · unfold Op.stringOp
   (repeat' (first | (with_reducible exact fr_stuck) | (with_reducible exact fr_panic) | (with_reducible exact fr_boundsPanic) | (with_reducible exact fr_runtimePanic (by simp)) | (with_reducible exact fr_unsup (by simp)) | (with_reducible refine fr_program ?_) | (with_reducible refine fr_mayShare (fun _ => ?_) (fun _ => ?_)) | (with_reducible exact never_unsup) | (with_reducible refine never_bindR fun _ => ?_) | (with_reducible refine fr_shapeB (fun _ => ?_) (ShOk.same (by intros; rfl))) | (with_reducible refine fr_bind ?_) | (with_reducible refine fr_pure ?_) | (with_reducible refine fr_typeInfo fun _ _ => ?_) | (with_reducible refine fr_underlying fun _ _ => ?_) | (with_reducible refine fr_sizeOf fun _ => ?_) | (with_reducible refine fr_isAgg fun _ => ?_) | (with_reducible refine fr_choose fun _ => ?_) | (with_reducible refine fr_map ?_) | (with_reducible refine fr_asIntOf fun _ => ?_) | (with_reducible refine fr_asInt fun _ => ?_) | (with_reducible refine fr_asBool fun _ => ?_)  | (with_reducible refine fr_frozen fun _ => ?_) | (with_reducible refine fr_typeStr fun _ => ?_) | (with_reducible refine fr_elemOf fun _ => ?_) | (with_reducible refine fr_zeroValue (by assumption) (by first | assumption | exact he _ (by assumption)) fun _ _ => ?_) | (with_reducible refine fr_sureAddr (by assumption) fun _ _ => ?_) | (with_reducible refine fr_asAddr (by assumption) fun _ _ => ?_) | (with_reducible refine fr_asAgg (by assumption) fun _ _ => ?_) | (with_reducible refine fr_sliceBound fun _ => ?_) | (with_reducible refine fr_sliceBounds fun _ => ?_) | (with_reducible refine fr_askRoom ?_) | (with_reducible refine fr_byteOf (by assumption) fun _ => ?_) | (with_reducible refine fr_loadVar (by assumption) fun _ _ => ?_) | (with_reducible refine fr_part (by assumption) fun _ _ => ?_) | (with_reducible refine fr_fieldPlace (by assumption) fun _ _ => ?_) | (with_reducible refine fr_lenOf fun _ => ?_) | (with_reducible refine fr_mayShare fun _ => ?_) | (with_reducible refine fr_firstCells (by assumption) fun _ _ => ?_) | (with_reducible refine fr_noRoom ?_) | split | dsimp only))
   all_goals first | exact h0 _ (.string _) | exact h0 _ (.bool _)
 · exact fr_bind (fr_equalN (he rfl) hx hy fun b => fr_pure (h0 _ (.bool _)))
 · exact fr_bind (fr_equalN (he rfl) hx hy fun b => fr_pure (h0 _ (.bool _)))
 · refine fr_bind ?_
   refine fr_underlying fun d hd => ?_
   split
   · unfold isUns at hu
     rw [hd] at hu
     first | (simp at hu; done) | (rename_i hm; simp_all; done) | (split at * <;> simp_all)
   · exact fr_movedNumber hx rfl h
 · exact fr_movedNumber hy rfl h
 · exact fr_movedNumber hx rfl h
 · refine fr_bind (fr_behindNumber (ptr_in hx).blk fun a ha => ?_)
   refine fr_bind (fr_behindNumber (ptr_in hy).blk fun b hb => ?_)
   exact fr_bind (fr_addrs ha hb fun z => fr_pure (h0 _ (.int _ _)))
 · exact fr_bind (fr_behindNumber (ptr_in hx).blk fun a ha => fr_bind (fr_behindNumber (ptr_in hy).blk fun b hb => fr_addrCmp ha hb h0))
 · exact fr_bind (fr_behindNumber (ptr_in hx).blk fun a ha => fr_bind (fr_behindNumber (ptr_in hy).blk fun b hb => fr_addrCmp ha hb h0))
 · exact fr_bind (fr_behindNumber (ptr_in hx).blk fun a ha => fr_bind (fr_behindNumber (ptr_in hy).blk fun b hb => fr_addrCmp ha hb h0))
 · exact fr_bind (fr_behindNumber (ptr_in hx).blk fun a ha => fr_bind (fr_behindNumber (ptr_in hy).blk fun b hb => fr_addrCmp ha hb h0))
 · exact fr_bind (fr_behindNumber (ptr_in hx).blk fun a ha => fr_addrMod ha h0)
 · exact fr_bind (fr_behindNumber (ptr_in hx).blk fun a ha => fr_addrMod ha h0)
 · exact fr_bind (fr_behindNumber (ptr_in hy).blk fun a ha => fr_addrMod ha h0)
 · exact fr_unsup (by simp)
 · exact fr_unsup (by simp)
 · exact fr_stuck
theorem fr_unary {op : UnOp} {x : Value} (hx : VIn G A x) {Q : (Nat → Prop) → Value → Prop} (h : ∀ v, VIn G A v → Q A v) : Sem.Fr P G (Op.unary op x) A Q := by
 unfold Op.unary Op.intArith Op.intBits
 (repeat' (first | (with_reducible exact fr_stuck) | (with_reducible exact fr_panic) | (with_reducible exact fr_boundsPanic) | (with_reducible exact fr_runtimePanic (by simp)) | (with_reducible exact fr_unsup (by simp)) | (with_reducible refine fr_program ?_) | (with_reducible refine fr_mayShare (fun _ => ?_) (fun _ => ?_)) | (with_reducible exact never_unsup) | (with_reducible refine never_bindR fun _ => ?_) | (with_reducible refine fr_shapeB (fun _ => ?_) (ShOk.same (by intros; rfl))) | (with_reducible refine fr_bind ?_) | (with_reducible refine fr_pure ?_) | (with_reducible refine fr_typeInfo fun _ _ => ?_) | (with_reducible refine fr_underlying fun _ _ => ?_) | (with_reducible refine fr_sizeOf fun _ => ?_) | (with_reducible refine fr_isAgg fun _ => ?_) | (with_reducible refine fr_choose fun _ => ?_) | (with_reducible refine fr_map ?_) | (with_reducible refine fr_asIntOf fun _ => ?_) | (with_reducible refine fr_asInt fun _ => ?_) | (with_reducible refine fr_asBool fun _ => ?_)  | (with_reducible refine fr_frozen fun _ => ?_) | (with_reducible refine fr_typeStr fun _ => ?_) | (with_reducible refine fr_elemOf fun _ => ?_) | (with_reducible refine fr_zeroValue (by assumption) (by first | assumption | exact he _ (by assumption)) fun _ _ => ?_) | (with_reducible refine fr_sureAddr (by assumption) fun _ _ => ?_) | (with_reducible refine fr_asAddr (by assumption) fun _ _ => ?_) | (with_reducible refine fr_asAgg (by assumption) fun _ _ => ?_) | (with_reducible refine fr_sliceBound fun _ => ?_) | (with_reducible refine fr_sliceBounds fun _ => ?_) | (with_reducible refine fr_askRoom ?_) | (with_reducible refine fr_byteOf (by assumption) fun _ => ?_) | (with_reducible refine fr_loadVar (by assumption) fun _ _ => ?_) | (with_reducible refine fr_part (by assumption) fun _ _ => ?_) | (with_reducible refine fr_fieldPlace (by assumption) fun _ _ => ?_) | (with_reducible refine fr_lenOf fun _ => ?_) | (with_reducible refine fr_mayShare fun _ => ?_) | (with_reducible refine fr_firstCells (by assumption) fun _ _ => ?_) | (with_reducible refine fr_noRoom ?_) | split | dsimp only))
 all_goals first | exact h _ (.int _ _) | exact h _ (.bool _) | exact h _ (.float _ _) | (cases hx; done)
theorem fr_convert {s d : TypeId} (hs : (P.underlying s matches some (.int _)) = true) (hd : (P.underlying d matches some (.int _)) = true) {x : Value} (hx : VIn G A x) {Q : (Nat → Prop) → Value → Prop} (h : ∀ v, VIn G A v → Q A v) : Sem.Fr P G (convert s d x) A Q := by
 unfold convert
 refine fr_bind ?_
 refine fr_underlying fun ds hds => ?_
 refine fr_bind ?_
 refine fr_underlying fun dd hdd => ?_
 rw [hds] at hs
 rw [hdd] at hd
 cases ds <;> simp at hs
 cases dd <;> simp at hd
 unfold Conv.intToInt Conv.floatToInt
 (repeat' (first | (with_reducible exact fr_stuck) | (with_reducible exact fr_panic) | (with_reducible exact fr_boundsPanic) | (with_reducible exact fr_runtimePanic (by simp)) | (with_reducible exact fr_unsup (by simp)) | (with_reducible refine fr_program ?_) | (with_reducible refine fr_mayShare (fun _ => ?_) (fun _ => ?_)) | (with_reducible exact never_unsup) | (with_reducible refine never_bindR fun _ => ?_) | (with_reducible refine fr_shapeB (fun _ => ?_) (ShOk.same (by intros; rfl))) | (with_reducible refine fr_bind ?_) | (with_reducible refine fr_pure ?_) | (with_reducible refine fr_typeInfo fun _ _ => ?_) | (with_reducible refine fr_underlying fun _ _ => ?_) | (with_reducible refine fr_sizeOf fun _ => ?_) | (with_reducible refine fr_isAgg fun _ => ?_) | (with_reducible refine fr_choose fun _ => ?_) | (with_reducible refine fr_map ?_) | (with_reducible refine fr_asIntOf fun _ => ?_) | (with_reducible refine fr_asInt fun _ => ?_) | (with_reducible refine fr_asBool fun _ => ?_)  | (with_reducible refine fr_frozen fun _ => ?_) | (with_reducible refine fr_typeStr fun _ => ?_) | (with_reducible refine fr_elemOf fun _ => ?_) | (with_reducible refine fr_zeroValue (by assumption) (by first | assumption | exact he _ (by assumption)) fun _ _ => ?_) | (with_reducible refine fr_sureAddr (by assumption) fun _ _ => ?_) | (with_reducible refine fr_asAddr (by assumption) fun _ _ => ?_) | (with_reducible refine fr_asAgg (by assumption) fun _ _ => ?_) | (with_reducible refine fr_sliceBound fun _ => ?_) | (with_reducible refine fr_sliceBounds fun _ => ?_) | (with_reducible refine fr_askRoom ?_) | (with_reducible refine fr_byteOf (by assumption) fun _ => ?_) | (with_reducible refine fr_loadVar (by assumption) fun _ _ => ?_) | (with_reducible refine fr_part (by assumption) fun _ _ => ?_) | (with_reducible refine fr_fieldPlace (by assumption) fun _ _ => ?_) | (with_reducible refine fr_lenOf fun _ => ?_) | (with_reducible refine fr_mayShare fun _ => ?_) | (with_reducible refine fr_firstCells (by assumption) fun _ _ => ?_) | (with_reducible refine fr_noRoom ?_) | split | dsimp only))
 all_goals first | exact h _ (.int _ _) | contradiction | skip
 all_goals trace_state
end
end Go.Proofs.Ytclnogfmmekooaa
