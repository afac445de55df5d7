/- What the laws' walks share: words, plain laws, and the walks of functions, part 1. -/
import Derived.OrdersHeld
import Derived.WalkKit
import Derived.Deep.RegionHeld3
import Derived.Conc.Beside
import Derived.OrdersHeld
set_option linter.unusedVariables false
set_option linter.unusedSimpArgs false
set_option maxHeartbeats 16000000
set_option maxRecDepth 100000
namespace Go.Proofs.YtclnogfmmekooaaGreat
section
open Go.RowKit
section
variable {P:Program} {md:Region.Mode} {ops:Array Oper} {Q:Exit->Act->World->Prop} {S:World->Prop} {fuel:Nat} {listed:Array Bool} {a:Act} {w:World} {oi:Oper} {v:Value}
theorem tA (i:Nat) (hS:S w) (h:wpAnyH P md ops Q S fuel (listed.setIfInBounds i true) (a.put oi.dst v) w) (hi:ops[i]? = some oi:=by rfl) (hs:Region.noSelect ops = true:=by kernel_rfl) (hf:Region.free md ops listed i = true:=by kernel_rfl) (hr:(Region.ready md ops listed).contains i = true:=by kernel_rfl)
 (hQ:∀ c a w,Q (.panic c) (a.put oi.dst v) w->Q (.panic c) a w:=by first | exact fun _ _ _ h=>h | exact fun _ _ _ h=>nomatch h.1)
 (hw:Region.wanted oi (yielded ops a.tmps) = true:=by kernel_rfl) (hy:∀ w,S w->(execOp a.eval oi).run P w = .ok (.value v) w:=by (intro w' hS;(try dsimp only at hS);(repeat (rcases hS with ⟨_,hS⟩));(try go_simp);(try with_reducible rfl))):wpAnyH P md ops Q S (fuel + 1) listed a w :=
 wpAnyH_take hi hs hf hr hQ (.inl ⟨hw,hy⟩) hS h
theorem tB (i:Nat) (hS:S w) (h:wpAnyH P md ops Q S fuel (listed.setIfInBounds i true) (a.put oi.dst undef) w) (hi:ops[i]? = some oi:=by rfl) (hs:Region.noSelect ops = true:=by kernel_rfl) (hf:Region.free md ops listed i = true:=by kernel_rfl) (hr:(Region.ready md ops listed).contains i = true:=by kernel_rfl)
 (hQ:∀ c a w,Q (.panic c) (a.put oi.dst undef) w->Q (.panic c) a w:=by first | exact fun _ _ _ h=>h | exact fun _ _ _ h=>nomatch h.1)
 (hw:Region.wanted oi (yielded ops a.tmps) = false:=by kernel_rfl):wpAnyH P md ops Q S (fuel + 1) listed a w :=
 wpAnyH_take hi hs hf hr hQ (.inr ⟨hw,rfl⟩) hS h
end
theorem jj:(∀ (α:Type) (xs:List α) (i:Nat) (h:i < xs.toArray.size),xs.toArray[i]'h = xs[i]'(by simpa using h))∧(∀ (α:Type) (x:α) (xs:List α) (h:0 < (x :: xs).length),(x :: xs)[0]'h = x)∧(∀ (α:Type) (x:α) (xs:List α) (i:Nat) (h:i + 1 < (x :: xs).length),(x :: xs)[i + 1]'h = xs[i]'(by simpa using h)) ∧
 (∀ (α:Type) (l:List α) (i:Nat) (x:α),l.toArray.setIfInBounds i x = (l.set i x).toArray)∧(∀ (α:Type) (x y:α) (xs:List α),(x :: xs).set 0 y = y :: xs)∧(∀ (α:Type) (x y:α) (xs:List α) (i:Nat),(x :: xs).set (i + 1) y = x :: xs.set i y) :=
 ⟨fun _ _ _ h=>List.getElem_toArray h,fun _ _ _ _=>rfl,fun _ x xs i h=>List.getElem_cons_succ x xs i h,fun _ l i x=>List.setIfInBounds_toArray l i x,fun _ _ _ _=>List.set_cons_zero,fun _ _ _ _ _=>List.set_cons_succ⟩
theorem tC {P:Program} {md:Region.Mode} {ops:Array Oper} {Q:Exit->Act->World->Prop} {fuel:Nat} {listed:Array Bool} {a:Act} {w:World} {oi:Oper} {v:Value} (i:Nat) (h:wpAny P md ops Q fuel (listed.setIfInBounds i true) (a.put oi.dst v) w) (hi:ops[i]? = some oi:=by rfl) (hs:Region.noSelect ops = true:=by kernel_rfl) (hf:Region.free md ops listed i = true:=by kernel_rfl) (hr:(Region.ready md ops listed).contains i = true:=by kernel_rfl)
 (hQ:∀ c a w,Q (.panic c) (a.put oi.dst v) w->Q (.panic c) a w:=by first | exact fun _ _ _ h=>h | exact fun _ _ _ h=>nomatch h.1)
 (hw:Region.wanted oi (yielded ops a.tmps) = true:=by rfl) (hy:∀ w,(execOp a.eval oi).run P w = .ok (.value v) w:=by (intro w';(try go_simp);(try with_reducible rfl))):wpAny P md ops Q (fuel + 1) listed a w :=
 wpAny_take hi hs hf hr hQ (.inl ⟨hw,hy⟩) h
theorem nl {n:Nat}:n ≤ n:=Nat.le_refl n
theorem sz:(∀ (α:Type) (l:List α),l.toArray.size = l.length)∧(∀ (α:Type) (x:α) (l:List α),(x :: l).length = l.length + 1)∧∀ (α:Type),([]:List α).length = 0:=⟨fun _ l=>by simp,fun _ _ _=>by simp,fun _=>rfl⟩
theorem fu {w w':World} {b:Nat} (hf:∀ j,w'.frozen? ⟨b,j,none⟩ = w.frozen? ⟨b,j,none⟩) {c0 c1 c2 c3 c4:Bool} (h:w.frozen? ⟨b,0,none⟩ = c0∧w.frozen? ⟨b,1,none⟩ = c1∧w.frozen? ⟨b,2,none⟩ = c2∧w.frozen? ⟨b,3,none⟩ = c3∧w.frozen? ⟨b,4,none⟩ = c4) :
 w'.frozen? ⟨b,0,none⟩ = c0∧w'.frozen? ⟨b,1,none⟩ = c1∧w'.frozen? ⟨b,2,none⟩ = c2∧w'.frozen? ⟨b,3,none⟩ = c3∧w'.frozen? ⟨b,4,none⟩ = c4:=by
 obtain ⟨h0,h1,h2,h3,h4⟩:=h;exact ⟨(hf 0).trans h0,(hf 1).trans h1,(hf 2).trans h2,(hf 3).trans h3,(hf 4).trans h4⟩
theorem fv {w w':World} {b:Nat} (hc:∀ j,w'.cell? ⟨b,j,none⟩ = w.cell? ⟨b,j,none⟩) (hf:∀ j,w'.frozen? ⟨b,j,none⟩ = w.frozen? ⟨b,j,none⟩) {v0 v1 v2 v3 v4:Option Value} {c0 c1 c2 c3 c4:Bool}
 (h:w.cell? ⟨b,0,none⟩ = v0∧w.frozen? ⟨b,0,none⟩ = c0∧w.cell? ⟨b,1,none⟩ = v1∧w.frozen? ⟨b,1,none⟩ = c1∧w.cell? ⟨b,2,none⟩ = v2∧w.frozen? ⟨b,2,none⟩ = c2∧w.cell? ⟨b,3,none⟩ = v3∧w.frozen? ⟨b,3,none⟩ = c3∧w.cell? ⟨b,4,none⟩ = v4∧w.frozen? ⟨b,4,none⟩ = c4) :
 w'.cell? ⟨b,0,none⟩ = v0∧w'.frozen? ⟨b,0,none⟩ = c0∧w'.cell? ⟨b,1,none⟩ = v1∧w'.frozen? ⟨b,1,none⟩ = c1∧w'.cell? ⟨b,2,none⟩ = v2∧w'.frozen? ⟨b,2,none⟩ = c2∧w'.cell? ⟨b,3,none⟩ = v3∧w'.frozen? ⟨b,3,none⟩ = c3∧w'.cell? ⟨b,4,none⟩ = v4∧w'.frozen? ⟨b,4,none⟩ = c4:=by
 obtain ⟨h0,g0,h1,g1,h2,g2,h3,g3,h4,g4⟩:=h;exact ⟨(hc 0).trans h0,(hf 0).trans g0,(hc 1).trans h1,(hf 1).trans g1,(hc 2).trans h2,(hf 2).trans g2,(hc 3).trans h3,(hf 3).trans g3,(hc 4).trans h4,(hf 4).trans g4⟩
theorem bw {p:Prop} (h:p:=by (repeat (first | (with_reducible exact Below.refl _ _) | (with_reducible assumption) | (refine Below.setCell ?_ (by first | omega | exact hB.size | exact hb.size | (have h:=hB.size;simp;omega) | (have h:=hb.size;simp;omega) | (simp;omega) | simp) _) | (refine Below.alloc ?_ (by first | omega | exact hB.size | exact hb.size | (have h:=hB.size;simp;omega) | (have h:=hb.size;simp;omega) | (simp;omega) | simp) _) | (refine Below.drew ?_)))):p:=h
end
section
open Go.Conc

structure Cfg where
 fn:Nat->Bool
 dead:Nat->Option (Nat × Nat)
instance:CoeFun Cfg (fun _=>Nat->Bool):=⟨Cfg.fn⟩
instance:Coe Cfg (Nat->Bool):=⟨Cfg.fn⟩
def Cfg.lo (G:Cfg) (b:Nat):Nat:=match G.dead b with
 | some (l,_)=>l
 | none=>0
structure Ina (G:Cfg) (A:Nat->Prop) (a:Addr):Prop where
 blk:A a.block
 low:G.lo a.block ≤ a.off
structure zbe (G:Cfg) (A:Nat->Prop) (r:Nat):Prop where
 non:¬ A r
 zero:G.lo r = 0
theorem Ina.mono {G:Cfg} {A A':Nat->Prop} {a:Addr} (h:∀ b,A b->A' b) (x:Ina G A a):Ina G A' a:=⟨h _ x.blk,x.low⟩
theorem Ina.add {G:Cfg} {A:Nat->Prop} {a:Addr} (x:Ina G A a) (n:Nat):Ina G A (a.add n):=by
 unfold Addr.add;split
 . exact x
 exact ⟨x.blk,Nat.le_trans x.low (Nat.le_add_right _ _)⟩
theorem Ina.up {G:Cfg} {A:Nat->Prop} {a a':Addr} (x:Ina G A a) (h1:a'.block = a.block) (h2:a.off ≤ a'.off):Ina G A a':=⟨by rw [h1];exact x.blk,by rw [h1];exact Nat.le_trans x.low h2⟩
theorem zbe.ina {G:Cfg} {A:Nat->Prop} {r:Nat} (h:zbe G A r) (o:Nat) (s:Option Nat):Ina G (fun b=>A b∨b = r) ⟨r,o,s⟩:=⟨.inr rfl,by rw [h.zero];exact Nat.zero_le _⟩
inductive VIn (G:Cfg) (A:Nat->Prop):Value->Prop
 | bool (b:Bool):VIn G A (.bool b)
 | int (k:IntKind) (n:Int):VIn G A (.int k n)
 | float (k:FloatKind) (n:Nat):VIn G A (.float k n)
 | string (s:ByteArray):VIn G A (.string s)
 | ptr0:VIn G A (.pointer none)
 | ptr {a:Addr}:Ina G A a->VIn G A (.pointer (some a))
 | slice0 (n c:Nat):VIn G A (.slice none n c)
 | slice {a:Addr} (n c:Nat):Ina G A a->VIn G A (.slice (some a) n c)
 | map0:VIn G A (.map none)
 | map {r:Nat}:A r->VIn G A (.map (some r))
 | chan0:VIn G A (.chan none)
 | func {f:FuncId} {first captured:Array Value}:G f = true->(∀ v ∈ first,VIn G A v)->(∀ v ∈ captured,VIn G A v)->VIn G A (.func (.func f) first captured)
 | yield {l:Nat} {first captured:Array Value}:A l->(∀ v ∈ first,VIn G A v)->(∀ v ∈ captured,VIn G A v)->VIn G A (.func (.yield l) first captured)
 | nilFunc:VIn G A .nilFunc
 | nilIface:VIn G A .nilIface
 | iface {t:TypeId} {v:Value}:VIn G A v->VIn G A (.iface t v)
 | agg {cs:Array Value}:(∀ v ∈ cs,VIn G A v)->VIn G A (.agg cs)
 | tuple {vs:Array Value}:(∀ v ∈ vs,VIn G A v)->VIn G A (.tuple vs)

theorem VIn.mono {G:Cfg} {A A':Nat->Prop} (h:∀ b,A b->A' b) {v:Value} (hv:VIn G A v):VIn G A' v:=by
 induction hv with
 | bool b=>exact .bool b
 | int k n=>exact .int k n
 | float k n=>exact .float k n
 | string s=>exact .string s
 | ptr0=>exact .ptr0
 | ptr x=>exact .ptr (x.mono h)
 | slice0 n c=>exact .slice0 n c
 | slice n c x=>exact .slice n c (x.mono h)
 | map0=>exact .map0
 | map x=>exact .map (h _ x)
 | chan0=>exact .chan0
 | func hg _ _ i1 i2=>exact .func hg i1 i2
 | yield hl _ _ i1 i2=>exact .yield (h _ hl) i1 i2
 | nilFunc=>exact .nilFunc
 | nilIface=>exact .nilIface
 | iface _ i=>exact .iface i
 | agg _ i=>exact .agg i
 | tuple _ i=>exact .tuple i

def Zm:Nat->Value->Bool
 | 0,_=>false
 | n + 1, v => match v with
   | .bool _ | .int .. | .float .. | .string _ | .pointer none | .slice none _ _ | .map none | .chan none | .nilFunc | .nilIface=>true
   | .agg cs=>cs.toList.all (Zm n)
   | .tuple cs=>cs.toList.all (Zm n)
   | _=>false
def zia (v:Value):Bool:=Zm 9 v
theorem VIn.of_plainN {G:Cfg} {A:Nat->Prop}:∀ (n:Nat) {v:Value},Zm n v = true->VIn G A v
 | 0,_,h=>by simp [Zm] at h
 | n + 1, v, h => by
   cases v with
   | bool b=>exact .bool b
   | int k n=>exact .int k n
   | float k n=>exact .float k n
   | complex k a b=>simp [Zm] at h
   | string s=>exact .string s
   | pointer a=>cases a with | none=>exact .ptr0 | some a=>simp [Zm] at h
   | slice a n c=>cases a with | none=>exact .slice0 n c | some a=>simp [Zm] at h
   | map r=>cases r with | none=>exact .map0 | some a=>simp [Zm] at h
   | chan r=>cases r with | none=>exact .chan0 | some a=>simp [Zm] at h
   | func fn a b=>simp [Zm] at h
   | nilFunc=>exact .nilFunc
   | nilIface=>exact .nilIface
   | iface t v=>simp [Zm] at h
   | agg cs =>
     refine .agg fun v hv=>VIn.of_plainN n ?_;simp only [Zm,List.all_eq_true] at h;exact h v (Array.mem_toList_iff.2 hv)
   | tuple cs =>
     refine .tuple fun v hv=>VIn.of_plainN n ?_;simp only [Zm,List.all_eq_true] at h;exact h v (Array.mem_toList_iff.2 hv)
theorem VIn.of_plain {G:Cfg} {A:Nat->Prop} {v:Value} (h:zia v = true):VIn G A v:=.of_plainN 9 h

def Z1 (G:Nat->Bool):Operand->Bool
 | .tmp _=>true
 | .const v=>zia v
 | .global _=>false
 | .func f=>G f
def tyOk (P:Program) (t:TypeId):Bool:=decide (t < P.types.size)
def elOk (P:Program) (t:TypeId):Bool :=
 match P.underlying t with
 | some (.slice e) | some (.map _ e)=>tyOk P e
 | _=>true
def eqOk (P:Program):Nat->TypeId->Bool
 | 0,_=>false
 | d + 1, t => match P.underlying t with
   | some .bool | some (.int _) | some (.float _) | some .string | some (.slice _) | some (.map _ _) | some (.func ..)=>true
   | some (.struct fs)=>fs.all fun f=>eqOk P d f.type
   | some (.array _ e)=>eqOk P d e
   | _=>false
def zn1 (P:Program) (t:TypeId):Bool:=match P.underlying t with
 | some (.map k _)=>eqOk P 9 k
 | _=>true
def zpo (P:Program) (t:TypeId):Bool:=match P.underlying t with | some .unsafePointer=>true | _=>false
def zn2 (x:Operand):Bool:=match x with | .const .nilIface=>true | _=>false
def isEq (op:BinOp):Bool:=match op with | .eql | .neq=>true | _=>false
def opOk (P:Program) (G:Nat->Bool) (o:Op):Bool :=
 (match o with
 | .alloc t | .build t _=>tyOk P t
 | .buildSlice t _ _ | .makeSlice t _ _=>elOk P t
 | .lookup t _ _ _=>elOk P t && zn1 P t
 | .mapUpdate t _ _ _=>zn1 P t
 | .move _ | .assign _ | .pick .. | .box .. | .load .. | .store .. | .nilCheck _ | .unOp .. | .makeInterface ..
 | .makeMap .. | .slice .. | .fieldAddr .. | .field .. | .indexAddr .. | .extract ..=>true
 | .binOp op t x y _=>!zpo P t && (!isEq op || (eqOk P 9 t || (zn2 x || zn2 y)))
 | .convert s d _=>(P.underlying s matches some (.int _)) && (P.underlying d matches some (.int _))
 | .makeFunc (.func f) ..=>G f
 | .call c => (match c.callee with
   | .value _=>true
   | .builtin .append=>(match c.argTypes[0]? with | some t=>elOk P t | none=>true)
   | .builtin .copy | .builtin .len | .builtin .max | .builtin .min=>true
   | _=>false)
 | _=>false) && o.operands.all (Z1 G)
def xn (P:Program) (G:Nat->Bool):Code->Bool
 | .skip | .exit _ | .ret | .refuse _=>true
 | .region _ ops _=>ops.all fun o=>opOk P G o.op
 | .seq a b=>xn P G a && xn P G b
 | .cond c a b=>Z1 G c && (xn P G a && xn P G b)
 | .block _ c | .loop c=>xn P G c
 | .rangeFunc f _ a b=>Z1 G f && (xn P G a && xn P G b)
 | _=>false

inductive OIn (P:Program) (G:Cfg) (A:Nat->Prop) (r:Nat):Obj->Prop
 | cells {c:Array Value} {e:TypeId} {fr:Nat × Nat}:(∀ j v,G.lo r ≤ j->c[j]? = some v->VIn G A v)->OIn P G A r (.cells c e fr)
 | map {es:Array MapEntry} {clock:Nat}:(∀ e ∈ es,VIn G A e.key∧VIn G A e.val)->OIn P G A r (.map es clock)
 | loop {l:Loop}:(∀ v ∈ l.tmps,VIn G A v)->xn P G l.assign = true->xn P G l.body = true->(∀ c,l.pending = some c->xn P G c = true)->A l.defers->OIn P G A r (.loop l)
 | deferred {o:Option (List Deferred)}:(∀ ds,o = some ds->ds = [])->OIn P G A r (.deferred o)
 | number {a:Addr} {lost:Bool}:A a.block->OIn P G A r (.number a lost)
theorem OIn.all {P:Program} {G:Cfg} {A:Nat->Prop} {r:Nat} {c:Array Value} {e:TypeId} {fr:Nat × Nat} (h:∀ v ∈ c,VIn G A v):OIn P G A r (.cells c e fr):=.cells fun _ _ _ hv=>h _ (Array.mem_of_getElem? hv)
theorem OIn.mono {P:Program} {G:Cfg} {A A':Nat->Prop} {r:Nat} (h:∀ b,A b->A' b) {o:Obj} (ho:OIn P G A r o):OIn P G A' r o:=by
 cases ho with
 | cells hc=>exact .cells fun j v hj hv=>(hc j v hj hv).mono h
 | map hm=>exact .map fun e he=>⟨(hm e he).1.mono h,(hm e he).2.mono h⟩
 | loop h1 h2 h3 h4 h5=>exact .loop (fun v hv=>(h1 v hv).mono h) h2 h3 h4 (h _ h5)
 | deferred hd=>exact .deferred hd
 | number ha=>exact .number (h _ ha)
structure HIn (P:Program) (G:Cfg) (A:Nat->Prop) (w:World):Prop where
 obj:∀ r,A r->∃ o,w.heap[r]? = some o∧OIn P G A r o
 there:∀ c l h,G.dead c = some (l,h)->c < w.heap.size
theorem HIn.zero {P:Program} {G:Cfg} {A:Nat->Prop} {w:World} (h:HIn P G A w) (r:Nat) (hr:w.heap.size ≤ r):G.lo r = 0:=by
 unfold Cfg.lo;split
 . rename_i l hi e;have:=h.there _ l hi e;omega
 rfl
theorem HIn.lt {P:Program} {G:Cfg} {A:Nat->Prop} {w:World} (h:HIn P G A w) {r:Nat} (hr:A r):r < w.heap.size:=by
 obtain ⟨o,ho,_⟩:=h.obj r hr;exact (Array.getElem?_eq_some_iff.1 ho).1

def zcg:Halt->Prop
 | .panic _ | .stuck _=>True
 | .unsupported (.initOrder _)=>False
 | .unsupported _=>True
 | _=>False
def ShOk (P:Program) {α:Type} (k:Option (TypeId × Nat)->Sem α):Prop:=∀ t n n',n ≤ n'->∀ w es x w1 es1,(k (some (t,n))).runT P w es = (.ok x w1,es1)->(k (some (t,n'))).runT P w es = (.ok x w1,es1)
theorem ShOk.same {P:Program} {α:Type} {k:Option (TypeId × Nat)->Sem α} (h:∀ t n n',k (some (t,n)) = k (some (t,n'))):ShOk P k:=fun t n n' _ w es x w1 es1 e=>by rw [h t n' n];exact e
def j3 (P:Program) {α:Type} (s:Sem α):Prop:=∀ w es x w1 es1,s.runT P w es ≠ (.ok x w1,es1)
theorem ShOk.never {P:Program} {α:Type} {k:Option (TypeId × Nat)->Sem α} (h:∀ s,j3 P (k s)):ShOk P k:=fun t n n' _ w es x w1 es1 e=>absurd e (h _ w es x w1 es1)
theorem ShOk.bind {P:Program} {α β:Type} {k:Option (TypeId × Nat)->Sem α} {f:α->Sem β} (h:ShOk P k):ShOk P fun s=>(k s).bind f:=by
 intro t n n' hn w es x w1 es1 e;simp only [Sem.runT_bind'] at e ⊢;cases hr:(k (some (t,n))).runT P w es with
 | mk r es' =>
   rw [hr] at e;cases r with
   | ok a w'=>rw [h t n n' hn _ _ _ _ _ hr];exact e
   | halt y w'=>cases e
theorem j3.bind {P:Program} {α β:Type} {s:Sem α} (f:α->Sem β) (h:j3 P s):j3 P (s.bind f):=by
 intro w es x w1 es1 e;rw [Sem.runT_bind'] at e;cases hr:s.runT P w es with
 | mk r es' =>
   rw [hr] at e;cases r with
   | ok a w'=>exact h _ _ _ _ _ hr
   | halt y w'=>cases e
theorem j3.bindR {P:Program} {α β:Type} {s:Sem α} {f:α->Sem β} (h:∀ a,j3 P (f a)):j3 P (s.bind f):=by
 intro w es x w1 es1 e;rw [Sem.runT_bind'] at e;cases hr:s.runT P w es with
 | mk r es' =>
   rw [hr] at e;cases r with
   | ok a w'=>exact h _ _ _ _ _ _ e
   | halt y w'=>cases e
def Sem.Fr (P:Program) (G:Cfg) {α:Type}:Sem α->(Nat->Prop)->((Nat->Prop)->α->Prop)->Prop
 | .pure a,A,Q=>Q A a
 | .load _ a k,A,Q=>Ina G A a∧∀ v,VIn G A v->Sem.Fr P G (k v) A Q
 | .store _ a v k,A,Q=>A a.block∧VIn G A v∧Sem.Fr P G k A Q
 | .new o k,A,Q=>(∀ r,OIn P G A r o)∧∀ r,zbe G A r->Sem.Fr P G (k r) (fun b=>A b∨b = r) Q
 | .shape _ k,A,Q=>(∀ s,Sem.Fr P G (k s) A Q)∧ShOk P k
 | .freeze a _ k,A,Q=>A a.block∧Sem.Fr P G k A Q
 | .frozen _ k,A,Q=>∀ b,Sem.Fr P G (k b) A Q
 | .getObj r k,A,Q=>A r∧∀ o,OIn P G A r o->Sem.Fr P G (k o) A Q
 | .setObj r o k,A,Q=>A r∧OIn P G A r o∧(∀ c e f,o ≠ .cells c e f)∧Sem.Fr P G k A Q
 | .choose _ k,A,Q=>∀ n,Sem.Fr P G (k n) A Q
 | .sys _ _,_,_=>False
 | .program k,A,Q=>Sem.Fr P G (k P) A Q
 | .mark m k,A,Q=>m = .noRoom∧Sem.Fr P G k A Q
 | .halt h,_,_=>zcg h
section
variable {P:Program} {G:Cfg} {α β:Type}
theorem Sem.Fr.mono {s:Sem α} {Q Q':(Nat->Prop)->α->Prop}:∀ {A:Nat->Prop},Sem.Fr P G s A Q->(∀ A' a,(∀ b,A b->A' b)->Q A' a->Q' A' a)->Sem.Fr P G s A Q':=by
 induction s with
 | pure a=>exact fun h hq=>hq _ _ (fun _ x=>x) h
 | load m a k ih=>exact fun h hq=>⟨h.1,fun v hv=>ih v (h.2 v hv) hq⟩
 | store m a v k ih=>exact fun h hq=>⟨h.1,h.2.1,ih h.2.2 hq⟩
 | new o k ih=>exact fun h hq=>⟨h.1,fun r hr=>ih r (h.2 r hr) fun A' a hA=>hq A' a fun b hb=>hA b (.inl hb)⟩
 | shape r k ih=>exact fun h hq=>⟨fun s=>ih s (h.1 s) hq,h.2⟩
 | freeze a n k ih=>exact fun h hq=>⟨h.1,ih h.2 hq⟩
 | frozen a k ih=>exact fun h hq b=>ih b (h b) hq
 | getObj r k ih=>exact fun h hq=>⟨h.1,fun o ho=>ih o (h.2 o ho) hq⟩
 | setObj r o k ih=>exact fun h hq=>⟨h.1,h.2.1,h.2.2.1,ih h.2.2.2 hq⟩
 | choose q k ih=>exact fun h hq n=>ih n (h n) hq
 | sys c k ih=>exact fun h _=>h
 | program k ih=>exact fun h hq=>ih P h hq
 | mark m k ih=>exact fun h hq=>⟨h.1,ih h.2 hq⟩
 | halt h=>exact fun h _=>h
theorem Sem.Fr.bind {s:Sem α} {f:α->Sem β} {Q:(Nat->Prop)->β->Prop}:∀ {A:Nat->Prop},Sem.Fr P G s A (fun A' a=>Sem.Fr P G (f a) A' Q)->Sem.Fr P G (s.bind f) A Q:=by
 induction s with
 | pure a=>exact fun h=>h
 | load m a k ih=>exact fun h=>⟨h.1,fun v hv=>ih v (h.2 v hv)⟩
 | store m a v k ih=>exact fun h=>⟨h.1,h.2.1,ih h.2.2⟩
 | new o k ih=>exact fun h=>⟨h.1,fun r hr=>ih r (h.2 r hr)⟩
 | shape r k ih=>exact fun h=>⟨fun s=>ih s (h.1 s),h.2.bind⟩
 | freeze a n k ih=>exact fun h=>⟨h.1,ih h.2⟩
 | frozen a k ih=>exact fun h b=>ih b (h b)
 | getObj r k ih=>exact fun h=>⟨h.1,fun o ho=>ih o (h.2 o ho)⟩
 | setObj r o k ih=>exact fun h=>⟨h.1,h.2.1,h.2.2.1,ih h.2.2.2⟩
 | choose q k ih=>exact fun h n=>ih n (h n)
 | sys c k ih=>exact fun h=>h
 | program k ih=>exact fun h=>ih P h
 | mark m k ih=>exact fun h=>⟨h.1,ih h.2⟩
 | halt h=>exact fun h=>h
end

def EvIn (A:Nat->Prop) (e:Event):Prop :=
 match e.loc with
 | .cell a=>A a.block
 | .obj r=>A r∧e.sync = false
 | .mark m=>m = .noRoom
 | _=>False
theorem EvIn.mono {A A':Nat->Prop} (h:∀ b,A b->A' b) {e:Event} (he:EvIn A e):EvIn A' e:=by
 unfold EvIn at *;split <;> simp_all
structure Kept (A A':Nat->Prop) (w w':World):Prop where
 grow:∀ b,A b->A' b
 fresh:∀ b,A' b->A b∨w.heap.size ≤ b
 size:w.heap.size ≤ w'.heap.size
 stand:∀ b,¬ A b->b < w.heap.size->w'.heap[b]? = w.heap[b]?
 os:w'.os = w.os
 output:w'.output = w.output
 tape:w'.tape = w.tape
theorem Kept.refl (A:Nat->Prop) (w:World):Kept A A w w:=⟨fun _ h=>h,fun _ h=>.inl h,Nat.le_refl _,fun _ _ _=>rfl,rfl,rfl,rfl⟩
theorem Kept.trans {A A' A'':Nat->Prop} {w w' w'':World} (h:Kept A A' w w') (k:Kept A' A'' w' w''):Kept A A'' w w'' :=
 ⟨fun b x=>k.grow b (h.grow b x),fun b x=>(k.fresh b x).elim (h.fresh b) (fun y=>.inr (Nat.le_trans h.size y)),Nat.le_trans h.size k.size,
  fun b x y=>by rw [k.stand b (fun z=>(h.fresh b z).elim x (fun l=>by omega)) (Nat.lt_of_lt_of_le y h.size),h.stand b x y],k.os.trans h.os,k.output.trans h.output,k.tape.trans h.tape⟩

theorem getElem?_push_old {α:Type} (a:Array α) (x:α) {i:Nat} (h:i < a.size):(a.push x)[i]? = a[i]?:=by
 rw [Array.getElem?_push];simp [Nat.ne_of_lt h]
theorem HIn.push {P:Program} {G:Cfg} {A:Nat->Prop} {w:World} (h:HIn P G A w) {o:Obj} (ho:∀ r,OIn P G A r o):HIn P G (fun b=>A b∨b = w.heap.size) { w with heap:=w.heap.push o }:=by
 refine ⟨fun r hr=>?_,fun c l hi e=>by have:=h.there c l hi e;simp;omega⟩;rcases hr with hr | rfl
 . obtain ⟨x,hx,hin⟩:=h.obj r hr;exact ⟨x,by show (w.heap.push o)[r]? = _;rw [getElem?_push_old _ _ (h.lt hr)];exact hx,hin.mono fun b hb=>.inl hb⟩
 exact ⟨o,by simp,(ho _).mono fun b hb=>.inl hb⟩
theorem HIn.set {P:Program} {G:Cfg} {A:Nat->Prop} {w:World} (h:HIn P G A w) {r:Nat} {o:Obj} (ho:OIn P G A r o):HIn P G A { w with heap:=w.heap.setIfInBounds r o }:=by
 refine ⟨fun q hq=>?_,fun c l hi e=>by simpa using h.there c l hi e⟩;obtain ⟨x,hx,hin⟩:=h.obj q hq;by_cases e:r = q
 . subst e;exact ⟨o,by simp [h.lt hq],ho⟩
 exact ⟨x,by show (w.heap.setIfInBounds r o)[q]? = _;rw [Array.getElem?_setIfInBounds_ne e];exact hx,hin⟩
theorem Kept.push {A:Nat->Prop} (w:World) (o:Obj):Kept A (fun b=>A b∨b = w.heap.size) w { w with heap:=w.heap.push o } :=
 ⟨fun b h=>.inl h,fun b h=>h.elim .inl fun e=>.inr (by omega),by simp,fun b _ hb=>getElem?_push_old _ _ hb,rfl,rfl,rfl⟩
theorem Kept.set {A:Nat->Prop} (w:World) {r:Nat} (hr:A r) (o:Obj):Kept A A w { w with heap:=w.heap.setIfInBounds r o } :=
 ⟨fun _ h=>h,fun b h=>.inl h,by simp,fun b hb _=>Array.getElem?_setIfInBounds_ne (fun e:r = b=>hb (by rw [← e];exact hr)),rfl,rfl,rfl⟩
theorem K8 {P:Program} {G:Cfg} {A:Nat->Prop} {w:World} (h:HIn P G A w) {a:Addr} (ha:Ina G A a) {v:Value} (hv:w.cell? a = some v):VIn G A v:=by
 obtain ⟨o,ho,hin⟩:=h.obj _ ha.blk;unfold World.cell? at hv;rw [ho] at hv;cases hin with
 | cells hc =>
   simp only at hv;split at hv
   . cases hv
   exact hc _ v ha.low hv
 | _=>simp at hv
theorem zml {P:Program} {G:Cfg} {A:Nat->Prop} {w:World} (h:HIn P G A w) {a:Addr} (ha:A a.block) (m:Bool):∃ s,w.farLoad P a m = .error (.stuck s):=by
 obtain ⟨o,ho,hin⟩:=h.obj _ ha;unfold World.farLoad World.noCell;rw [ho];cases hin <;> exact ⟨_,rfl⟩
theorem zd7 {P:Program} {G:Cfg} {A:Nat->Prop} {w:World} (h:HIn P G A w) {a:Addr} (ha:A a.block) (v:Value) (m:Bool):∃ s,w.farStore P a v m = .error (.stuck s):=by
 obtain ⟨o,ho,hin⟩:=h.obj _ ha;unfold World.farStore World.noCell;rw [ho];cases hin <;> exact ⟨_,rfl⟩
theorem HIn.modify {P:Program} {G:Cfg} {A:Nat->Prop} {w:World} (h:HIn P G A w) (r:Nat) (f:Obj->Obj) (hf:∀ o,OIn P G A r o->OIn P G A r (f o)):HIn P G A { w with heap:=w.heap.modify r f }:=by
 refine ⟨fun q hq=>?_,fun c l hi e=>by simpa using h.there c l hi e⟩;obtain ⟨x,hx,hin⟩:=h.obj q hq;by_cases e:r = q
 . subst e;exact ⟨f x,by show (w.heap.modify r f)[r]? = _;rw [Array.getElem?_modify];simp [hx],hf x hin⟩
 exact ⟨x,by show (w.heap.modify r f)[q]? = _;rw [Array.getElem?_modify];simp [e,hx],hin⟩
theorem Kept.modify {A:Nat->Prop} (w:World) {r:Nat} (hr:A r) (f:Obj->Obj):Kept A A w { w with heap:=w.heap.modify r f } :=
 ⟨fun _ h=>h,fun b h=>.inl h,by simp,fun b hb _=>by show (w.heap.modify r f)[b]? = _;rw [Array.getElem?_modify];simp [show r ≠ b from fun e=>hb (e ▸ hr)],rfl,rfl,rfl⟩
theorem HIn.setCell {P:Program} {G:Cfg} {A:Nat->Prop} {w:World} (h:HIn P G A w) (a:Addr) {v:Value} (hv:VIn G A v):HIn P G A (w.setCell a v):=by
 refine h.modify _ _ fun o ho=>?_;cases ho with
 | cells hc =>
   refine .cells fun j x hj hx=>?_;split at hx
   . exact hc j x hj hx
   rw [Array.getElem?_setIfInBounds] at hx;split at hx
   . split at hx
     . cases hx;exact hv
     cases hx
   exact hc j x hj hx
 | map hm=>exact .map hm
 | loop h1 h2 h3 h4 h5=>exact .loop h1 h2 h3 h4 h5
 | deferred hd=>exact .deferred hd
 | number ha=>exact .number ha
theorem HIn.freeze {P:Program} {G:Cfg} {A:Nat->Prop} {w:World} (h:HIn P G A w) (a:Addr) (n:Nat):HIn P G A (w.freeze a n):=by
 unfold World.freeze;split
 . exact h
 refine h.modify _ _ fun o ho=>?_;cases ho with
 | cells hc=>exact .cells hc
 | map hm=>exact .map hm
 | loop h1 h2 h3 h4 h5=>exact .loop h1 h2 h3 h4 h5
 | deferred hd=>exact .deferred hd
 | number ha=>exact .number ha
theorem HIn.drew {P:Program} {G:Cfg} {A:Nat->Prop} {w:World} (h:HIn P G A w) (d:Nat):HIn P G A { w with drawn:=d }:=⟨h.obj,h.there⟩

theorem EvIn.cell {A:Nat->Prop} {a:Addr} {x y:Bool} (h:A a.block):EvIn A ⟨.cell a,x,y⟩:=h
theorem EvIn.obj {A:Nat->Prop} {r:Nat} {x y:Bool} (h:A r) (hy:y = false):EvIn A ⟨.obj r,x,y⟩:=⟨h,hy⟩
theorem EvIn.mark {A:Nat->Prop} {m:Mark} {x y:Bool} (h:m = .noRoom):EvIn A ⟨.mark m,x,y⟩:=h
theorem q8 {A:Nat->Prop} {x:Event} {es:Array Event} (h:EvIn A x):∀ e ∈ es.push x,e ∈ es∨EvIn A e:=by
 intro e he;rcases Array.mem_push.1 he with h1 | rfl
 . exact .inl h1
 exact .inr h
theorem Sem.Fr.run {P:Program} {G:Cfg} {α:Type} {s:Sem α} {Q:(Nat->Prop)->α->Prop}:∀ {A:Nat->Prop} {w:World} {es:Array Event},Sem.Fr P G s A Q->HIn P G A w ->
 match s.runT P w es with
 | (.ok a w',es')=>∃ A',Kept A A' w w'∧HIn P G A' w'∧Q A' a∧∀ e ∈ es',e ∈ es∨EvIn A' e
 | (.halt h w',es')=>zcg h∧∃ A',Kept A A' w w'∧HIn P G A' w'∧∀ e ∈ es',e ∈ es∨EvIn A' e:=by
 have after:∀ {β:Type} {A A₁:Nat->Prop} {w w₁:World} {es es₁:Array Event} {Q:(Nat->Prop)->β->Prop} {x:Result β × Array Event},Kept A A₁ w w₁->(∀ e ∈ es₁,e ∈ es∨EvIn A₁ e) ->
  (match x with
  | (.ok a w',es')=>∃ A',Kept A₁ A' w₁ w'∧HIn P G A' w'∧Q A' a∧∀ e ∈ es',e ∈ es₁∨EvIn A' e
  | (.halt h w',es')=>zcg h∧∃ A',Kept A₁ A' w₁ w'∧HIn P G A' w'∧∀ e ∈ es',e ∈ es₁∨EvIn A' e) ->
  (match x with
  | (.ok a w',es')=>∃ A',Kept A A' w w'∧HIn P G A' w'∧Q A' a∧∀ e ∈ es',e ∈ es∨EvIn A' e
  | (.halt h w',es')=>zcg h∧∃ A',Kept A A' w w'∧HIn P G A' w'∧∀ e ∈ es',e ∈ es∨EvIn A' e):=by
  intro β A A₁ w w₁ es es₁ Q x hk he hx;obtain ⟨r,es'⟩:=x;cases r with
  | ok a w' =>
    obtain ⟨A',k,hh,q,e⟩:=hx;exact ⟨A',hk.trans k,hh,q,fun y hy=>(e y hy).elim (fun z=>(he y z).imp id (·.mono k.grow)) .inr⟩
  | halt h w' =>
    obtain ⟨ho,A',k,hh,e⟩:=hx;exact ⟨ho,A',hk.trans k,hh,fun y hy=>(e y hy).elim (fun z=>(he y z).imp id (·.mono k.grow)) .inr⟩
 induction s with
 | pure a=>exact fun {A w es} h hw=>⟨A, .refl A w,hw,h,fun e he=>.inl he⟩
 | load m a k ih =>
   intro A w es h hw;simp only [Sem.runT];cases hc:w.cell? a with
   | some v =>
     simp only;exact after (.refl A w) (q8 (.cell h.1.blk)) (ih v (h.2 v (K8 hw h.1 hc)) hw)
   | none =>
     obtain ⟨s,hs⟩:=zml hw h.1.blk (m == .atomic);simp only [hs];exact ⟨trivial,A, .refl A w,hw,fun e he=>.inl he⟩
 | store m a v k ih =>
   intro A w es h hw;have key:(match w.cell? a with
    | some _ =>
      if w.frozen? a then (Result.halt (.unsupported (.unsafePointer "a write to bytes that a string shares")) w,es)
      else k.runT P (w.setCell a v) (es.push ⟨.cell a,true,m == .atomic⟩)
    | none => match w.farStore P a v (m == .atomic) with
      | .ok (w,touched)=>k.runT P w (es ++ touched.toArray.map (⟨.cell ·,true,m == .atomic⟩))
      | .error h=>(Result.halt h w,es)) = (Sem.store m a v k).runT P w es∨(Sem.store m a v k).runT P w es = (.halt (.stuck "store: not the value of one cell") w,es):=by
    cases v <;> first | exact .inl rfl | exact .inr rfl
   rcases key with key | key
   . rw [← key];cases hc:w.cell? a with
     | some x =>
       simp only;by_cases hf:w.frozen? a = true
       . simp only [hf,if_true];exact ⟨trivial,A, .refl A w,hw,fun e he=>.inl he⟩
       simp only [hf,if_false,Bool.false_eq_true];exact after (.modify w h.1 _) (q8 (.cell h.1)) (ih h.2.2 (hw.setCell a h.2.1))
     | none =>
       obtain ⟨s,hs⟩:=zd7 hw h.1 v (m == .atomic);simp only [hs];exact ⟨trivial,A, .refl A w,hw,fun e he=>.inl he⟩
   rw [key];exact ⟨trivial,A, .refl A w,hw,fun e he=>.inl he⟩
 | new o k ih =>
   intro A w es h hw;exact after (Kept.push w o) (fun e he=>.inl he) (ih _ (h.2 _ ⟨fun x=>Nat.lt_irrefl _ (hw.lt x),hw.zero _ nl⟩) (hw.push h.1))
 | shape r k ih=>exact fun {A w es} h hw=>ih _ (h.1 _) hw
 | freeze a n k ih =>
   intro A w es h hw;refine after (A₁:=A) (w₁:=w.freeze a n) ?_ (fun e he=>.inl he) (ih h.2 (hw.freeze a n));unfold World.freeze;split
   . exact .refl A w
   exact .modify w h.1 _
 | frozen a k ih=>exact fun {A w es} h hw=>ih _ (h _) hw
 | getObj r k ih =>
   intro A w es h hw;obtain ⟨o,ho,hin⟩:=hw.obj r h.1;simp only [Sem.runT,ho];cases hin with
   | cells hc=>exact ⟨trivial,A, .refl A w,hw,fun e he=>.inl he⟩
   | map hm=>exact after (.refl A w) (q8 (.obj h.1 rfl)) (ih _ (h.2 _ (.map hm)) hw)
   | loop h1 h2 h3 h4 h5=>exact after (.refl A w) (q8 (.obj h.1 rfl)) (ih _ (h.2 _ (.loop h1 h2 h3 h4 h5)) hw)
   | deferred hd=>exact after (.refl A w) (q8 (.obj h.1 rfl)) (ih _ (h.2 _ (.deferred hd)) hw)
   | number ha=>exact after (.refl A w) (q8 (.obj h.1 rfl)) (ih _ (h.2 _ (.number ha)) hw)
 | setObj r o k ih =>
   intro A w es h hw;obtain ⟨x,hx,hin⟩:=hw.obj r h.1;have hs:o.isChan = false:=by cases h.2.1 <;> rfl
   simp only [Sem.runT,hx];cases hin with
   | cells hc=>exact ⟨trivial,A, .refl A w,hw,fun e he=>.inl he⟩
   | map _=>exact after (.set w h.1 o) (q8 (.obj h.1 hs)) (ih h.2.2.2 (hw.set h.2.1))
   | loop _ _ _ _ _=>exact after (.set w h.1 o) (q8 (.obj h.1 hs)) (ih h.2.2.2 (hw.set h.2.1))
   | deferred _=>exact after (.set w h.1 o) (q8 (.obj h.1 hs)) (ih h.2.2.2 (hw.set h.2.1))
   | number _=>exact after (.set w h.1 o) (q8 (.obj h.1 hs)) (ih h.2.2.2 (hw.set h.2.1))
 | choose q k ih =>
   intro A w es h hw;simp only [Sem.runT];by_cases hq:q.forced = true
   . simp only [hq,if_true];exact ih _ (h _) hw
   simp only [hq,if_false,Bool.false_eq_true];refine after (A₁:=A) (w₁:={ w with drawn:=w.drawn + 1 }) ⟨fun _ x=>x,fun _ x=>.inl x,Nat.le_refl _,fun _ _ _=>rfl,rfl,rfl,rfl⟩ (fun e he=>.inl he) (ih _ (h _) (hw.drew _))
 | sys c k ih=>exact fun h _=>h.elim
 | program k ih=>exact fun {A w es} h hw=>ih P h hw
 | mark m k ih =>
   intro A w es h hw;exact after (.refl A w) (q8 (.mark h.1)) (ih h.2 hw)
 | halt h=>exact fun {A w es} ho hw=>⟨ho,A, .refl A w,hw,fun e he=>.inl he⟩
end
section
open Go.Conc
structure jc (P:Program) (G:Cfg):Prop where
 func:∀ f,G f = true->∃ fn c,P.funcs[f]? = some fn∧fn.body = some c∧xn P G c = true∧(fn.name == "runtime.NumGoroutine") = false
 zero:∀ (t:Nat) i v,t < P.types.size->P.types[t]? = some i->i.zero = some v->zia v = true
section
variable {P:Program} {G:Cfg} {α β:Type} {A:Nat->Prop}
theorem za {s:Sem α} {f:α->Sem β} {Q:(Nat->Prop)->β->Prop} (h:Sem.Fr P G s A (fun A' a=>Sem.Fr P G (f a) A' Q)):Sem.Fr P G (s >>= f) A Q:=Sem.Fr.bind h
theorem zqr {s:Sem α} {f:α->β} {Q:(Nat->Prop)->β->Prop} (h:Sem.Fr P G s A (fun A' a=>Q A' (f a))):Sem.Fr P G (f <$> s) A Q:=Sem.Fr.bind h
theorem zb {a:α} {Q:(Nat->Prop)->α->Prop} (h:Q A a):Sem.Fr P G (pure a) A Q:=h
theorem zj {s:String} {Q:(Nat->Prop)->α->Prop}:Sem.Fr P G (stuck s) A Q:=trivial
theorem xb {u:Unsupported} {Q:(Nat->Prop)->α->Prop} (h:∀ g,u ≠ .initOrder g):Sem.Fr P G (unsupported u) A Q:=by
 show zcg (.unsupported u);cases u <;> first | trivial | exact absurd rfl (h _)
theorem zih {v:Value} {Q:(Nat->Prop)->α->Prop}:Sem.Fr P G (goPanic v) A Q:=trivial
theorem ji {f:Program->Sem α} {Q:(Nat->Prop)->α->Prop} (h:Sem.Fr P G (f P) A Q):Sem.Fr P G (program >>= f) A Q:=h
theorem j7 {q:Question} {Q:(Nat->Prop)->Nat->Prop} (h:∀ n,Q A n):Sem.Fr P G (choose q) A Q:=h
theorem zci {o:Obj} {Q:(Nat->Prop)->Nat->Prop} (ho:∀ r,OIn P G A r o) (h:∀ r,zbe G A r->Q (fun b=>A b∨b = r) r):Sem.Fr P G (newObj o) A Q:=⟨ho,h⟩
theorem zmb {a:Addr} {Q:(Nat->Prop)->Value->Prop} (ha:Ina G A a) (h:∀ v,VIn G A v->Q A v):Sem.Fr P G (load a) A Q:=⟨ha,h⟩
theorem zn7 {a:Addr} {v:Value} {Q:(Nat->Prop)->Unit->Prop} (ha:Ina G A a) (hv:VIn G A v) (h:Q A ()):Sem.Fr P G (store a v) A Q:=⟨ha.blk,hv,h⟩
theorem Zc {r:Nat} {Q:(Nat->Prop)->Obj->Prop} (ha:A r) (h:∀ o,OIn P G A r o->Q A o):Sem.Fr P G (getObj r) A Q:=⟨ha,h⟩
theorem qe {r:Nat} {o:Obj} {Q:(Nat->Prop)->Unit->Prop} (ha:A r) (ho:OIn P G A r o) (h:Q A ()) (hn:∀ c e f,o ≠ .cells c e f:=by simp):Sem.Fr P G (setObj r o) A Q:=⟨ha,ho,hn,h⟩
theorem X3 {r:Nat} {f:Option (TypeId × Nat)->Sem α} {Q:(Nat->Prop)->α->Prop} (h:∀ s,Sem.Fr P G (f s) A Q) (he:ShOk P f):Sem.Fr P G (shape r >>= f) A Q:=⟨h,he⟩
theorem zmc {a:Addr} {Q:(Nat->Prop)->Bool->Prop} (h:∀ b,Q A b):Sem.Fr P G (frozen a) A Q:=h
theorem kj {t:TypeId} {Q:(Nat->Prop)->TypeInfo->Prop} (h:∀ i,P.info? t = some i->Q A i):Sem.Fr P G (typeInfo t) A Q:=by
 unfold typeInfo;refine ji ?_;split
 . rename_i i hi;exact h i hi
 exact zj
theorem zk {t:TypeId} {Q:(Nat->Prop)->TypeDesc->Prop} (h:∀ d,P.underlying t = some d->Q A d):Sem.Fr P G (underlying t) A Q:=by
 unfold underlying;refine ji ?_;split
 . rename_i i hi;exact h i hi
 exact zj
theorem x9 {t:TypeId} {Q:(Nat->Prop)->Nat->Prop} (h:∀ n,Q A n):Sem.Fr P G (sizeOf t) A Q:=za (kj fun _ _=>h _)
theorem zij {t:TypeId} {Q:(Nat->Prop)->Bool->Prop} (h:∀ b,Q A b):Sem.Fr P G (isAgg t) A Q:=by
 unfold isAgg;refine za (zk fun d _=>?_);split <;> exact zb (h _)
theorem zjy {t:TypeId} {Q:(Nat->Prop)->String->Prop} (h:∀ s,Q A s):Sem.Fr P G (typeStr t) A Q:=by
 unfold typeStr;refine za (kj fun i _=>?_);dsimp only;split
 . exact xb (by simp)
 exact zb (h _)
theorem ja (hP:jc P G) {t:TypeId} (ht:t < P.types.size) {Q:(Nat->Prop)->Value->Prop} (h:∀ v,(∀ B,VIn G B v)->Q A v):Sem.Fr P G (zeroValue t) A Q:=by
 unfold zeroValue;refine za (kj fun i hi=>?_);split
 . rename_i v hv;exact zb (h v fun B=>.of_plain (hP.zero t i v ht (by simpa [Tables.info?,ht] using hi) hv))
 exact xb (by simp)
theorem Xm {a:Addr} (ha:Ina G A a) {Q:(Nat->Prop)->Array Value->Prop}:∀ (n i:Nat) (acc:Array Value),(∀ v ∈ acc,VIn G A v)->(∀ cs,(∀ v ∈ cs,VIn G A v)->Q A cs)->Sem.Fr P G (loadCellsFrom a i n acc) A Q
 | 0,i,acc,hacc,h=>zb (h acc hacc)
 | n + 1,i,acc,hacc,h=>za (zmb (ha.add _) fun v hv=>Xm ha n (i + 1) (acc.push v) (fun x hx=>(Array.mem_push.1 hx).elim (hacc x) fun e=>e ▸ hv) h)
theorem Y4 {a:Addr} (ha:Ina G A a) {n:Nat} {Q:(Nat->Prop)->Array Value->Prop} (h:∀ cs,(∀ v ∈ cs,VIn G A v)->Q A cs):Sem.Fr P G (loadCells a n) A Q :=
 Xm ha n 0 #[] (by simp) h
theorem qp {a:Addr} (ha:Ina G A a) {Q:(Nat->Prop)->Unit->Prop}:∀ (vs:List Value) (i:Nat),(∀ v ∈ vs,VIn G A v)->Q A ()->Sem.Fr P G (storeCells a vs i) A Q
 | [],i,_,h=>zb h
 | v :: rest,i,hv,h=>za (zn7 (ha.add _) (hv v (by simp)) (qp ha rest (i + 1) (fun x hx=>hv x (by simp [hx])) h))
theorem zcj {t:TypeId} {a:Addr} (ha:Ina G A a) {Q:(Nat->Prop)->Value->Prop} (h:∀ v,VIn G A v->Q A v):Sem.Fr P G (loadVar t a) A Q:=by
 unfold loadVar;refine za (zij fun b=>?_);cases b with
 | true=>exact za (x9 fun n=>za (Y4 ha fun cs hcs=>zb (h _ (.agg hcs))))
 | false=>exact zmb ha h
theorem qq {v:Value} (h:VIn G A v):∀ x ∈ v.cells,VIn G A x:=by
 cases v with
 | agg cs=>cases h with | agg hc=>exact hc
 | _ =>
   intro x hx;simp only [Value.cells,List.mem_toArray,List.mem_cons,List.not_mem_nil,or_false] at hx;rw [hx];exact h
theorem zhj {t:TypeId} {a:Addr} {v:Value} (ha:Ina G A a) (hv:VIn G A v) {Q:(Nat->Prop)->Unit->Prop} (h:Q A ()):Sem.Fr P G (storeVar t a v) A Q:=by
 unfold storeVar;refine za (x9 fun n=>?_);split
 . exact za zj
 exact qp ha _ _ (fun x hx=>qq hv x (Array.mem_toList_iff.1 hx)) h
theorem Z3 {e:TypeId} {cs:Array Value} (hcs:∀ v ∈ cs,VIn G A v) {Q:(Nat->Prop)->Addr->Prop} (h:∀ r,zbe G A r->Q (fun b=>A b∨b = r) ⟨r,0,none⟩):Sem.Fr P G (newRow e cs) A Q :=
 za (zci (fun _=>.all hcs) fun r hr=>zb (h r hr))
theorem zas {e:TypeId} {v:Value} (hv:VIn G A v) {Q:(Nat->Prop)->Addr->Prop} (h:∀ r,zbe G A r->Q (fun b=>A b∨b = r) ⟨r,0,none⟩):Sem.Fr P G (newVar e v) A Q :=
 Z3 (qq hv) h
theorem zme {t:TypeId} {Q:(Nat->Prop)->TypeId->Prop} (h:∀ e,Q A e):Sem.Fr P G (elemOf t) A Q:=by
 unfold elemOf;refine za (zk fun d _=>?_);split
 . exact zb (h _)
 exact zj
theorem zhb {α:Type} {cs:Array α} {i j:Nat} {v:α} (h:v ∈ cs.extract i j):v ∈ cs:=by
 obtain ⟨k,hk,rfl⟩:=Array.mem_iff_getElem.1 h;simp only [Array.getElem_extract];exact Array.getElem_mem _
theorem K3 {t:TypeId} {cs:Array Value} (hcs:∀ v ∈ cs,VIn G A v) {off:Nat} {Q:(Nat->Prop)->Value->Prop} (h:∀ v,VIn G A v->Q A v):Sem.Fr P G (part t cs off) A Q:=by
 unfold part;refine za (zij fun b=>?_);cases b with
 | true=>exact za (x9 fun n=>zb (h _ (.agg fun v hv=>hcs v (zhb hv))))
 | false =>
   simp only [Bool.false_eq_true,if_false];split
   . rename_i v hv;exact zb (h v (hcs v (Array.mem_of_getElem? hv)))
   exact zj
theorem zm {e:RuntimeError} {Q:(Nat->Prop)->α->Prop} (he:∀ a b c d,e ≠ .typeAssertion a b c d):Sem.Fr P G (runtimePanic e) A Q:=by
 unfold runtimePanic;refine ji ?_;cases e with
 | typeAssertion a b c d=>exact absurd rfl (he _ _ _ _)
 | panicNil=>exact za (zme fun e=>za (zas (.agg (by simp)) fun r _=>zih))
 | _=>exact zih
theorem Kn {k:IntKind} {x y:Int} {c:BoundsCode} {Q:(Nat->Prop)->α->Prop}:Sem.Fr P G (boundsPanic k x y c) A Q:=by
 unfold boundsPanic;dsimp only;split
 . exact za (zqr (j7 fun n=>zm (by simp)))
 exact za (zb (zm (by simp)))
theorem Yc {v:Value} {Q:(Nat->Prop)->IntKind × Int->Prop} (h:∀ x,Q A x):Sem.Fr P G (asIntOf v) A Q:=by
 unfold asIntOf;split
 . exact zb (h _)
 . exact xb (by simp)
 exact zj
theorem Jq {v:Value} {Q:(Nat->Prop)->Int->Prop} (h:∀ x,Q A x):Sem.Fr P G (asInt v) A Q:=za (Yc fun x=>h _)
theorem zaw {v:Value} {Q:(Nat->Prop)->Bool->Prop} (h:∀ x,Q A x):Sem.Fr P G (asBool v) A Q:=by
 unfold asBool;split
 . exact zb (h _)
 exact zj
theorem zod {v:Value} (hv:VIn G A v) {Q:(Nat->Prop)->Array Value->Prop} (h:∀ cs,(∀ x ∈ cs,VIn G A x)->Q A cs):Sem.Fr P G (asAgg v) A Q:=by
 unfold asAgg;split
 . cases hv with | agg hc=>exact zb (h _ hc)
 exact zj
theorem zfv {v:Value} (hv:VIn G A v) {Q:(Nat->Prop)->Addr->Prop} (h:∀ a,Ina G A a->Q A a):Sem.Fr P G (asAddr v) A Q:=by
 unfold asAddr;split
 . cases hv with | ptr ha=>exact zb (h _ ha)
 . exact zm (by simp)
 exact zj
theorem Zb {v:Value} (hv:VIn G A v) {Q:(Nat->Prop)->Addr->Prop} (h:∀ a,Ina G A a->Q A a):Sem.Fr P G (Instr.sureAddr v) A Q:=by
 unfold Instr.sureAddr;split
 . cases hv with | ptr ha=>exact zb (h _ ha)
 exact zj
end
end
section
open Go.Conc
def NIn (P:Program) (G:Cfg) (A:Nat->Prop):Next->Prop
 | .value v=>VIn G A v
 | .skip=>True
 | .enter f args=>G f = true∧∀ v ∈ args,VIn G A v
 | .round l _ tmps a b=>A l∧(∀ v ∈ tmps,VIn G A v)∧xn P G a = true∧xn P G b = true
 | _=>False
section
variable {P:Program} {G:Cfg} {A:Nat->Prop}
theorem zoe (hP:jc P G) {e:TypeId} (he:e < P.types.size) {Q:(Nat->Prop)->Value->Prop} (h:∀ r,zbe G A r->Q (fun b=>A b∨b = r) (.pointer (some ⟨r,0,none⟩))):Sem.Fr P G (Instr.alloc e true (.tuple #[])) A Q :=
 za (ja hP he fun v hv=>za (zas (hv A) fun r hr=>zb (h r hr)))
theorem zqt {e:TypeId} {v:Value} (hv:VIn G A v) {Q:(Nat->Prop)->Value->Prop} (h:∀ r,zbe G A r->Q (fun b=>A b∨b = r) (.pointer (some ⟨r,0,none⟩))):Sem.Fr P G (Instr.box e v) A Q :=
 za (zas hv fun r hr=>zb (h r hr))
theorem Y5 {cs:Array Value} (off:Nat):∀ (l:List (Value × Nat)),(∀ v ∈ cs,VIn G A v)->(∀ p ∈ l,VIn G A p.1)->∀ v ∈ l.foldl (fun cs (x:Value × Nat)=>cs.setIfInBounds (off + x.2) x.1) cs,VIn G A v
 | [],h,_=>h
 | (c, j) :: l, h, hl => by
   rw [List.foldl_cons];refine Y5 off l (fun v hv=>?_) (fun p hp=>hl p (by simp [hp]));rcases Array.mem_or_eq_of_mem_setIfInBounds hv with h1 | h1
   . exact h v h1
   rw [h1];exact hl (c,j) (by simp)
theorem za3 {place:Nat->Option (Nat × Nat)}:∀ (l:List (Nat × Value)) (cs r:Array Value),(∀ v ∈ cs,VIn G A v)->(∀ p ∈ l,VIn G A p.2)->Instr.fill place cs l = some r->∀ v ∈ r,VIn G A v
 | [],cs,r,h,_,e=>by simp only [Instr.fill,Option.some.injEq] at e;exact e ▸ h
 | (i, v) :: l, cs, r, h, hl, e => by
   simp only [Instr.fill] at e;split at e
   . cases e
   split at e
   . cases e
   refine za3 l _ r ?_ (fun p hp=>hl p (by simp [hp])) e;rw [← Array.foldl_toList];refine Y5 _ _ h fun p hp=>?_;have hv:VIn G A v:=hl (i,v) (by simp);obtain ⟨x,j⟩:=p;have:=(Array.mem_toList_iff.1 hp);exact qq hv x (Array.fst_mem_of_mem_zipIdx this)
theorem zps {α β:Type} {f:α->Sem β} {R:β->Prop} {Q:(Nat->Prop)->Array β->Prop} (xs:Array α) (hf:∀ x (Q':(Nat->Prop)->β->Prop),(∀ y,R y->Q' A y)->Sem.Fr P G (f x) A Q') (h:∀ ys,Q A ys):Sem.Fr P G (xs.mapM f) A Q:=by
 rw [Array.mapM_eq_foldlM,← Array.foldlM_toList];generalize (#[]:Array β) = acc
 induction xs.toList generalizing acc with
 | nil=>exact zb (h _)
 | cons x l ih=>exact za (za (hf x _ fun y _=>zb (ih _)))
theorem zob (hP:jc P G) {t:TypeId} (ht:t < P.types.size) {parts:Array (Nat × Value)} (hp:∀ p ∈ parts,VIn G A p.2) {Q:(Nat->Prop)->Value->Prop} (h:∀ v,VIn G A v->Q A v):Sem.Fr P G (Instr.build t parts) A Q:=by
 unfold Instr.build;refine za (ja hP ht fun z hz=>?_);refine za (zk fun d _=>?_);have hpl:∀ p ∈ parts.toList,VIn G A p.2:=fun p hx=>hp p (Array.mem_toList_iff.1 hx);split
 . refine za (zps (R:=fun _=>True) _ (fun x Q' hQ=>za (x9 fun n=>zb (hQ _ trivial))) fun ys=>?_);split
   . rename_i cells hc;exact zb (h _ (.agg (za3 _ _ _ (qq (hz A)) hpl hc)))
   exact zj
 . refine za (x9 fun n=>?_);split
   . rename_i cells hc;exact zb (h _ (.agg (za3 _ _ _ (qq (hz A)) hpl hc)))
   exact zj
 exact zj
theorem qc {z:Array Value} (hz:∀ v ∈ z,VIn G A v) (n:Nat) (hn:n ≠ 0->0 < z.size∨True):∀ v ∈ (Array.range n).map (fun i=>z[i % z.size]!),VIn G A v:=by
 intro v hv;obtain ⟨i,_,rfl⟩:=Array.mem_map.1 hv;rw [getElem!_def];split
 . rename_i x hx;exact hz x (Array.mem_of_getElem? hx)
 exact .bool _
theorem zd5 (hP:jc P G) {t:TypeId} (he:∀ e,P.underlying t = some (.slice e)->e < P.types.size) {len:Nat} {parts:Array (Nat × Value)} (hp:∀ p ∈ parts,VIn G A p.2) {Q:(Nat->Prop)->Value->Prop} (h:∀ r v,zbe G A r->VIn G (fun b=>A b∨b = r) v->Q (fun b=>A b∨b = r) v):Sem.Fr P G (Instr.buildSlice t len parts) A Q:=by
 have hpl:∀ p ∈ parts.toList,VIn G A p.2:=fun p hx=>hp p (Array.mem_toList_iff.1 hx);unfold Instr.buildSlice
 (repeat' (first | (with_reducible exact zj) | (with_reducible exact xb (by simp)) | (with_reducible refine za ?_) | (with_reducible refine zb ?_) | (with_reducible refine zk fun _ _=>?_) | (with_reducible refine x9 fun _=>?_) | (with_reducible refine ja (by assumption) (by first | assumption | exact he _ (by assumption)) fun _ _=>?_) | split | dsimp only))
 . rename_i hc;exact Z3 (za3 _ _ _ (qc (by simp) _ (fun _=>.inr trivial)) hpl hc) fun r hr=>zb (h r _ hr (.slice _ _ (hr.ina _ _)))
 rename_i hv _ _ hc;exact Z3 (za3 _ _ _ (qc (qq (hv A)) _ (fun _=>.inr trivial)) hpl hc) fun r hr=>zb (h r _ hr (.slice _ _ (hr.ina _ _)))
theorem zma {t:TypeId} {v:Value} (hv:VIn G A v) {Q:(Nat->Prop)->Value->Prop} (h:∀ v,VIn G A v->Q A v):Sem.Fr P G (Instr.loadAt t v) A Q :=
 za (Zb hv fun a ha=>zcj ha h)
theorem zjz {t:TypeId} {v x:Value} (hv:VIn G A v) (hx:VIn G A x) {Q:(Nat->Prop)->Unit->Prop} (h:Q A ()):Sem.Fr P G (Instr.storeAt t v x) A Q :=
 za (Zb hv fun a ha=>zhj ha hx h)
theorem zfn {r:Nat} (hr:A r) {Q:(Nat->Prop)->Option (Addr × TypeId)->Prop} (h:Q A none):Sem.Fr P G (viewAt r) A Q:=by
 unfold viewAt;refine X3 (fun s=>?_) (ShOk.same (by intros;rfl));split
 . exact zb h
 refine za (Zc hr fun o ho=>?_);cases ho <;> exact zb h
theorem zl7 {a:Addr} (ha:A a.block) {Q:(Nat->Prop)->Unit->Prop} (h:Q A ()):Sem.Fr P G (noView a) A Q :=
 za (zfn ha (zb h))
theorem Zd {a:Addr} (ha:A a.block) {Q:(Nat->Prop)->Nat->Prop} (h:∀ n,Q A n):Sem.Fr P G (byteOf a) A Q:=by
 unfold byteOf;split
 . exact zb (h _)
 refine ji (za (zl7 ha ?_))
 (repeat' (first | (with_reducible exact zj) | (with_reducible refine X3 (fun _=>?_) (ShOk.same (by intros;rfl))) | (with_reducible refine zb ?_) | split | dsimp only))
 all_goals exact h _
theorem zl6 {a:Addr} (ha:Ina G A a) {c b:Nat} {Q:(Nat->Prop)->Addr->Prop} (h:∀ x:Addr,Ina G A x->Q A x):Sem.Fr P G (partAt a c b) A Q:=by
 unfold partAt;refine za ?_;refine Zd ha.blk fun n=>?_;refine za ?_;refine Zd (a:=⟨a.block,a.off + c,none⟩) ha.blk fun m=>zb (h _ ?_);split <;> exact ha.up rfl (Nat.le_add_right _ _)
theorem zd4 {a:Addr} (ha:Ina G A a) {f:Field} {Q:(Nat->Prop)->Addr->Prop} (h:∀ x:Addr,Ina G A x->Q A x):Sem.Fr P G (fieldPlace a f) A Q:=by
 unfold fieldPlace;refine za (x9 fun n=>?_);split
 . exact zl6 ha h
 exact zb (h _ (ha.add _))
theorem zj4 {t:TypeId} {v:Value} (hv:VIn G A v) {f:Nat} {Q:(Nat->Prop)->Value->Prop} (h:∀ v,VIn G A v->Q A v):Sem.Fr P G (Instr.fieldAt t v f) A Q:=by
 unfold Instr.fieldAt
 (repeat' (first | (with_reducible exact zj) | (with_reducible refine za ?_) | (with_reducible refine zb ?_) | (with_reducible refine zk fun _ _=>?_) | (with_reducible refine Zb (by assumption) fun _ _=>?_) | (with_reducible refine zd4 (by assumption) fun _ _=>?_) | split))
 exact h _ (.ptr (by assumption))
theorem zj3 {t:TypeId} {v i:Value} (hv:VIn G A v) {Q:(Nat->Prop)->Value->Prop} (h:∀ v,VIn G A v->Q A v):Sem.Fr P G (Instr.indexAt t v i) A Q:=by
 unfold Instr.indexAt
 (repeat' (first | (with_reducible exact zj) | (with_reducible exact Kn) | (with_reducible exact xb (by simp)) | (with_reducible refine za ?_) | (with_reducible refine zb ?_) | (with_reducible refine zk fun _ _=>?_) | (with_reducible refine x9 fun _=>?_) | (with_reducible refine Yc fun _=>?_) | (with_reducible refine Zb (by assumption) fun _ _=>?_) | split | dsimp only))
 all_goals (refine h _ (.ptr (Ina.add ?_ _)))
 all_goals (injections;subst_vars;first | assumption | (cases hv;assumption))
theorem zd2 {x:Value} {y:Nat} {c:BoundsCode} {Q:(Nat->Prop)->Nat->Prop} (h:∀ n,Q A n):Sem.Fr P G (Instr.sliceBound x y c) A Q:=by
 unfold Instr.sliceBound
 (repeat' (first | (with_reducible exact Kn) | (with_reducible refine za ?_) | (with_reducible refine zb ?_) | (with_reducible refine Yc fun _=>?_) | split))
 exact h _
theorem Km {b:Bool} {n c:Nat} {lo hi mx:Option Value} {Q:(Nat->Prop)->Nat × Nat × Nat->Prop} (h:∀ x,Q A x):Sem.Fr P G (Instr.sliceBounds b n c lo hi mx) A Q:=by
 unfold Instr.sliceBounds;cases lo <;> cases hi <;> cases mx <;> (repeat' (first | (with_reducible exact zj) | (with_reducible refine za ?_) | (with_reducible refine zb ?_) | (with_reducible refine zd2 fun _=>?_)))
 all_goals exact h _
theorem zn8 {t:TypeId} {x:Value} (hx:VIn G A x) {lo hi mx:Option Value} {Q:(Nat->Prop)->Value->Prop} (h:∀ v,VIn G A v->Q A v):Sem.Fr P G (Instr.slice t x lo hi mx) A Q:=by
 unfold Instr.slice
 (repeat' (first | (with_reducible exact zj) | (with_reducible refine za ?_) | (with_reducible refine zb ?_) | (with_reducible refine zk fun _ _=>?_) | (with_reducible refine x9 fun _=>?_) | (with_reducible refine zfv (by assumption) fun _ _=>?_) | (with_reducible refine Km fun _=>?_) | split))
 all_goals refine h _ ?_
 all_goals first | exact .string _ | assumption | exact .slice _ _ (by assumption) | exact .slice _ _ (Ina.add (by assumption) _) | (cases hx <;> first | exact .slice0 _ _ | exact .slice _ _ (by assumption) | exact .slice _ _ (Ina.add (by assumption) _))
theorem zj0 {t:TypeId} {x:Value} (hx:VIn G A x) {lo hi mx:Option Value} {Q:(Nat->Prop)->Value->Prop} (h:∀ v,VIn G A v->Q A v):Sem.Fr P G (Instr.sliceAt t x lo hi mx) A Q:=by
 unfold Instr.sliceAt
 (repeat' (first | (with_reducible refine za ?_) | (with_reducible refine zb ?_) | (with_reducible refine zk fun _ _=>?_) | (with_reducible refine x9 fun _=>?_) | (with_reducible refine Zb (by assumption) fun _ _=>?_) | (with_reducible refine Km fun _=>?_) | split))
 all_goals first | exact zn8 hx h | refine h _ ?_
 all_goals first | exact .slice _ _ (by assumption) | exact .slice _ _ (Ina.add (by assumption) _)
theorem zn9 {t:TypeId} {x:Value} (hx:VIn G A x) {f:Nat} {Q:(Nat->Prop)->Value->Prop} (h:∀ v,VIn G A v->Q A v):Sem.Fr P G (Instr.field t x f) A Q:=by
 unfold Instr.field
 (repeat' (first | (with_reducible exact zj) | (with_reducible refine za ?_) | (with_reducible refine zk fun _ _=>?_) | (with_reducible refine zod (by assumption) fun _ _=>?_) | (with_reducible refine K3 (by assumption) fun _ _=>?_) | split))
 exact h _ (by assumption)
theorem zj5 {x:Value} (hx:VIn G A x) {i:Nat} {Q:(Nat->Prop)->Value->Prop} (h:∀ v,VIn G A v->Q A v):Sem.Fr P G (Instr.extract x i) A Q:=by
 unfold Instr.extract;split
 . cases hx with | tuple hv =>
   split
   . rename_i v hv';exact zb (h _ (hv _ (Array.mem_of_getElem? hv')))
   exact zj
 exact zj
theorem Qg {t:TypeId} {x:Value} (hx:VIn G A x) {Q:(Nat->Prop)->Value->Prop} (h:∀ v,VIn G A v->Q A v):Sem.Fr P G (Instr.makeInterface t x) A Q:=by
 unfold Instr.makeInterface;refine za (zk fun d _=>?_);split
 . exact zj
 exact zb (h _ (.iface hx))
theorem zj2 {t:TypeId} {x:Option Value} {Q:(Nat->Prop)->Value->Prop} (h:∀ r,zbe G A r->Q (fun b=>A b∨b = r) (.map (some r))):Sem.Fr P G (Instr.makeMap t x) A Q:=by
 unfold Instr.makeMap;have fin:Sem.Fr P G (do pure (.map (some (← newObj (.map #[] 0)))):Sem Value) A Q:=za (zci (fun _=>.map (by simp)) fun r hr=>zb (h r hr));cases x with
 | none=>exact fin
 | some v =>
   refine za (zk fun d _=>?_);split
   . exact za (Jq fun _=>fin)
   exact zj
theorem zck {n:Nat} {Q:(Nat->Prop)->Unit->Prop} (h:Q A ()):Sem.Fr P G (askRoom n) A Q:=by
 unfold askRoom;split
 . exact ⟨rfl,h⟩
 exact zb h
theorem zfq (hP:jc P G) {t:TypeId} (he:∀ e,P.underlying t = some (.slice e)->e < P.types.size) {x y:Value} {Q:(Nat->Prop)->Value->Prop} (h:∀ r v,zbe G A r->VIn G (fun b=>A b∨b = r) v->Q (fun b=>A b∨b = r) v):Sem.Fr P G (Instr.makeSlice t x y) A Q:=by
 unfold Instr.makeSlice
 (repeat' (first | (with_reducible exact zj) | (with_reducible exact zm (by simp)) | (with_reducible refine za ?_) | (with_reducible refine zb ?_) | (with_reducible refine kj fun _ _=>?_) | (with_reducible refine zk fun _ _=>?_) | (with_reducible refine x9 fun _=>?_) | (with_reducible refine j7 fun _=>?_) | (with_reducible refine Jq fun _=>?_) | (with_reducible refine ja (by assumption) (by first | assumption | exact he _ (by assumption)) fun _ _=>?_) | (with_reducible refine zck ?_) | split | dsimp only))
 . exact Z3 (qc (by simp) _ (fun _=>.inr trivial)) fun r hr=>zb (h r _ hr (.slice _ _ (hr.ina _ _)))
 rename_i hv;exact Z3 (qc (qq (hv A)) _ (fun _=>.inr trivial)) fun r hr=>zb (h r _ hr (.slice _ _ (hr.ina _ _)))
theorem zhk {r:Nat} (hr:A r) {Q:(Nat->Prop)->Option (Addr × Bool)->Prop} (h:∀ x,(∀ a b,x = some (a,b)->A a.block)->Q A x):Sem.Fr P G (numberAt r) A Q:=by
 unfold numberAt;refine X3 (fun s=>?_) (ShOk.same (by intros;rfl));split
 . exact zb (h _ (by simp))
 refine za (Zc hr fun o ho=>?_);cases ho with
 | number ha=>exact zb (h _ (by intro a b e;cases e;exact ha))
 | _=>exact zb (h _ (by simp))
theorem zu {a:Addr} (ha:A a.block) {Q:(Nat->Prop)->Addr × Bool->Prop} (h:∀ x:Addr × Bool,A x.1.block->Q A x):Sem.Fr P G (behindNumber a) A Q:=by
 unfold behindNumber;refine za (zhk ha fun x hx=>zb (h _ ?_));cases x with
 | none=>exact ha
 | some y=>exact hx _ _ rfl
end
end
section
open Go.Conc
section
variable {P:Program} {G:Cfg} {A:Nat->Prop}
theorem zd3 {α β:Type} {f:α->β->Sem (ForInStep β)} {I:β->Prop} {Q:(Nat->Prop)->β->Prop} (h:∀ s,I s->Q A s)
 (hf:∀ x s (Q':(Nat->Prop)->ForInStep β->Prop),I s->(∀ s',I s'->Q' A (.done s'))->(∀ s',I s'->Q' A (.yield s'))->Sem.Fr P G (f x s) A Q') :
 ∀ (l:List α) (s:β),I s->Sem.Fr P G (forIn l s f) A Q
 | [],s,hs=>by rw [List.forIn_nil];exact zb (h s hs)
 | x :: l, s, hs => by
   rw [List.forIn_cons];refine za (hf x s _ hs (fun s' h'=>zb (h s' h')) (fun s' h'=>zd3 h hf l s' h'))
theorem zfs {α β:Type} {f:α->β->Sem (ForInStep β)} {I:β->Prop} {Q:(Nat->Prop)->β->Prop} {xs:Array α} {s:β} (hs:I s) (h:∀ s,I s->Q A s)
 (hf:∀ x s (Q':(Nat->Prop)->ForInStep β->Prop),I s->(∀ s',I s'->Q' A (.done s'))->(∀ s',I s'->Q' A (.yield s'))->Sem.Fr P G (f x s) A Q'):Sem.Fr P G (forIn xs s f) A Q:=by
 rw [← Array.forIn_toList];exact zd3 h hf _ _ hs
theorem zfr {α β:Type} {f:α->β->Sem (ForInStep β)} {I:β->Prop} {Q:(Nat->Prop)->β->Prop} (h:∀ s,I s->Q A s) :
 ∀ (l:List α) (s:β),I s->(∀ x ∈ l,∀ s (Q':(Nat->Prop)->ForInStep β->Prop),I s->(∀ s',I s'->Q' A (.done s'))->(∀ s',I s'->Q' A (.yield s'))->Sem.Fr P G (f x s) A Q')->Sem.Fr P G (forIn l s f) A Q
 | [],s,hs,_=>by rw [List.forIn_nil];exact zb (h s hs)
 | x :: l, s, hs, hf => by
   rw [List.forIn_cons];refine za (hf x (by simp) s _ hs (fun s' h'=>zb (h s' h')) (fun s' h'=>zfr h l s' h' fun y hy=>hf y (by simp [hy])))
theorem zau {β:Type} {f:Nat->β->Sem (ForInStep β)} {I:β->Prop} {Q:(Nat->Prop)->β->Prop} {r:Std.Legacy.Range} {s:β} (hs:I s) (h:∀ s,I s->Q A s)
 (hf:∀ x s (Q':(Nat->Prop)->ForInStep β->Prop),I s->(∀ s',I s'->Q' A (.done s'))->(∀ s',I s'->Q' A (.yield s'))->Sem.Fr P G (f x s) A Q'):Sem.Fr P G (forIn r s f) A Q:=by
 rw [Std.Legacy.Range.forIn_eq_forIn_range'];exact zd3 h hf _ _ hs
theorem Kp {cs:Array Value} (h:VIn G A (.agg cs)):∀ v ∈ cs,VIn G A v:=by cases h;assumption
theorem zn4 {t:TypeId} {v:Value} (h:VIn G A (.iface t v)):VIn G A v:=by cases h;assumption
theorem qj {a:Addr} (h:VIn G A (.pointer (some a))):Ina G A a:=by cases h;assumption
theorem Kf:∀ (d e:Nat) (t:TypeId) (x y:Value),eqOk P e t = true->VIn G A x->VIn G A y->∀ {Q:(Nat->Prop)->Bool->Prop},(∀ b,Q A b)->Sem.Fr P G (Op.equalIn d t x y) A Q
 | 0,_,_,_,_,_,_,_,_,_=>xb (by simp)
 | _,0,_,_,_,he,_,_,_,_=>by simp [eqOk] at he
 | d + 1, e + 1, t, x, y, he, hx, hy, Q, h => by
   unfold Op.equalIn;refine za ?_;refine zk fun ty hty=>?_;simp only [eqOk,hty] at he;split;all_goals try exact zb (h _)
   all_goals try exact xb (by simp)
   all_goals try exact zj
   all_goals try (simp at he;done)
   . split
     . exact zb (h _)
     exact zj
   . refine za (zu (qj hx).blk fun a ha=>?_);refine za (zu (qj hy).blk fun b hb=>?_);dsimp only;refine ji ?_;split
     . refine za (Zd ha fun m=>?_);refine za (Zd hb fun n=>zb (h _))
     (repeat' (first | (with_reducible exact xb (by simp)) | (with_reducible refine za ?_) | (with_reducible refine zb ?_) | (with_reducible refine kj fun _ _=>?_) | split))
     all_goals exact h _
   . (repeat' (first | (with_reducible exact zj) | (with_reducible refine zb ?_) | split))
     all_goals exact h _
   . have hcx:=Kp hx;have hcy:=Kp hy;refine ji ?_;split
     . exact za (xb (by simp))
     refine za ?_;rw [← Array.forIn_toList];refine zfr (I:=fun _=>True) (fun s _=>?_) _ _ trivial (fun f hf s Q' _ hd hy'=>?_)
     . (repeat' (first | (with_reducible refine zb ?_) | split | dsimp only))
       all_goals exact h _
     have hef:=Array.all_eq_true'.1 he f (Array.mem_toList_iff.1 hf)
     (repeat' (first | (with_reducible refine za ?_) | (with_reducible refine zb ?_) | (with_reducible refine K3 (by assumption) fun _ _=>?_) | split))
     all_goals try exact hd _ trivial
     all_goals try exact hy' _ trivial
     all_goals (refine Kf d e _ _ _ hef (by assumption) (by assumption) fun b=>?_)
     all_goals (repeat' (first | (with_reducible refine zb ?_) | split))
     all_goals first | exact hd _ trivial | exact hy' _ trivial
   have hcx:=Kp hx;have hcy:=Kp hy;refine za ?_;refine x9 fun n=>?_;refine za (zau (I:=fun _=>True) trivial (fun s _=>?_) (fun f s Q' _ hd hy'=>?_))
   . (repeat' (first | (with_reducible refine zb ?_) | split | dsimp only))
     all_goals exact h _
   (repeat' (first | (with_reducible refine za ?_) | (with_reducible refine K3 (by assumption) fun _ _=>?_)))
   all_goals try exact hd _ trivial
   all_goals try exact hy' _ trivial
   all_goals (refine Kf d e _ _ _ he (by assumption) (by assumption) fun b=>?_)
   all_goals (repeat' (first | (with_reducible refine zb ?_) | split))
   all_goals first | exact hd _ trivial | exact hy' _ trivial
theorem zhn {d:Nat} {t:TypeId} {x y:Value} (hn:x = .nilIface∨y = .nilIface) {Q:(Nat->Prop)->Bool->Prop} (h:∀ b,Q A b):Sem.Fr P G (Op.equalIn d t x y) A Q:=by
 cases d with
 | zero=>exact xb (by simp)
 | succ d =>
   unfold Op.equalIn;refine za ?_;refine zk fun ty hty=>?_;rcases hn with rfl | rfl <;> split
   all_goals first | exact zb (h _) | exact xb (by simp) | exact zj | (simp at *;done) | skip
theorem zft {t:TypeId} {x y:Value} (he:eqOk P 9 t = true∨x = .nilIface∨y = .nilIface) (hx:VIn G A x) (hy:VIn G A y) {Q:(Nat->Prop)->Bool->Prop} (h:∀ b,Q A b):Sem.Fr P G (Op.equal t x y) A Q:=he.elim (fun he=>Kf _ 9 _ _ _ he hx hy h) fun hn=>zhn hn h
theorem zoa {t:TypeId} {x y:Value} (he:eqOk P 9 t = true) (hx:VIn G A x) (hy:VIn G A y) {Q:(Nat->Prop)->Bool->Prop} (h:∀ b,Q A b):Sem.Fr P G (Op.equal t x y) A Q:=Kf _ 9 _ _ _ he hx hy h
theorem X4:∀ (d:Nat) (t:TypeId) (x y:Value),VIn G A x->VIn G A y->∀ {Q:(Nat->Prop)->Bool->Prop},(∀ b,Q A b)->Sem.Fr P G (Op.eqGuardIn d t x y) A Q
 | 0,_,_,_,_,_,_,_=>xb (by simp)
 | d + 1, t, x, y, hx, hy, Q, h => by
   unfold Op.eqGuardIn;refine za ?_;refine zk fun ty _=>?_;split
   . exact zb (h _)
   . have hcx:=Kp hx;have hcy:=Kp hy;refine za (zfs (I:=fun _=>True) trivial (fun s _=>?_) (fun f s Q' _ hd hy'=>?_))
     . (repeat' (first | (with_reducible refine zb ?_) | split | dsimp only))
       all_goals exact h _
     (repeat' (first | (with_reducible refine za ?_) | (with_reducible refine zb ?_) | (with_reducible refine K3 (by assumption) fun _ _=>?_) | split))
     all_goals try exact hd _ trivial
     all_goals try exact hy' _ trivial
     all_goals (refine X4 d _ _ _ (by assumption) (by assumption) fun b=>?_)
     all_goals (repeat' (first | (with_reducible refine zb ?_) | split))
     all_goals first | exact hd _ trivial | exact hy' _ trivial
   . have hcx:=Kp hx;have hcy:=Kp hy;refine za ?_;refine x9 fun n=>?_;refine za (zau (I:=fun _=>True) trivial (fun s _=>?_) (fun f s Q' _ hd hy'=>?_))
     . (repeat' (first | (with_reducible refine zb ?_) | split | dsimp only))
       all_goals exact h _
     (repeat' (first | (with_reducible refine za ?_) | (with_reducible refine K3 (by assumption) fun _ _=>?_)))
     all_goals try exact hd _ trivial
     all_goals try exact hy' _ trivial
     all_goals (refine X4 d _ _ _ (by assumption) (by assumption) fun b=>?_)
     all_goals (repeat' (first | (with_reducible refine zb ?_) | split))
     all_goals first | exact hd _ trivial | exact hy' _ trivial
   exact zb (h _)
end
end
section
open Go.Conc
section
variable {P:Program} {G:Cfg} {A:Nat->Prop}
theorem zj6 {op:BinOp} {t:TypeId} {x y:Operand} {a b:Value} (ha:VIn G A a) (hb:VIn G A b) {Q:(Nat->Prop)->Unit->Prop} (h:Q A ()):Sem.Fr P G (eqGuard op t x y a b) A Q:=by
 unfold eqGuard
 (repeat' (first | (with_reducible refine ji ?_) | (with_reducible refine za ?_) | (with_reducible refine zb ?_) | split))
 all_goals first | exact h | refine X4 _ _ _ _ (by first | assumption | exact .nilIface) (by first | assumption | exact .nilIface) fun b=>?_
 all_goals (repeat' (first | (with_reducible exact xb (by simp)) | (with_reducible refine zb ?_) | split))
 all_goals exact h
theorem Qi {p:Program} {d:Nat} {e:TypeId} {c c' off:Nat} {b:Int} {o:Nat} (hc:c ≤ c') (h:cellAtBytes p d e c off b = some o):cellAtBytes p d e c' off b = some o:=by
 unfold cellAtBytes at h ⊢;simp only [] at h ⊢;split at h
 . cases h
 rename_i h0;rw [if_neg h0];simp only [Option.bind_eq_bind,Option.bind_eq_some_iff] at h ⊢;obtain ⟨x,hx,h⟩:=h;refine ⟨x,hx, ?_⟩;split at h
 . cases h
 rename_i h1;rw [if_neg ?_]
 . exact h
 intro h2;refine h1 ?_;simp only [Bool.or_eq_true,decide_eq_true_eq] at h2 ⊢;refine h2.imp id fun h3=>?_;have:c * p.bytesOf e ≤ c' * p.bytesOf e:=Nat.mul_le_mul_right _ hc;have h4:Int.ofNat (c * p.bytesOf e) ≤ Int.ofNat (c' * p.bytesOf e):=Int.ofNat_le.2 this;exact Int.le_trans h4 h3
theorem zfo {as:Array TypeId} {t:TypeId} {a:Addr} {n:Value} (ha:A a.block) {Q:(Nat->Prop)->Value->Prop} (h:∀ b:Addr,A b.block->Q A (.pointer (some b))):Sem.Fr P G (Builtin.unsafeAdd_ as t #[.pointer (some a),n]) A Q:=by
 unfold Builtin.unsafeAdd_;dsimp only;refine za ?_;refine Jq fun i=>?_;split
 . refine za (zfn ha ?_)
   (repeat' (first | (with_reducible exact xb (by simp)) | (with_reducible refine za ?_) | (with_reducible refine zb ?_) | split))
   exact h _ ha
 split
 . exact za (xb (by simp))
 refine X3 (fun s=>?_) ?_
 . (repeat' (first | (with_reducible exact xb (by simp)) | (with_reducible refine ji ?_) | (with_reducible refine zb ?_) | split))
   all_goals exact h _ ha
 intro e n1 n2 hn w es x w1 es1 hr;have hm:n1 / P.cellsOf e ≤ n2 / P.cellsOf e:=Nat.div_le_div_right hn;simp only [] at hr ⊢;have key:∀ m,(do
  let p ← program
  match cellAtBytes p p.depth e (m / p.cellsOf e) a.off i with
  | some off=>pure (Value.pointer (some { a with off:=off }))
  | none=>unsupported (.unsafePointer "Add"):Sem Value).runT P w es = (match cellAtBytes P P.depth e (m / P.cellsOf e) a.off i with
  | some off=>pure (Value.pointer (some { a with off:=off }))
  | none=>unsupported (.unsafePointer "Add"):Sem Value).runT P w es:=fun m=>rfl
 replace hr:=(key n1).symm.trans hr;refine (key n2).trans ?_;cases hc:cellAtBytes P P.depth e (n1 / P.cellsOf e) a.off i with
 | none=>rw [hc] at hr;cases hr
 | some off=>rw [hc] at hr;rw [Qi hm hc];exact hr
theorem zd1 {as:Array TypeId} {t:TypeId} {n:Value} {Q:(Nat->Prop)->Value->Prop}:Sem.Fr P G (Builtin.unsafeAdd_ as t #[.pointer none,n]) A Q:=by
 unfold Builtin.unsafeAdd_;dsimp only;refine za ?_;refine Jq fun i=>?_
 (repeat' (first | (with_reducible exact xb (by simp)) | (with_reducible refine za ?_) | split))
theorem Zw {t:TypeId} {x y:Value} (hx:VIn G A x) {a:Option Addr} (e:x = .pointer a) {Q:(Nat->Prop)->Value->Prop} (h:∀ A' v,(∀ b,A b->A' b)->VIn G A' v->Q A' v):Sem.Fr P G (movedNumber t x y) A Q:=by
 subst e;unfold movedNumber;refine za ?_;refine zk fun d _=>?_;cases a with
 | none =>
   (repeat' (first | (with_reducible exact xb (by simp)) | (with_reducible refine za ?_) | split | dsimp only))
   all_goals first | exact zd1 | (simp at *;done)
 | some a =>
   (repeat' (first | (with_reducible exact xb (by simp)) | (with_reducible refine za ?_) | split | dsimp only))
   all_goals first | (simp at *;done) | skip
   all_goals
    refine zu (by injections;subst_vars;exact (qj hx).blk) fun z hz=>?_;refine za (zfo hz fun b hb=>?_);refine za (zci (fun _=>.number hb) fun r hr=>zb (h _ _ (fun b hb=>.inl hb) (.ptr (hr.ina _ _))))
theorem zik {a b:Addr} (ha:A a.block) (hb:A b.block) {Q:(Nat->Prop)->Nat × Nat->Prop} (h:∀ x,Q A x):Sem.Fr P G (Op.twoPlaces a b) A Q:=by
 unfold Op.twoPlaces;refine ji ?_;split
 . exact za (xb (by simp))
 exact za (Zd ha fun m=>za (Zd hb fun n=>zb (h _)))
theorem Yd {k:IntKind} {a:Addr} (ha:A a.block) {n:Int} {Q:(Nat->Prop)->Value->Prop} (h:∀ v,VIn G A v->Q A v):Sem.Fr P G (Op.addrMod k a n) A Q:=by
 unfold Op.addrMod
 (repeat' (first | (with_reducible exact xb (by simp)) | (with_reducible refine X3 (fun _=>?_) (ShOk.same (by intros;rfl))) | (with_reducible refine za ?_) | (with_reducible refine zb ?_) | (with_reducible refine kj fun _ _=>?_) | (with_reducible refine Zd (by assumption) fun _=>?_) | split | dsimp only))
 exact h _ (.int _ _)
theorem Kg {op:BinOp} {a b:Addr} (ha:A a.block) (hb:A b.block) {Q:(Nat->Prop)->Value->Prop} (h:∀ v,VIn G A v->Q A v):Sem.Fr P G (Op.addrCmp op a b) A Q:=by
 unfold Op.addrCmp;refine za (zik ha hb fun x=>?_);dsimp only;split <;> first | exact zb (h _ (.bool _)) | exact xb (by simp)
theorem zoc {op:BinOp} {t:TypeId} {x y:Value} (hu:zpo P t = false) (he:isEq op = true->eqOk P 9 t = true∨x = .nilIface∨y = .nilIface) (hx:VIn G A x) (hy:VIn G A y) {Q:(Nat->Prop)->Value->Prop} (h:∀ A' v,(∀ b,A b->A' b)->VIn G A' v->Q A' v):Sem.Fr P G (binOp op t x y) A Q:=by
 have h0:∀ v,VIn G A v->Q A v:=fun v hv=>h A v (fun _ z=>z) hv;unfold binOp;split
 . unfold Op.shift
   (repeat' (first | (with_reducible exact zm (by simp)) | (with_reducible refine zb ?_) | split))
   all_goals exact h0 _ (.int _ _)
 . unfold Op.shift
   (repeat' (first | (with_reducible exact zm (by simp)) | (with_reducible refine zb ?_) | split))
   all_goals exact h0 _ (.int _ _)
 . unfold Op.intArith Op.intDiv Op.intBits Op.intCmp
   (repeat' (first | (with_reducible exact zj) | (with_reducible exact zm (by simp)) | (with_reducible refine zb ?_) | split))
   all_goals first | exact h0 _ (.int _ _) | exact h0 _ (.bool _)
 . unfold Op.floatArith Op.floatCmp
   (repeat' (first | (with_reducible exact zj) | (with_reducible refine za ?_) | (with_reducible refine zb ?_) | (with_reducible refine j7 fun _=>?_) | split | dsimp only))
   all_goals first | exact h0 _ (.float _ _) | exact h0 _ (.bool _)
 . cases hx
 . unfold Op.stringOp
   (repeat' (first | (with_reducible exact zj) | (with_reducible exact xb (by simp)) | (with_reducible refine zb ?_) | split))
   all_goals first | exact h0 _ (.string _) | exact h0 _ (.bool _)
 . exact za (zft (he rfl) hx hy fun b=>zb (h0 _ (.bool _)))
 . exact za (zft (he rfl) hx hy fun b=>zb (h0 _ (.bool _)))
 . refine za ?_;refine zk fun d hd=>?_;split
   . unfold zpo at hu;rw [hd] at hu;first | (simp at hu;done) | (rename_i hm;simp_all;done) | (split at * <;> simp_all)
   exact Zw hx rfl h
 . exact Zw hy rfl h
 . exact Zw hx rfl h
 . refine za (zu (qj hx).blk fun a ha=>?_);refine za (zu (qj hy).blk fun b hb=>?_);exact za (zik ha hb fun z=>zb (h0 _ (.int _ _)))
 . exact za (zu (qj hx).blk fun a ha=>za (zu (qj hy).blk fun b hb=>Kg ha hb h0))
 . exact za (zu (qj hx).blk fun a ha=>za (zu (qj hy).blk fun b hb=>Kg ha hb h0))
 . exact za (zu (qj hx).blk fun a ha=>za (zu (qj hy).blk fun b hb=>Kg ha hb h0))
 . exact za (zu (qj hx).blk fun a ha=>za (zu (qj hy).blk fun b hb=>Kg ha hb h0))
 . exact za (zu (qj hx).blk fun a ha=>Yd ha h0)
 . exact za (zu (qj hx).blk fun a ha=>Yd ha h0)
 . exact za (zu (qj hy).blk fun a ha=>Yd ha h0)
 . exact xb (by simp)
 . exact xb (by simp)
 exact zj
theorem zn6 {op:UnOp} {x:Value} (hx:VIn G A x) {Q:(Nat->Prop)->Value->Prop} (h:∀ v,VIn G A v->Q A v):Sem.Fr P G (Op.unary op x) A Q:=by
 unfold Op.unary Op.intArith Op.intBits
 (repeat' (first | (with_reducible exact zj) | (with_reducible exact xb (by simp)) | (with_reducible refine zb ?_) | split))
 all_goals first | exact h _ (.int _ _) | exact h _ (.bool _) | exact h _ (.float _ _) | (cases hx;done)
theorem zj7 {s d:TypeId} (hs:(P.underlying s matches some (.int _)) = true) (hd:(P.underlying d matches some (.int _)) = true) {x:Value} (hx:VIn G A x) {Q:(Nat->Prop)->Value->Prop} (h:∀ v,VIn G A v->Q A v):Sem.Fr P G (convert s d x) A Q:=by
 unfold convert;refine za ?_;refine zk fun ds hds=>?_;refine za ?_;refine zk fun dd hdd=>?_;rw [hds] at hs;rw [hdd] at hd;cases ds <;> simp at hs
 cases dd <;> simp at hd
 unfold Conv.intToInt Conv.floatToInt
 (repeat' (first | (with_reducible exact zj) | (with_reducible exact xb (by simp)) | (with_reducible refine za ?_) | (with_reducible refine zb ?_) | (with_reducible refine zk fun _ _=>?_) | (with_reducible refine j7 fun _=>?_) | split))
 all_goals first | exact h _ (.int _ _) | contradiction | skip
 all_goals trace_state
end
end
section
open Go.Conc
section
variable {P:Program} {G:Cfg} {A:Nat->Prop}
theorem yx {b:Bool}:∀ (d:Nat) (t:TypeId) (v:Value),VIn G A v->∀ {Q:(Nat->Prop)->Unit->Prop},Q A ()->Sem.Fr P G (Instr.checkKey b d t v) A Q
 | 0,_,_,_,_,_=>xb (by simp)
 | d + 1, t, v, hv, Q, h => by
   unfold Instr.checkKey;refine za ?_;refine zk fun ty _=>?_;split
   . (repeat' (first | (with_reducible exact zm (by simp)) | (with_reducible refine za ?_) | (with_reducible refine kj fun _ _=>?_) | (with_reducible refine zjy fun _=>?_) | split | dsimp only))
     all_goals first | exact yx d _ _ (zn4 hv) h | skip
   . have hc:=Kp hv;refine za (zau (I:=fun _=>True) trivial (fun s _=>zb h) (fun f s Q' _ hd hy'=>?_))
     (repeat' (first | (with_reducible refine za ?_) | (with_reducible refine x9 fun _=>?_) | (with_reducible refine K3 (by assumption) fun _ _=>?_)))
     refine yx d _ _ (by assumption) ?_
     (repeat' (first | (with_reducible refine zb ?_)))
     exact hy' _ trivial
   . have hc:=Kp hv;refine za (zfs (I:=fun _=>True) trivial (fun s _=>zb h) (fun f s Q' _ hd hy'=>?_))
     (repeat' (first | (with_reducible refine za ?_) | (with_reducible refine zb ?_) | (with_reducible refine K3 (by assumption) fun _ _=>?_) | split))
     all_goals first | exact hy' _ trivial | refine yx d _ _ (by assumption) ?_
     all_goals (repeat' (first | (with_reducible refine zb ?_)))
     all_goals exact hy' _ trivial
   . exact zb h
   . exact zj
   . exact zj
   . exact zj
   exact zb h
theorem Jp {t:TypeId} {k:Value} (h9:eqOk P 9 t = true) (hk:VIn G A k):∀ (es:List MapEntry) (i:Nat),(∀ e ∈ es,VIn G A e.key∧VIn G A e.val)->∀ {Q:(Nat->Prop)->Option (Nat × Value)->Prop},(∀ x,(∀ p,x = some p->VIn G A p.2)->Q A x)->Sem.Fr P G (Instr.findAsking t k es i) A Q
 | [],i,_,Q,h=>zb (h _ (by simp))
 | e :: es, i, he, Q, h => by
   unfold Instr.findAsking;refine za (zoa h9 hk (he e (by simp)).1 fun b=>?_);split
   . exact zb (h _ (by intro p e';cases e';exact (he e (by simp)).2))
   exact Jp h9 hk es (i + 1) (fun x hx=>he x (by simp [hx])) h
theorem zco {d:TypeDesc} {k:Value}:∀ (es:List MapEntry) (i:Nat),(∀ e ∈ es,VIn G A e.key∧VIn G A e.val)->∀ r,Instr.findNow d k es i = some r->∀ p,r = some p->VIn G A p.2
 | [],i,_,r,e,p,ep=>by simp [Instr.findNow] at e;subst e;cases ep
 | x :: es, i, he, r, e, p, ep => by
   simp only [Instr.findNow] at e;split at e
   . cases e;cases ep;exact (he x (by simp)).2
   . exact zco es (i + 1) (fun y hy=>he y (by simp [hy])) r e p ep
   cases e
theorem Yb {t:TypeId} {k:Value} (h9:eqOk P 9 t = true) (hk:VIn G A k) {es:List MapEntry} (he:∀ e ∈ es,VIn G A e.key∧VIn G A e.val) {Q:(Nat->Prop)->Option (Nat × Value)->Prop} (h:∀ x,(∀ p,x = some p->VIn G A p.2)->Q A x):Sem.Fr P G (Instr.findKey t k es) A Q:=by
 unfold Instr.findKey;refine za ?_;refine zk fun d _=>?_;split
 . rename_i r hr;exact zb (h _ (zco es 0 he r hr))
 exact Jp h9 hk es 0 he h
theorem zcb {r:Nat} (h:VIn G A (.map (some r))):A r:=by cases h;assumption
theorem zlk {r:Nat} {es:Array MapEntry} {c:Nat} (h:OIn P G A r (.map es c)):∀ e ∈ es,VIn G A e.key∧VIn G A e.val:=by cases h;assumption
theorem zc2 {v:Value} (hv:VIn G A v) (b:Bool):VIn G A (.tuple #[v, .bool b]):=by
 refine .tuple fun y hy=>?_;simp only [List.mem_toArray,List.mem_cons,List.not_mem_nil,or_false] at hy;rcases hy with rfl | rfl
 . exact hv
 exact .bool _
theorem zl9 (hP:jc P G) {t:TypeId} (hkk:∀ k e,P.underlying t = some (.map k e)->eqOk P 9 k = true) (he:∀ k e,P.underlying t = some (.map k e)->e < P.types.size) {x k:Value} (hx:VIn G A x) (hk:VIn G A k) {ok:Bool} {Q:(Nat->Prop)->Value->Prop} (h:∀ v,VIn G A v->Q A v):Sem.Fr P G (Instr.lookup t x k ok) A Q:=by
 unfold Instr.lookup;refine za ?_;refine zk fun d _=>?_;split
 case h_2=>exact zj
 have h9:=hkk _ _ (by assumption);have he:=he _ _ (by assumption);dsimp only;split
 . (repeat' (first | (with_reducible refine za ?_) | (with_reducible refine zb ?_) | split | dsimp only))
   all_goals refine yx _ _ _ hk ?_
   all_goals (repeat' (first | (with_reducible refine za ?_)))
   all_goals refine Yb h9 hk (by simp) fun r hr=>?_
   all_goals (repeat' (first | (with_reducible refine za ?_) | (with_reducible refine zb ?_) | (with_reducible refine ja (by assumption) (by first | assumption | exact he _ (by assumption)) fun _ _=>?_) | split | dsimp only))
   all_goals (refine h _ ?_;first | exact hr _ rfl | exact zc2 (hr _ rfl) _ | (rename_i hv;exact zc2 (hv A) _) | (rename_i hv;exact hv A))
 . refine za (Zc (zcb hx) fun o ho=>?_);split
   case h_2=>exact zj
   have hes:=zlk ho
   (repeat' (first | (with_reducible refine za ?_) | (with_reducible refine zb ?_) | split))
   all_goals refine yx _ _ _ hk ?_
   all_goals (repeat' (first | (with_reducible refine za ?_)))
   all_goals refine Yb h9 hk (fun e hx=>hes e (Array.mem_toList_iff.1 hx)) fun r hr=>?_
   all_goals (repeat' (first | (with_reducible refine za ?_) | (with_reducible refine zb ?_) | (with_reducible refine ja (by assumption) (by first | assumption | exact he _ (by assumption)) fun _ _=>?_) | split | dsimp only))
   all_goals (refine h _ ?_;first | exact hr _ rfl | exact zc2 (hr _ rfl) _ | (rename_i hv;exact zc2 (hv A) _) | (rename_i hv;exact hv A))
 exact za zj
theorem zfp {t:TypeId} (hkk:∀ k e,P.underlying t = some (.map k e)->eqOk P 9 k = true) {x k y:Value} (hx:VIn G A x) (hk:VIn G A k) (hy:VIn G A y) {Q:(Nat->Prop)->Unit->Prop} (h:Q A ()):Sem.Fr P G (Instr.mapUpdate t x k y) A Q:=by
 unfold Instr.mapUpdate;refine za ?_;refine zk fun d _=>?_;split
 case h_2=>exact zj
 have h9:=hkk _ _ (by assumption);split
 . exact zm (by simp)
 . refine za (Zc (zcb hx) fun o ho=>?_);split
   . rename_i es clock;have he:=zlk ho;refine za (yx _ _ _ hk ?_);refine za (Yb h9 hk (fun e hx=>he e (Array.mem_toList_iff.1 hx)) fun r hr=>?_);split
     . rename_i i v;have hold:∀ key,(key = k∨key = (((es[i]?).map (·.key)).getD k))->VIn G A key:=by
        rintro key (rfl | rfl)
        . exact hk
        cases hi:es[i]? with
        | none=>simpa using hk
        | some e=>simpa using (he e (Array.mem_of_getElem? hi)).1
       have fin:∀ key,VIn G A key->∀ r,OIn P G A r (.map (es.modify i fun e=>{ e with key,val:=y }) clock):=by
        intro key hkey r;refine .map fun e hm=>?_;obtain ⟨j,hj,rfl⟩:=Array.mem_iff_getElem.1 hm;rw [Array.getElem_modify];split
        . exact ⟨hkey,hy⟩
        exact he _ (Array.getElem_mem _)
       unfold Instr.keyThatStays;refine za ?_;split
       . exact zb (qe (zcb hx) (fin _ (hold _ (.inl rfl)) _) h)
       refine za (j7 fun n=>zb (qe (zcb hx) (fin _ ?_ _) h));split
       . exact hold _ (.inl rfl)
       exact hold _ (.inr rfl)
     refine qe (zcb hx) (.map fun e hm=>?_) h;rcases Array.mem_push.1 hm with h1 | rfl
     . exact he e h1
     exact ⟨hk,hy⟩
   exact zj
 exact zj
theorem zii {x:Value} {Q:(Nat->Prop)->Nat->Prop} (h:∀ n,Q A n):Sem.Fr P G (Builtin.lenOf x) A Q:=by
 unfold Builtin.lenOf
 (repeat' (first | (with_reducible exact zj) | (with_reducible refine zb ?_) | split))
 all_goals exact h _
theorem zde {a:Addr} {n c:Nat} (h:VIn G A (.slice (some a) n c)):Ina G A a:=by cases h;assumption
theorem Xe {s n:Nat} {x:Value} (hx:VIn G A x) {Q:(Nat->Prop)->Array Value->Prop} (h:∀ cs,(∀ v ∈ cs,VIn G A v)->Q A cs):Sem.Fr P G (Builtin.firstCells s n x) A Q:=by
 unfold Builtin.firstCells;split
 . exact Y4 (zde hx) h
 . exact zb (h _ (by simp))
 . refine zb (h _ fun v hv=>?_);obtain ⟨b,_,rfl⟩:=Array.mem_map.1 hv;exact .int _ _
 . exact zj
theorem zg8 {α:Type} {u:Unsupported}:j3 P (unsupported u:Sem α):=fun w es x w1 es1 h=>by cases h
theorem zg9 {α β:Type} {s:Sem α} {f:α->Sem β} (h:∀ a,j3 P (f a)):j3 P (s >>= f):=j3.bindR h
theorem zhm {α:Type} {a b c:Nat} {base:Option Addr} {x:Value} {f:Bool->Sem α} {Q:(Nat->Prop)->α->Prop} (hf:∀ b,Sem.Fr P G (f b) A Q) (hn:∀ b,j3 P (f b)):Sem.Fr P G (Builtin.mayShare a b c base x >>= f) A Q:=by
 have hh:∀ {β:Type} (ad:Addr) (m:Nat) (g:Bool->Sem β) (Q':(Nat->Prop)->β->Prop),(∀ b,Sem.Fr P G (g b) A Q')->(∀ b,j3 P (g b))->Sem.Fr P G (Builtin.holdsCells ad m >>= g) A Q':=by
  intro β ad m g Q' h1 h2;unfold Builtin.holdsCells;refine ⟨fun s=>?_,ShOk.never fun s=>?_⟩
  . cases s <;> exact h1 _
  cases s <;> exact h2 _
 have tail:∀ there:Bool,Sem.Fr P G ((do
  if !there then return true
  match x with
  | .slice (some b') _ _=>do pure (!(← Builtin.holdsCells b' (c * a)) || base.any (·.block == b'.block))
  | _=>pure false:Sem Bool) >>= f) A Q∧j3 P ((do
  if !there then return true
  match x with
  | .slice (some b') _ _=>do pure (!(← Builtin.holdsCells b' (c * a)) || base.any (·.block == b'.block))
  | _=>pure false:Sem Bool) >>= f):=by
  intro there;refine ⟨?_,j3.bindR hn⟩;cases there with
  | false=>exact hf _
  | true =>
    cases x with
    | slice o n k =>
      cases o with
      | none=>exact hf _
      | some b' =>
        simp only [Bool.not_true,Bool.false_eq_true,if_false,bind_assoc,pure_bind];exact hh b' (c * a) _ Q (fun _=>hf _) (fun _=>hn _)
    | _=>exact hf _
 unfold Builtin.mayShare;cases base with
 | none=>exact (tail true).1
 | some ad =>
   simp only [bind_assoc,pure_bind] at tail ⊢;refine hh ad _ _ Q (fun r=>?_) (fun r=>?_)
   . exact za (zmc fun y=>(tail _).1)
   exact j3.bindR fun y=>(tail _).2
theorem Yn {z:Array Value} (hz:∀ v ∈ z,VIn G A v) (n:Nat):∀ v ∈ Builtin.zeroCells z n,VIn G A v:=qc hz _ (fun _=>.inr trivial)
theorem zo2 {a b:Array Value} (ha:∀ v ∈ a,VIn G A v) (hb:∀ v ∈ b,VIn G A v):∀ v ∈ a ++ b,VIn G A v:=fun v hv=>(Array.mem_append.1 hv).elim (ha v) (hb v)
theorem zl8 {Q:(Nat->Prop)->Unit->Prop} (h:Q A ()):Sem.Fr P G (mark .noRoom) A Q:=⟨rfl,h⟩
theorem zmf (hP:jc P G) {as:Array TypeId} (has:∀ st,as[0]? = some st->∀ e,P.underlying st = some (.slice e)->e < P.types.size) {t:TypeId} {args:Array Value} (ha:∀ v ∈ args,VIn G A v) {Q:(Nat->Prop)->Value->Prop} (h:∀ A' v,(∀ b,A b->A' b)->VIn G A' v->Q A' v):Sem.Fr P G (Builtin.append_ as t args) A Q:=by
 have h0:∀ v,VIn G A v->Q A v:=fun v hv=>h A v (fun _ z=>z) hv;have h1:∀ r v,VIn G (fun b=>A b∨b = r) v->Q (fun b=>A b∨b = r) v:=fun r v hv=>h _ v (fun _ z=>.inl z) hv;unfold Builtin.append_;split
 case h_2=>exact zj
 rename_i sType s x e;have hs:VIn G A s:=ha _ (Array.mem_of_getElem? (congrArg (fun z=>z.2.1) e));have hx:VIn G A x:=ha _ (Array.mem_of_getElem? (congrArg (fun z=>z.2.2) e));refine za ?_;refine zk fun d hd=>?_;split
 case h_2=>exact zj
 have he:=has _ (congrArg (fun z=>z.1) e) _ hd;split
 case h_2=>exact zj
 rename_i base sLen sCap;have hb:∀ a,base = some a->Ina G A a:=by intro a e';subst e';exact zde hs
 refine za ?_;refine x9 fun size=>?_
 extract_lets j1 jp
 have hjp:∀ z,Sem.Fr P G (jp z) A Q:=by
  intro z;simp -zeta only [jp]
  extract_lets j2
  have hj2:∀ n,Sem.Fr P G (j2 n) A Q:=by
   intro n;simp -zeta only [j2]
   extract_lets app need k1 k2 k3
   have happ:∀ {Q':(Nat->Prop)->Array Value->Prop},(∀ cs,(∀ v ∈ cs,VIn G A v)->Q' A cs)->Sem.Fr P G app A Q':=by
    intro Q' h';simp only [app];split
    . exact Xe hx h'
    split
    . exact zb (h' _ (by simp))
    exact za (ja hP he fun v hv=>zb (h' _ (Yn (qq (hv A)) n)))
   have hk2:∀ r,Sem.Fr P G (k2 r) A Q:=by
    intro r;simp only [k2];refine za (j7 fun cap=>za (kj fun i _=>za (zck (za (Xe hs fun old hold=>za (happ fun new hnew=>za (ja hP he fun v hv=>?_))))))) ;exact za (Z3 (zo2 (zo2 hold hnew) (Yn (qq (hv A)) _)) fun r hr=>zb (h1 r _ (.slice _ _ (hr.ina _ _))))
   have hk3:∀ r,Sem.Fr P G (k3 r) A Q:=by
    intro r
    clear_value k2
    simp only [k3,j1]
    (repeat' (first | (with_reducible exact zm (by simp)) | (with_reducible exact xb (by simp)) | (with_reducible refine zhm (fun _=>?_) (fun _=>?_)) | (with_reducible exact zg8) | (with_reducible refine zg9 fun _=>?_) | (with_reducible refine za ?_) | (with_reducible refine kj fun _ _=>?_) | (with_reducible refine zl8 ?_) | split))
    all_goals exact hk2 _
   split
   . refine za (happ fun new hnew=>?_);simp only [k1];split
     . exact za (qp ((hb _ rfl).add _) _ _ (fun v hv=>hnew v (Array.mem_toList_iff.1 hv)) (zb (h0 _ (.slice _ _ (hb _ rfl)))))
     refine zb (h0 _ ?_);cases base with
     | none=>exact .slice0 _ _
     | some a=>exact .slice _ _ (hb _ rfl)
   refine za (kj fun i _=>?_);split
   . exact za (zm (by simp))
   exact hk3 ()
  split
  . (repeat' (first | (with_reducible exact zm (by simp)) | (with_reducible refine za ?_) | (with_reducible refine zb ?_) | (with_reducible refine kj fun _ _=>?_) | (with_reducible refine j7 fun _=>?_) | (with_reducible refine Jq fun _=>?_) | split | dsimp only))
    all_goals exact hj2 _
  exact za (zii fun n=>hj2 n)
 split
 . refine za ?_
   (repeat' (first | (with_reducible refine za ?_) | (with_reducible refine zb ?_) | (with_reducible refine zk fun _ _=>?_) | split))
   all_goals exact hjp _
 exact za (zb (hjp _))
theorem zpt {as:Array TypeId} {t:TypeId} {args:Array Value} (ha:∀ v ∈ args,VIn G A v) {Q:(Nat->Prop)->Value->Prop} (h:∀ v,VIn G A v->Q A v):Sem.Fr P G (Builtin.copy_ as t args) A Q:=by
 unfold Builtin.copy_;split
 case h_2=>exact zj
 rename_i dType d x e;have hd:VIn G A d:=ha _ (Array.mem_of_getElem? (congrArg (fun z=>z.2.1) e));have hx:VIn G A x:=ha _ (Array.mem_of_getElem? (congrArg (fun z=>z.2.2) e))
 (repeat' (first | (with_reducible exact zj) | (with_reducible refine za ?_) | (with_reducible refine zb ?_) | (with_reducible refine zk fun _ _=>?_) | (with_reducible refine x9 fun _=>?_) | (with_reducible refine zii fun _=>?_) | (with_reducible refine Xe (by assumption) fun _ _=>?_) | split | dsimp only))
 all_goals first
  | exact h _ (.int _ _)
  | (refine qp (zde hd) _ _ (fun v hv=>(by assumption:∀ v ∈ _,VIn G A v) v (Array.mem_toList_iff.1 hv)) ?_)
 all_goals (repeat' (first | (with_reducible refine zb ?_)))
 all_goals exact h _ (.int _ _)
theorem zqs {as:Array TypeId} {t:TypeId} {args:Array Value} (ha:∀ v ∈ args,VIn G A v) {Q:(Nat->Prop)->Value->Prop} (h:∀ v,VIn G A v->Q A v):Sem.Fr P G (Builtin.len_ as t args) A Q:=by
 unfold Builtin.len_;split
 case h_2=>exact zj
 rename_i x y e;have hx:VIn G A y:=ha _ (Array.mem_of_getElem? (congrArg (fun z=>z.2) e));refine za ?_;refine zk fun d _=>?_;split;all_goals try exact zb (h _ (.int _ _))
 . (repeat' (first | (with_reducible exact zj) | (with_reducible refine za ?_) | (with_reducible refine zb ?_) | (with_reducible refine zk fun _ _=>?_) | split))
   all_goals exact h _ (.int _ _)
 . refine za (Zc (zcb hx) fun o ho=>?_);split
   . exact zb (h _ (.int _ _))
   exact zj
 . cases hx
 exact zj
theorem zpr {x y:Value} {Q:(Nat->Prop)->Value->Prop} (h:∀ v,VIn G A v->Q A v):Sem.Fr P G (Builtin.max2 x y) A Q:=by
 unfold Builtin.max2 Op.stringOp
 (repeat' (first | (with_reducible exact zj) | (with_reducible exact xb (by simp)) | (with_reducible refine za ?_) | (with_reducible refine zb ?_) | (with_reducible refine j7 fun _=>?_) | (with_reducible refine zaw fun _=>?_) | split))
 all_goals first | exact h _ (.int _ _) | exact h _ (.float _ _) | exact h _ (.string _)
theorem zpq {x y:Value} {Q:(Nat->Prop)->Value->Prop} (h:∀ v,VIn G A v->Q A v):Sem.Fr P G (Builtin.min2 x y) A Q:=by
 unfold Builtin.min2 Op.stringOp
 (repeat' (first | (with_reducible exact zj) | (with_reducible exact xb (by simp)) | (with_reducible refine za ?_) | (with_reducible refine zb ?_) | (with_reducible refine j7 fun _=>?_) | (with_reducible refine zaw fun _=>?_) | split))
 all_goals first | exact h _ (.int _ _) | exact h _ (.float _ _) | exact h _ (.string _)
theorem zav {f:Value->Value->Sem Value} (hf:∀ x y {Q:(Nat->Prop)->Value->Prop},(∀ v,VIn G A v->Q A v)->Sem.Fr P G (f x y) A Q) {Q:(Nat->Prop)->Value->Prop} (h:∀ v,VIn G A v->Q A v) :
 ∀ (l:List Value) (x:Value),VIn G A x->Sem.Fr P G (l.foldlM f x) A Q
 | [],x,hx=>zb (h x hx)
 | y :: l,x,hx=>za (hf x y fun v hv=>zav hf h l v hv)
theorem zqq {as:Array TypeId} {t:TypeId} {args:Array Value} (ha:∀ v ∈ args,VIn G A v) {Q:(Nat->Prop)->Value->Prop} (h:∀ v,VIn G A v->Q A v):Sem.Fr P G (Builtin.max_ as t args) A Q:=by
 unfold Builtin.max_;split
 . exact zj
 rename_i x l e;exact zav (fun x y {Q} h=>zpr h) h l x (ha x (by rw [← Array.mem_toList_iff,e];simp))
theorem zqp {as:Array TypeId} {t:TypeId} {args:Array Value} (ha:∀ v ∈ args,VIn G A v) {Q:(Nat->Prop)->Value->Prop} (h:∀ v,VIn G A v->Q A v):Sem.Fr P G (Builtin.min_ as t args) A Q:=by
 unfold Builtin.min_;split
 . exact zj
 rename_i x l e;exact zav (fun x y {Q} h=>zpq h) h l x (ha x (by rw [← Array.mem_toList_iff,e];simp))
end
end
section
open Go.Conc
section
variable {P:Program} {G:Cfg} {A:Nat->Prop}
theorem zho (hP:jc P G) {f:FuncId} (hf:G f = true) {args:Array Value} (ha:∀ v ∈ args,VIn G A v) {Q:(Nat->Prop)->Next->Prop} (h:∀ A' n,(∀ b,A b->A' b)->NIn P G A' n->Q A' n):Sem.Fr P G (callFunc f args) A Q:=by
 obtain ⟨fn,c,h1,h2,_,h4⟩:=hP.func f hf;unfold callFunc;refine ji ?_;rw [h1];simp only [h4,h2,Option.isNone_some,Bool.false_eq_true,if_false];exact zb (h A _ (fun _ z=>z) ⟨hf,ha⟩)
theorem zpf {ts:Array Value} (hts:∀ v ∈ ts,VIn G A v):∀ (l:List (Tmp × Value)),(∀ p ∈ l,VIn G A p.2)->∀ v ∈ l.foldl (fun tmps (p:Tmp × Value)=>tmps.setIfInBounds p.1 p.2) ts,VIn G A v:=by
 intro l
 induction l generalizing ts with
 | nil=>exact fun _=>hts
 | cons p l ih =>
   intro hl;rw [List.foldl_cons];refine ih (fun v hv=>?_) fun q hq=>hl q (by simp [hq]);rcases Array.mem_or_eq_of_mem_setIfInBounds hv with h1 | h1
   . exact hts v h1
   rw [h1];exact hl p (by simp)
theorem qw {l:Nat} (hl:A l) {Q:(Nat->Prop)->Loop->Prop} (h:∀ r,OIn P G A l (.loop r)->Q A r):Sem.Fr P G (Instr.getLoop l) A Q:=by
 unfold Instr.getLoop;refine za (Zc hl fun o ho=>?_);split
 . exact zb (h _ ho)
 exact zj
theorem J5 {l:Nat} {r:Loop} (h:OIn P G A l (.loop r)):(∀ v ∈ r.tmps,VIn G A v)∧xn P G r.assign = true∧xn P G r.body = true∧(∀ c,r.pending = some c->xn P G c = true)∧A r.defers:=by
 cases h;exact ⟨by assumption,by assumption,by assumption,by assumption,by assumption⟩
theorem zn5 {l:Nat} (hl:A l) {args:Array Value} (ha:∀ v ∈ args,VIn G A v) {Q:(Nat->Prop)->Next->Prop} (h:∀ A' n,(∀ b,A b->A' b)->NIn P G A' n->Q A' n):Sem.Fr P G (Instr.yield l args) A Q:=by
 unfold Instr.yield;refine za (qw hl fun r hr=>?_);obtain ⟨h1,h2,h3,_,_⟩:=J5 hr;split
 . exact za zj
 refine zb (h A _ (fun _ z=>z) ⟨hl, ?_,h2,h3⟩);rw [← Array.foldl_toList];refine zpf h1 _ fun p hp=>?_;exact ha _ (Array.of_mem_zip (Array.mem_toList_iff.1 hp)).2
def TIn (P:Program) (G:Cfg) (A:Nat->Prop):Target->Prop
 | .fn (.func f) captured=>G f = true∧∀ v ∈ captured,VIn G A v
 | .fn (.yield l) captured=>A l∧∀ v ∈ captured,VIn G A v
 | .builtin .append as _ _=>∀ st,as[0]? = some st->∀ e,P.underlying st = some (.slice e)->e < P.types.size
 | .builtin .copy _ _ _ | .builtin .len _ _ _ | .builtin .max _ _ _ | .builtin .min _ _ _=>True
 | .nil=>True
 | _=>False
theorem js {s:Sem Value} {Q:(Nat->Prop)->Next->Prop} (h:∀ A' n,(∀ b,A b->A' b)->NIn P G A' n->Q A' n) (hs:Sem.Fr P G s A (fun A' v=>(∀ b,A b->A' b)∧VIn G A' v)):Sem.Fr P G (do pure (.value (← s)):Sem Next) A Q :=
 za (hs.mono fun A' v hA hv=>zb (h A' _ hv.1 hv.2))
theorem zl5 {s:Sem Unit} {Q:(Nat->Prop)->Next->Prop} (h:∀ A' n,(∀ b,A b->A' b)->NIn P G A' n->Q A' n) (hs:Sem.Fr P G s A (fun A' _=>∀ b,A b->A' b)):Sem.Fr P G (do s;pure .skip:Sem Next) A Q :=
 za (hs.mono fun A' v hA hv=>zb (h A' _ hv trivial))
theorem zat (hP:jc P G) {t:Target} (ht:TIn P G A t) {args:Array Value} (ha:∀ v ∈ args,VIn G A v) {Q:(Nat->Prop)->Next->Prop} (h:∀ A' n,(∀ b,A b->A' b)->NIn P G A' n->Q A' n):Sem.Fr P G (invoke t args) A Q:=by
 unfold invoke;split
 . exact zm (by simp)
 . rename_i b as ty cs;unfold builtin;cases b <;> first | exact ht.elim | skip
   . exact js h (zmf hP ht ha fun A' v hA hv=>⟨hA,hv⟩)
   . exact js h (zpt ha fun v hv=>⟨fun _ z=>z,hv⟩)
   . exact js h (zqs ha fun v hv=>⟨fun _ z=>z,hv⟩)
   . exact js h (zqq ha fun v hv=>⟨fun _ z=>z,hv⟩)
   exact js h (zqp ha fun v hv=>⟨fun _ z=>z,hv⟩)
 . exact zho hP ht.1 (fun v hv=>(Array.mem_append.1 hv).elim (ha v) (ht.2 v)) h
 . exact ht.elim
 . exact ht.elim
 . exact ht.elim
 . exact zn5 ht.1 ha h
 . exact ht.elim
 exact ht.elim
theorem zch {f:Value} (hf:VIn G A f) {args:Array Value} (ha:∀ v ∈ args,VIn G A v) {Q:(Nat->Prop)->Deferred->Prop} (h:∀ d,TIn P G A d.target->(∀ v ∈ d.args,VIn G A v)->Q A d):Sem.Fr P G (Deferred.ofValue f args) A Q:=by
 unfold Deferred.ofValue;split
 . cases hf with
   | func hg h1 h2=>exact zb (h _ ⟨hg,h2⟩ fun v hv=>(Array.mem_append.1 hv).elim (h1 v) (ha v))
   | yield hl h1 h2=>exact zb (h _ ⟨hl,h2⟩ fun v hv=>(Array.mem_append.1 hv).elim (h1 v) (ha v))
 . exact zb (h _ trivial ha)
 exact zj
theorem zjr {ρ:Operand->Value} (hρ:∀ x,Z1 G x = true->VIn G A (ρ x)) {xs:Array Operand} (hx:xs.all (Z1 G) = true):∀ v ∈ xs.map ρ,VIn G A v:=by
 intro v hv;obtain ⟨x,hm,rfl⟩:=Array.mem_map.1 hv;exact hρ x (Array.all_eq_true'.1 hx x hm)
theorem zpu (hP:jc P G) {ρ:Operand->Value} (hρ:∀ x,Z1 G x = true->VIn G A (ρ x)) {c:Call} {t:TypeId} (hc:opOk P G (.call c) = true) {Q:(Nat->Prop)->Next->Prop} (h:∀ A' n,(∀ b,A b->A' b)->NIn P G A' n->Q A' n) :
 Sem.Fr P G (do let d ← resolve ρ c t;invoke d.target d.args:Sem Next) A Q:=by
 simp only [opOk,Op.operands,Call.operands,Bool.and_eq_true] at hc;obtain ⟨h1,h2⟩:=hc;rw [Array.all_append,Bool.and_eq_true] at h2;have ha:=zjr hρ h2.2;unfold resolve;cases hcal:c.callee with
 | value f =>
   rw [hcal] at h2;have hf:VIn G A (ρ f):=hρ f (by simpa using h2.1);exact za (zch hf ha fun d hd hda=>zat hP hd hda h)
 | invoke r m=>rw [hcal] at h1;simp at h1
 | builtin b =>
   rw [hcal] at h1;refine za (zb (zat hP ?_ ha h));cases b <;> first | trivial | (simp at h1;done) | skip
   intro st hst e he;simp only [hst] at h1;unfold elOk at h1;rw [he] at h1
   simpa [tyOk] using h1
theorem zcq {t:TypeId} (h:elOk P t = true):∀ e,P.underlying t = some (.slice e)->e < P.types.size:=by
 intro e he;unfold elOk at h;rw [he] at h
 simpa [tyOk] using h
theorem zof {t:TypeId} (h:elOk P t = true):∀ k e,P.underlying t = some (.map k e)->e < P.types.size:=by
 intro k e he;unfold elOk at h;rw [he] at h
 simpa [tyOk] using h
theorem zfi {t:TypeId} (h:zn1 P t = true):∀ k e,P.underlying t = some (.map k e)->eqOk P 9 k = true:=by
 intro k e he;unfold zn1 at h;rw [he] at h;exact h
theorem zhl {v:Value} (hv:VIn G A v) {Q:(Nat->Prop)->Next->Prop} (h:∀ A' n,(∀ b,A b->A' b)->NIn P G A' n->Q A' n) :
 Sem.Fr P G (match v with
 | .pointer none | .nilIface | .nilFunc=>runtimePanic .nilDeref
 | .func (.method name) first captured =>
   match (first[0]?:Option Value) with
   | some .nilIface=>runtimePanic .nilDeref
   | some (.iface t w) => do
     if (← nilAhead ((← program).types.size + Made.depth) t w name) != some false then
      unsupported (.noEntry "op/nilCheck.the method's receiver behind this interface value is a nil pointer, or cannot be seen to be none, and the arguments act or may panic (ledger 612)")
     pure (.value (.func (.method name) first captured))
   | _=>pure (.value (.func (.method name) first captured))
 | x=>pure (.value x):Sem Next) A Q:=by
 split
 . exact zm (by simp)
 . exact zm (by simp)
 . exact zm (by simp)
 . cases hv
 exact zb (h A _ (fun _ z=>z) hv)
theorem zmd (hP:jc P G) {ρ:Operand->Value} (hρ:∀ x,Z1 G x = true->VIn G A (ρ x)) (hnil:∀ x,zn2 x = true->ρ x = .nilIface) {o:Oper} (ho:opOk P G o.op = true):Sem.Fr P G (execOp ρ o) A (fun A' n=>(∀ b,A b->A' b)∧NIn P G A' n):=by
 have H:∀ A' n,(∀ b,A b->A' b)->NIn P G A' n->(∀ b,A b->A' b)∧NIn P G A' n:=fun _ _ h1 h2=>⟨h1,h2⟩;have h0:∀ v,VIn G A v->(∀ b,A b->A b)∧VIn G A v:=fun v hv=>⟨fun _ z=>z,hv⟩;have hn:∀ (r:Nat) v,VIn G (fun b=>A b∨b = r) v->(∀ b,A b->A b∨b = r)∧VIn G (fun b=>A b∨b = r) v:=fun r v hv=>⟨fun _ z=>.inl z,hv⟩;unfold execOp;cases hop:o.op <;> rw [hop] at ho <;> simp only
 case move x=>exact zb ⟨fun _ z=>z,hρ x (by simpa [opOk,Op.operands] using ho)⟩
 case assign x=>exact zb ⟨fun _ z=>z,hρ x (by simpa [opOk,Op.operands] using ho)⟩
 case pick c a b =>
  simp [opOk,Op.operands] at ho;refine za (zaw fun t=>zb ⟨fun _ z=>z, ?_⟩);show VIn G A _;split
  . exact hρ a ho.2.1
  exact hρ b ho.2.2
 case alloc e=>exact js H (zoe hP (by simpa [opOk,tyOk,Op.operands] using ho) fun r hr=>hn r _ (.ptr (hr.ina _ _)))
 case box e x=>exact js H (zqt (hρ x (by simpa [opOk,Op.operands] using ho)) fun r hr=>hn r _ (.ptr (hr.ina _ _)))
 case build t ps =>
  simp [opOk,Op.operands,tyOk] at ho;refine js H (zob hP ho.1 (fun p hp=>?_) h0);obtain ⟨q,hq,rfl⟩:=Array.mem_map.1 hp;obtain ⟨i,hi,rfl⟩:=Array.mem_iff_getElem.1 hq;exact hρ _ (ho.2 i hi)
 case buildSlice t n ps =>
  simp [opOk,Op.operands] at ho;refine js H (zd5 hP (zcq ho.1) (fun p hp=>?_) fun r v _ hv=>hn r v hv);obtain ⟨q,hq,rfl⟩:=Array.mem_map.1 hp;obtain ⟨i,hi,rfl⟩:=Array.mem_iff_getElem.1 hq;exact hρ _ (ho.2 i hi)
 case load t a=>exact js H (zma (hρ a (by simpa [opOk,Op.operands] using ho)) h0)
 case store t a x =>
  simp [opOk,Op.operands] at ho;exact zl5 H (zjz (hρ a ho.1) (hρ x ho.2) fun _ z=>z)
 case nilCheck x=>exact zhl (hρ x (by simpa [opOk,Op.operands] using ho)) H
 case binOp op t x y u =>
  simp only [opOk,Op.operands,Bool.and_eq_true] at ho;obtain ⟨⟨hu,he⟩,ho⟩:=ho;replace ho:Z1 G x = true∧Z1 G y = true:=by simpa using ho
  exact js H (za (zj6 (hρ x ho.1) (hρ y ho.2) (zoc (by simpa using hu) (fun e=>by
   rw [e] at he;simp only [Bool.not_true,Bool.false_or,Bool.or_eq_true] at he;exact he.imp id fun h=>h.imp (fun h=>hnil x h) fun h=>hnil y h) (hρ x ho.1) (hρ y ho.2) fun A' v hA hv=>⟨hA,hv⟩)))
 case unOp op t x=>exact js H (zn6 (hρ x (by simpa [opOk,Op.operands] using ho)) h0)
 case convert s d x =>
  simp only [opOk,Op.operands,Bool.and_eq_true] at ho;exact js H (zj7 ho.1.1 ho.1.2 (hρ x (by simpa using ho.2)) h0)
 case makeInterface t x=>exact js H (Qg (hρ x (by simpa [opOk,Op.operands] using ho)) h0)
 case makeFunc fn a b =>
  cases fn <;> simp [opOk,Op.operands] at ho
  refine js H (zb (h0 _ (.func ho.1 ?_ ?_)))
  . intro v hv;obtain ⟨x,hx,rfl⟩:=Array.mem_map.1 hv;obtain ⟨i,hi,rfl⟩:=Array.mem_iff_getElem.1 hx;exact hρ _ (ho.2.1 i hi)
  intro v hv;obtain ⟨x,hx,rfl⟩:=Array.mem_map.1 hv;obtain ⟨i,hi,rfl⟩:=Array.mem_iff_getElem.1 hx;exact hρ _ (ho.2.2 i hi)
 case makeMap t r=>exact js H (zj2 fun r _=>hn r _ (.map (.inr rfl)))
 case makeSlice t l c =>
  simp [opOk,Op.operands] at ho;exact js H (zfq hP (zcq ho.1) fun r v _ hv=>hn r v hv)
 case slice t x l h m =>
  simp [opOk,Op.operands] at ho;exact js H (zj0 (hρ x ho.1.1) h0)
 case fieldAddr s x f=>exact js H (zj4 (hρ x (by simpa [opOk,Op.operands] using ho)) h0)
 case field s x f=>exact js H (zn9 (hρ x (by simpa [opOk,Op.operands] using ho)) h0)
 case indexAddr t x i =>
  simp [opOk,Op.operands] at ho;exact js H (zj3 (hρ x ho.1) h0)
 case lookup t x i ok =>
  simp [opOk,Op.operands] at ho;exact js H (zl9 hP (zfi ho.1.2) (zof ho.1.1) (hρ x ho.2.1) (hρ i ho.2.2) h0)
 case mapUpdate t m k x =>
  simp [opOk,Op.operands] at ho;exact zl5 H (zfp (zfi ho.1) (hρ m ho.2.1) (hρ k ho.2.2.1) (hρ x ho.2.2.2) fun _ z=>z)
 case extract t i=>exact js H (zj5 (hρ t (by simpa [opOk,Op.operands] using ho)) h0)
 case call c=>exact zpu hP hρ ho H
 all_goals simp [opOk] at ho
end
end
section
open Go.Conc
def yr (P:Program) (G:Cfg) (A:Nat->Prop):Item->Prop
 | .code c | .inLoop c=>xn P G c = true
 | .inBlock _ | .beginRound=>True
 | .inRegion ops _=>(ops.all fun o=>opOk P G o.op) = true
 | .inRangeFunc l | .endRangeFunc l=>A l
 | _=>False
structure FrIn (P:Program) (G:Cfg) (A:Nat->Prop) (fr:Frame):Prop where
 tmps:∀ v ∈ fr.tmps,VIn G A v
 todo:∀ x ∈ fr.todo,yr P G A x
 defers:∀ d ∈ fr.defers,∃ r,d = { target:=.collected r,args:=#[] }∧A r
 kind:fr.kind = .normal
 round:∀ l,fr.roundOf = some l->A l
theorem yr.mono {P:Program} {G:Cfg} {A A':Nat->Prop} (h:∀ b,A b->A' b) {x:Item} (hx:yr P G A x):yr P G A' x:=by
 cases x <;> simp only [yr] at * <;> first | exact hx | exact h _ hx
theorem FrIn.mono {P:Program} {G:Cfg} {A A':Nat->Prop} (h:∀ b,A b->A' b) {fr:Frame} (hf:FrIn P G A fr):FrIn P G A' fr :=
 ⟨fun v hv=>(hf.tmps v hv).mono h,fun x hx=>(hf.todo x hx).mono h,fun d hd=>let ⟨r,e,hr⟩:=hf.defers d hd;⟨r,e,h _ hr⟩,hf.kind,fun l hl=>h _ (hf.round l hl)⟩
def addK (k:List Item):List Frame->List Frame
 | []=>[]
 | [f]=>[{ f with todo:=f.todo ++ k }]
 | f :: g :: r=>f :: addK k (g :: r)
def gor (fr:Frame) (cs:List Frame):Goroutine:={ frame:=fr,callers:=cs,status:=.running,dying:=none }
def xo (k:List Item) (cs:List Frame) (fr:Frame):List Frame->Goroutine
 | []=>gor { fr with todo:=fr.todo ++ k } cs
 | g :: r=>gor fr (addK k (g :: r) ++ cs)
structure StIn (P:Program) (G:Cfg) (A:Nat->Prop) (fr:Frame) (inner:List Frame):Prop where
 top:FrIn P G A fr
 rest:∀ f ∈ inner,FrIn P G A f∧f.mode = .run
theorem StIn.mono {P:Program} {G:Cfg} {A A':Nat->Prop} (h:∀ b,A b->A' b) {fr:Frame} {inner:List Frame} (hf:StIn P G A fr inner):StIn P G A' fr inner :=
 ⟨hf.top.mono h,fun f hm=>⟨(hf.rest f hm).1.mono h,(hf.rest f hm).2⟩⟩
section
variable {P:Program} {G:Cfg} {A:Nat->Prop}
theorem zmo {fr:Frame} (h:FrIn P G A fr):∀ x,Z1 G x = true->VIn G A (fr.eval x):=by
 intro x hx;cases x with
 | tmp t =>
   show VIn G A (fr.tmps.getD t undef);rw [Array.getD_eq_getD_getElem?];cases ht:fr.tmps[t]? with
   | none=>exact .tuple (by simp)
   | some v=>exact h.tmps v (Array.mem_of_getElem? ht)
 | const v=>exact .of_plain hx
 | global g=>simp [Z1] at hx
 | func f=>exact .func hx (by simp) (by simp)
theorem FrIn.todo' {fr:Frame} (h:FrIn P G A fr) {k:List Item} (hk:∀ x ∈ k,yr P G A x):FrIn P G A { fr with todo:=k }:=⟨h.tmps,hk,h.defers,h.kind,h.round⟩
theorem FrIn.finish {fr:Frame} (h:FrIn P G A fr) {v:Value} (hv:VIn G A v):FrIn P G A (fr.finish v):=by
 unfold Frame.finish;split
 . rename_i ops i rest k e;refine ⟨fun x hx=>?_,fun x hx=>?_,h.defers,h.kind,h.round⟩
   . split at hx
     . rcases Array.mem_or_eq_of_mem_setIfInBounds hx with h1 | h1
       . exact h.tmps x h1
       exact h1 ▸ hv
     exact h.tmps x hx
   have h0:=h.todo;rw [e] at h0;rcases List.mem_cons.1 hx with rfl | hx
   . exact h0 (.inRegion ops (i :: rest)) (by simp)
   exact h0 x (by simp [hx])
 . rename_i l k e;have h0:=h.todo;rw [e] at h0;exact h.todo' fun x hx=>(List.mem_cons.1 hx).elim (fun e=>e ▸ h0 (.inRangeFunc l) (by simp)) fun hx=>h0 x (by simp [hx])
 . rename_i k e;have h0:=h.todo;rw [e] at h0;exact h.todo' fun x hx=>h0 x (by simp [hx])
 . rename_i d wr re sv k e;have h0:=h.todo;rw [e] at h0;exact (h0 (.call d wr re sv) (by simp)).elim
 . rename_i row args k e;have h0:=h.todo;rw [e] at h0;exact (h0 (.extern row args) (by simp)).elim
 exact h
theorem qx {fr:Frame} (h:fr.todo ≠ []) (k:List Item) (v:Value):({ fr with todo:=fr.todo ++ k }:Frame).finish v = { fr.finish v with todo:=(fr.finish v).todo ++ k }:=by
 cases ht:fr.todo with
 | nil=>exact absurd ht h
 | cons x l =>
   cases x with
   | inRegion ops td=>cases td <;> simp [Frame.finish,ht]
   | _=>simp [Frame.finish,ht]
theorem zip (hP:jc P G) {f:FuncId} (hf:G f = true) {args:Array Value} (ha:∀ v ∈ args,VIn G A v):FrIn P G A (Frame.enter P f args .normal):=by
 obtain ⟨fn,c,h1,h2,h3,_⟩:=hP.func f hf;refine ⟨fun v hv=>?_,fun x hx=>?_,fun d hd=>(by cases hd),rfl,fun l hl=>(by cases hl)⟩
 . simp only [Frame.enter] at hv;rcases Array.mem_append.1 hv with hv | hv
   . exact ha v hv
   rw [(Array.mem_replicate.1 hv).2];exact .tuple (by simp)
 simp only [Frame.enter,h1,Option.bind_some,h2,Option.getD_some,List.mem_singleton] at hx;subst hx;exact h3
theorem za4 {id:Nat}:∀ {k k':List Item},(∀ x ∈ k,yr P G A x)->exitTo id k = some k'->∀ x ∈ k',yr P G A x
 | [],_,_,e=>by simp [exitTo] at e
 | y :: k, k', h, e => by
   have hk:∀ x ∈ k,yr P G A x:=fun x hx=>h x (by simp [hx]);cases y with
   | inBlock id' =>
     simp only [exitTo] at e;split at e
     . cases e;exact hk
     exact za4 hk e
   | _=>exact za4 hk (by simpa only [exitTo] using e)
theorem Yg {id:Nat}:∀ {k k':List Item} (t:List Item),exitTo id k = some k'->exitTo id (k ++ t) = some (k' ++ t)
 | [],_,_,e=>by simp [exitTo] at e
 | y :: k, k', t, e => by
   cases y with
   | inBlock id' =>
     simp only [exitTo,List.cons_append] at e ⊢;split at e
     . rename_i hc;cases e;simp [hc]
     rename_i hc;simp only [hc,if_false,Bool.false_eq_true];exact Yg t e
   | _=>exact Yg (k:=k) t (by simpa only [exitTo] using e)
theorem K7 {id:Nat} {t:List Item} (ht:exitTo id t = none):∀ {k:List Item},exitTo id k = none->exitTo id (k ++ t) = none
 | [],_=>ht
 | y :: k, e => by
   cases y with
   | inBlock id' =>
     simp only [exitTo,List.cons_append] at e ⊢;split at e
     . cases e
     rename_i hc;simp only [hc,if_false,Bool.false_eq_true];exact K7 ht e
   | _=>exact K7 (k:=k) ht (by simpa only [exitTo] using e)
end
end
section
open Go.Conc
def cutO (h:Nat):Obj->Obj
 | .cells cs t fr=>.cells (cs.extract 0 h) t fr
 | o=>o
def zbq (d:Option (Nat × Nat)) (o:Obj):Obj:=match d with
 | some (_,h)=>cutO h o
 | none=>o
def cutW (G:Cfg) (w:World):World:={ w with heap:=w.heap.mapIdx fun i o=>zbq (G.dead i) o }
section
variable {P:Program} {G:Cfg} {w:World}
theorem X8 (G:Cfg) (w:World) (r:Nat):(cutW G w).heap[r]? = (w.heap[r]?).map (zbq (G.dead r)):=by simp [cutW,Array.getElem?_mapIdx]
theorem Xj {r:Nat} (h:G.dead r = none) (w:World):(cutW G w).heap[r]? = w.heap[r]?:=by
 rw [X8,h];cases w.heap[r]? <;> rfl
theorem zy (G:Cfg) (w:World):(cutW G w).heap.size = w.heap.size:=by simp [cutW]
theorem zmv (G:Cfg) (w:World):(cutW G w).drawn = w.drawn:=rfl
theorem zoj (G:Cfg) (w:World):(cutW G w).tape = w.tape:=rfl
theorem zis (G:Cfg) (w:World):(cutW G w).os = w.os:=rfl
theorem Kj (G:Cfg) (w:World):(cutW G w).output = w.output:=rfl
theorem zmt (G:Cfg) (w:World) (T:Nat->Question->Nat) (d:Nat):cutW G { w with tape:=T,drawn:=d } = { cutW G w with tape:=T,drawn:=d }:=rfl
theorem zba (G:Cfg) (w:World) (r:Nat):(cutW G w).heap[r]? = w.heap[r]?∨∃ cs t fr h,w.heap[r]? = some (.cells cs t fr)∧(cutW G w).heap[r]? = some (.cells (cs.extract 0 h) t fr):=by
 rw [X8];cases G.dead r with
 | none=>cases w.heap[r]? <;> exact .inl rfl
 | some x =>
   cases ho:w.heap[r]? with
   | none=>exact .inl rfl
   | some o=>cases o <;> first | exact .inl rfl | exact .inr ⟨_,_,_,x.2,rfl,rfl⟩
theorem zmw (h:∀ i,G.dead i = none) (w:World):cutW G w = w:=by
 have e:(cutW G w).heap = w.heap:=Array.ext_getElem? fun r=>Xj (h r) w;obtain ⟨a,b,c,d,e'⟩:=w;unfold cutW at e ⊢;simp only at e ⊢;rw [e]
theorem za9 (G:Cfg) (w:World) {r:Nat} (h:∀ c l hi,G.dead c = some (l,hi)->r ≠ c):(cutW G w).heap[r]? = w.heap[r]? :=
 Xj (by cases e:G.dead r with | none=>rfl | some x=>exact absurd rfl (h r x.1 x.2 e)) w
theorem Zs {a:Addr} {v:Value} (h:(cutW G w).cell? a = some v):w.cell? a = some v:=by
 unfold World.cell? at h ⊢;rcases zba G w a.block with e | ⟨cs,t,fr,hi,e1,e2⟩
 . rw [e] at h;exact h
 rw [e2] at h;rw [e1];simp only at h ⊢;split at h
 . cases h
 rename_i hs;rw [if_neg hs];rw [Array.getElem?_extract] at h;split at h
 . simpa using h
 cases h
theorem qy (a:Addr):(cutW G w).frozen? a = w.frozen? a:=by
 unfold World.frozen?;rcases zba G w a.block with e | ⟨cs,t,fr,hi,e1,e2⟩
 . rw [e]
 rw [e1,e2]
theorem zmu (r:Nat):((cutW G w).shape? r = none∧w.shape? r = none)∨∃ t n n',n ≤ n'∧(cutW G w).shape? r = some (t,n)∧w.shape? r = some (t,n'):=by
 unfold World.shape?;rcases zba G w r with e | ⟨cs,t,fr,hi,e1,e2⟩
 . rw [e];cases ho:w.heap[r]? with
   | none=>exact .inl ⟨rfl,rfl⟩
   | some o=>cases o <;> first | exact .inl ⟨rfl,rfl⟩ | exact .inr ⟨_,_,_,Nat.le_refl _,rfl,rfl⟩
 rw [e1,e2];exact .inr ⟨_,_,_,by simp;omega,rfl,rfl⟩
theorem Jk {α:Type} (xs:Array α) (i:Nat) (f:α->α) (g:Nat->α->α) (h:∀ x,g i (f x) = f (g i x)):(xs.modify i f).mapIdx g = (xs.mapIdx g).modify i f:=by
 apply Array.ext_getElem?;intro k;simp only [Array.getElem?_mapIdx,Array.getElem?_modify];by_cases h1:i = k
 . subst h1;simp only [if_true];cases xs[i]? with
   | none=>rfl
   | some x=>simp [h]
 simp only [if_neg h1]
theorem Xi (a:Addr) (v:Value):cutW G (w.setCell a v) = (cutW G w).setCell a v:=by
 unfold cutW World.setCell;simp only;congr 1;refine Jk _ _ _ _ fun x=>?_;cases G.dead a.block with
 | none=>rfl
 | some d =>
   cases x <;> first | rfl | skip
   simp only [zbq,cutO];split
   . rfl
   congr 1;apply Array.ext_getElem?;intro k;simp only [Array.getElem?_setIfInBounds,Array.getElem?_extract,Array.size_extract,Array.size_setIfInBounds];split <;> split <;> (try split) <;> (try rfl) <;> (first | omega | simp_all) <;> omega
theorem zcs (a:Addr) (n:Nat):cutW G (w.freeze a n) = (cutW G w).freeze a n:=by
 unfold cutW World.freeze;split
 . rfl
 simp only;congr 1;refine Jk _ _ _ _ fun x=>?_;cases G.dead a.block with
 | none=>rfl
 | some d=>cases x <;> rfl
theorem zd9 (hd:∀ c l h,G.dead c = some (l,h)->c < w.heap.size) (o:Obj):cutW G { w with heap:=w.heap.push o } = { cutW G w with heap:=(cutW G w).heap.push o }:=by
 have e:G.dead w.heap.size = none:=by
  cases e:G.dead w.heap.size with
  | none=>rfl
  | some x=>have:=hd _ x.1 x.2 e;omega
 unfold cutW;simp only;congr 1;rw [Array.mapIdx_push,e];rfl
theorem zpw (r:Nat) (o:Obj) (hr:∀ cs t fr,(cutW G w).heap[r]? ≠ some (.cells cs t fr)) (ho:∀ cs t fr,o ≠ .cells cs t fr):cutW G { w with heap:=w.heap.setIfInBounds r o } = { cutW G w with heap:=(cutW G w).heap.setIfInBounds r o }:=by
 unfold cutW;simp only;congr 1;apply Array.ext_getElem?;intro k;simp only [Array.getElem?_mapIdx,Array.getElem?_setIfInBounds,Array.size_mapIdx];have e2:zbq (G.dead r) o = o:=by
  unfold zbq;split
  . cases o <;> first | rfl | exact absurd rfl (ho _ _ _)
  rfl
 by_cases h2:r = k
 . subst h2;by_cases h3:r < w.heap.size <;> simp [h3,e2]
 simp [h2]
theorem zf6 (h:∀ c l hi,G.dead c = some (l,hi)->c < (cutW G w).heap.size):∀ c l hi,G.dead c = some (l,hi)->c < w.heap.size:=fun c l hi e=>by have:=h c l hi e;rwa [zy] at this
end
def Tail (G:Cfg) (w w':World):Prop:=∀ c l h,G.dead c = some (l,h)->∀ cs t fr,w.heap[c]? = some (.cells cs t fr)->∃ cs' fr',w'.heap[c]? = some (.cells cs' t fr')∧cs'.size = cs.size∧∀ j,h ≤ j->cs'[j]? = cs[j]?
theorem Tail.refl (G:Cfg) (w:World):Tail G w w:=fun c l h e cs t fr ho=>⟨cs,fr,ho,rfl,fun _ _=>rfl⟩
theorem Tail.trans {G:Cfg} {a b c:World} (h:Tail G a b) (k:Tail G b c):Tail G a c:=fun x l hi e cs t fr ho=>by
 obtain ⟨cs1,fr1,h1,h2,h3⟩:=h x l hi e cs t fr ho;obtain ⟨cs2,fr2,k1,k2,k3⟩:=k x l hi e cs1 t fr1 h1;exact ⟨cs2,fr2,k1,k2.trans h2,fun j hj=>(k3 j hj).trans (h3 j hj)⟩
theorem Tail.of_heap {G:Cfg} {w w':World} (h:∀ c l hi,G.dead c = some (l,hi)->w'.heap[c]? = w.heap[c]?):Tail G w w':=fun c l hi e cs t fr ho=>⟨cs,fr,(h c l hi e).trans ho,rfl,fun _ _=>rfl⟩
theorem Tail.setCell {G:Cfg} {w:World} {a:Addr} {x:Value} (v:Value) (h:(cutW G w).cell? a = some x):Tail G w (w.setCell a v):=by
 intro c l hi e cs t fr ho;by_cases hb:a.block = c
 . have hlt:a.spot.isSome = false∧a.off < hi:=by
    unfold World.cell? at h;rw [X8,hb,e,ho] at h;simp only [Option.map_some,zbq,cutO] at h;split at h
    . cases h
    rename_i hs;refine ⟨by simpa using hs, ?_⟩;rw [Array.getElem?_extract] at h;split at h
    . rename_i hlt;simp at hlt;omega
    cases h
   refine ⟨cs.setIfInBounds a.off v,fr, ?_,by simp,fun j hj=>?_⟩
   . show (w.heap.modify a.block _)[c]? = _;rw [Array.getElem?_modify,if_pos hb,ho];simp [hlt.1]
   rw [Array.getElem?_setIfInBounds_ne (by omega)]
 refine ⟨cs,fr, ?_,rfl,fun _ _=>rfl⟩;show (w.heap.modify a.block _)[c]? = _;rw [Array.getElem?_modify,if_neg hb,ho]
theorem Tail.freeze {G:Cfg} {w:World} (a:Addr) (n:Nat):Tail G w (w.freeze a n):=by
 intro c l hi e cs t fr ho;unfold World.freeze;split
 . exact ⟨cs,fr,ho,rfl,fun _ _=>rfl⟩
 show ∃ cs' fr',(w.heap.modify a.block _)[c]? = _∧_;rw [Array.getElem?_modify];split
 . rw [ho];exact ⟨cs,_,rfl,rfl,fun _ _=>rfl⟩
 exact ⟨cs,fr,ho,rfl,fun _ _=>rfl⟩
theorem Tail.same {G:Cfg} {w w':World} (h:Tail G w w') {r:Nat} (hc:(cutW G w').heap[r]? = (cutW G w).heap[r]?):w'.heap[r]? = w.heap[r]?:=by
 rw [X8,X8] at hc;cases hd:G.dead r with
 | none =>
   rw [hd] at hc;revert hc;cases w'.heap[r]? <;> cases w.heap[r]? <;> exact id
 | some x =>
   obtain ⟨l,hi⟩:=x;rw [hd] at hc;cases ho:w.heap[r]? with
   | none =>
     rw [ho] at hc;cases ho':w'.heap[r]? with
     | none=>rfl
     | some o=>rw [ho'] at hc;cases hc
   | some o =>
     rw [ho] at hc;by_cases hcs:∃ cs t fr,o = .cells cs t fr
     . obtain ⟨cs,t,fr,rfl⟩:=hcs;obtain ⟨cs',fr',h1,h2,h3⟩:=h r l hi hd cs t fr ho;rw [h1] at hc ⊢;simp only [Option.map_some,zbq,cutO,Option.some.injEq,Obj.cells.injEq] at hc;obtain ⟨e1,_,e3⟩:=hc;subst e3;congr 2;apply Array.ext_getElem?;intro j;rcases Nat.lt_or_ge j hi with hlt | hge
       . have:=congrArg (·[j]?) e1;simp only [Array.getElem?_extract] at this;by_cases hj:j < cs.size
         . rw [if_pos (by omega),if_pos (by omega)] at this
           simpa using this
         rw [Array.getElem?_eq_none (by omega),Array.getElem?_eq_none (by omega)]
       exact h3 j hge
     cases ho':w'.heap[r]? with
     | none=>rw [ho'] at hc;cases hc
     | some o' =>
       rw [ho'] at hc;simp only [Option.map_some,Option.some.injEq] at hc;have e1:zbq (some (l,hi)) o = o:=by cases o <;> first | rfl | exact absurd ⟨_,_,_,rfl⟩ hcs
       rw [e1] at hc;have e2:zbq (some (l,hi)) o' = o':=by
        cases o' <;> first | rfl | (simp only [zbq,cutO] at hc;exact absurd ⟨_,_,_,hc.symm⟩ hcs)
       rw [e2] at hc;rw [hc]
theorem Sem.Fr.cut {P:Program} {G:Cfg} {α:Type} {s:Sem α} {Q:(Nat->Prop)->α->Prop}:∀ {A:Nat->Prop} {w:World} {es:Array Event},Sem.Fr P G s A Q->HIn P G A (cutW G w) ->
 ∀ x w1 es1,s.runT P (cutW G w) es = (.ok x w1,es1)->∃ w',s.runT P w es = (.ok x w',es1)∧cutW G w' = w1∧Tail G w w':=by
 induction s with
 | pure a =>
   intro A w es h hw x w1 es1 hr;simp only [Sem.runT,Prod.mk.injEq,Result.ok.injEq] at hr;obtain ⟨⟨rfl,rfl⟩,rfl⟩:=hr;exact ⟨w,rfl,rfl, .refl G w⟩
 | load m a k ih =>
   intro A w es h hw x w1 es1 hr;cases hc:(cutW G w).cell? a with
   | some v =>
     simp only [Sem.runT,hc] at hr;simp only [Sem.runT,Zs hc];exact ih v (h.2 v (K8 hw h.1 hc)) hw x w1 es1 hr
   | none =>
     obtain ⟨s,hs⟩:=zml hw h.1.blk (m == .atomic);simp only [Sem.runT,hc,hs] at hr;cases hr
 | store m a v k ih =>
   intro A w es h hw x w1 es1 hr;have key:∀ w:World,(match w.cell? a with
    | some _ =>
      if w.frozen? a then (Result.halt (.unsupported (.unsafePointer "a write to bytes that a string shares")) w,es)
      else k.runT P (w.setCell a v) (es.push ⟨.cell a,true,m == .atomic⟩)
    | none => match w.farStore P a v (m == .atomic) with
      | .ok (w,touched)=>k.runT P w (es ++ touched.toArray.map (⟨.cell ·,true,m == .atomic⟩))
      | .error h=>(Result.halt h w,es)) = (Sem.store m a v k).runT P w es∨(∀ w:World,(Sem.store m a v k).runT P w es = (.halt (.stuck "store: not the value of one cell") w,es)):=by
    intro w;cases v <;> first | exact .inl rfl | exact .inr fun _=>rfl
   rcases key (cutW G w) with k1 | k1
   . rcases key w with k2 | k2
     . rw [← k1] at hr;rw [← k2];cases hc:(cutW G w).cell? a with
       | some x' =>
         rw [hc] at hr;simp only at hr;rw [Zs hc];simp only;rw [qy] at hr;by_cases hf:w.frozen? a = true
         . simp only [hf,if_true] at hr;cases hr
         simp only [hf,if_false,Bool.false_eq_true] at hr ⊢;rw [← Xi] at hr;obtain ⟨w',g1,g2,g3⟩:=ih (w:=w.setCell a v) h.2.2 (by rw [Xi];exact hw.setCell a h.2.1) x w1 es1 hr;exact ⟨w',g1,g2,(Tail.setCell v hc).trans g3⟩
       | none =>
         obtain ⟨s,hs⟩:=zd7 hw h.1 v (m == .atomic);rw [hc] at hr;simp only [hs] at hr;cases hr
     rw [k2] at hr;cases hr
   rw [k1] at hr;cases hr
 | new o k ih =>
   intro A w es h hw x w1 es1 hr;have hd:=zf6 hw.there;have e:=zd9 hd o;simp only [Sem.runT] at hr ⊢;rw [zy] at hr;rw [← e] at hr;have hp:=hw.push h.1;rw [← e,zy] at hp;obtain ⟨w',g1,g2,g3⟩:=ih w.heap.size (w:={ w with heap:=w.heap.push o }) (h.2 _ ⟨fun y=>Nat.lt_irrefl _ (by have:=hw.lt y;rwa [zy] at this),hw.zero _ (by rw [zy];exact Nat.le_refl _)⟩) hp x w1 es1 hr;exact ⟨w',g1,g2,(Tail.of_heap fun c l hi e=>getElem?_push_old _ _ (hd c l hi e)).trans g3⟩
 | shape r k ih =>
   intro A w es h hw x w1 es1 hr;simp only [Sem.runT] at hr ⊢;rcases zmu (G:=G) (w:=w) r with ⟨e1,e2⟩ | ⟨t,n,n',hn,e1,e2⟩
   . rw [e1] at hr;rw [e2];exact ih _ (h.1 _) hw x w1 es1 hr
   rw [e1] at hr;rw [e2];obtain ⟨w',h1,h2⟩:=ih _ (h.1 _) hw x w1 es1 hr;exact ⟨w',h.2 t n n' hn _ _ _ _ _ h1,h2⟩
 | freeze a n k ih =>
   intro A w es h hw x w1 es1 hr;simp only [Sem.runT] at hr ⊢;rw [← zcs] at hr;obtain ⟨w',g1,g2,g3⟩:=ih (w:=w.freeze a n) h.2 (by rw [zcs];exact hw.freeze a n) x w1 es1 hr;exact ⟨w',g1,g2,(Tail.freeze a n).trans g3⟩
 | frozen a k ih =>
   intro A w es h hw x w1 es1 hr;simp only [Sem.runT] at hr ⊢;rw [qy] at hr;exact ih _ (h _) hw x w1 es1 hr
 | getObj r k ih =>
   intro A w es h hw x w1 es1 hr;obtain ⟨o,ho,hin⟩:=hw.obj r h.1;have hreal:(∀ c e f,o ≠ .cells c e f)->w.heap[r]? = some o:=by
    intro hn;rcases zba G w r with e | ⟨cs,t,fr,hi,e1,e2⟩
    . rw [e] at ho;exact ho
    rw [e2] at ho;cases ho;exact absurd rfl (hn _ _ _)
   simp only [Sem.runT,ho] at hr;cases hin with
   | cells hc=>cases hr
   | map hm=>simp only [Sem.runT,hreal (by simp)];exact ih _ (h.2 _ (.map hm)) hw x w1 es1 hr
   | loop h1 h2 h3 h4 h5=>simp only [Sem.runT,hreal (by simp)];exact ih _ (h.2 _ (.loop h1 h2 h3 h4 h5)) hw x w1 es1 hr
   | deferred hd=>simp only [Sem.runT,hreal (by simp)];exact ih _ (h.2 _ (.deferred hd)) hw x w1 es1 hr
   | number ha=>simp only [Sem.runT,hreal (by simp)];exact ih _ (h.2 _ (.number ha)) hw x w1 es1 hr
 | setObj r o k ih =>
   intro A w es h hw x w1 es1 hr;obtain ⟨y,hy,hin⟩:=hw.obj r h.1;have hreal:(∀ c e f,y ≠ .cells c e f)->w.heap[r]? = some y:=by
    intro hn;rcases zba G w r with e | ⟨cs,t,fr,hi,e1,e2⟩
    . rw [e] at hy;exact hy
    rw [e2] at hy;cases hy;exact absurd rfl (hn _ _ _)
   have hne:(∀ c e f,y ≠ .cells c e f)->∀ cs t fr,(cutW G w).heap[r]? ≠ some (.cells cs t fr):=by
    intro hn cs t fr e;rw [hy] at e;cases e;exact hn _ _ _ rfl
   have ho:=h.2.2.1;simp only [Sem.runT,hy] at hr;have fin:(∀ c e f,y ≠ .cells c e f)->k.runT P { cutW G w with heap:=(cutW G w).heap.setIfInBounds r o } (es.push ⟨.obj r,true,o.isChan⟩) = (.ok x w1,es1)->∃ w',(Sem.setObj r o k).runT P w es = (.ok x w',es1)∧cutW G w' = w1∧Tail G w w':=by
    intro hn hr;have e:=zpw (G:=G) (w:=w) r o (hne hn) ho;rw [← e] at hr;have hp:=hw.set (r:=r) h.2.1;rw [← e] at hp;obtain ⟨w',h1,h2,h3⟩:=ih (w:={ w with heap:=w.heap.setIfInBounds r o }) h.2.2.2 hp x w1 es1 hr;have hyr:=hreal hn;refine ⟨w', ?_,h2,Tail.trans (fun c l hi e cs t fr ho=>?_) h3⟩
    rotate_left
    . by_cases hrc:r = c
      . subst hrc;rw [hyr] at ho;cases ho;exact absurd rfl (hn _ _ _)
      exact ⟨cs,fr,by show (w.heap.setIfInBounds r o)[c]? = _;rw [Array.getElem?_setIfInBounds_ne hrc];exact ho,rfl,fun _ _=>rfl⟩
    cases y <;> first | exact absurd rfl (hn _ _ _) | (simp only [Sem.runT,hyr];exact h1)
   cases hin with
   | cells hc=>cases hr
   | map _=>exact fin (by simp) hr
   | loop _ _ _ _ _=>exact fin (by simp) hr
   | deferred _=>exact fin (by simp) hr
   | number _=>exact fin (by simp) hr
 | choose q k ih =>
   intro A w es h hw x w1 es1 hr;simp only [Sem.runT] at hr ⊢;by_cases hq:q.forced = true
   . simp only [hq,if_true] at hr ⊢;exact ih _ (h _) hw x w1 es1 hr
   simp only [hq,if_false,Bool.false_eq_true] at hr ⊢;have hr':(k (q.cut ((cutW G w).tape (cutW G w).drawn q))).runT P { cutW G w with drawn:=(cutW G w).drawn + 1 } es = (.ok x w1,es1):=hr;have e:cutW G { w with drawn:=w.drawn + 1 } = { cutW G w with drawn:=(cutW G w).drawn + 1 }:=rfl;rw [← e,zmv,zoj] at hr';clear hr;have hr:=hr';exact ih _ (w:={ w with drawn:=w.drawn + 1 }) (h _) (by rw [e];exact hw.drew _) x w1 es1 hr
 | sys c k ih=>exact fun h _=>h.elim
 | program k ih=>exact fun {A w es} h hw x w1 es1 hr=>ih P h hw x w1 es1 hr
 | mark m k ih=>exact fun {A w es} h hw x w1 es1 hr=>ih h.2 hw x w1 es1 hr
 | halt h =>
   intro A w es _ hw x w1 es1 hr;cases hr
end
section
open Go.Conc
def SbE (es es':Array Event):Prop:=∀ e ∈ es',e ∈ es
theorem y7 (P:Program) (fn:FuncId) (es:Array Event):SbE es (seen P fn es):=by
 intro e he;dsimp only [seen] at he;rw [← Array.foldl_toList] at he;have key:∀ (f:Bool × Array Event->Event->Bool × Array Event),(∀ x y,∀ z ∈ (f x y).2,z ∈ x.2∨z = y)->∀ (l:List Event) (x:Bool × Array Event),∀ z ∈ (l.foldl f x).2,z ∈ x.2∨z ∈ l:=by
  intro f hf l
  induction l with
  | nil=>exact fun x z hz=>.inl hz
  | cons y l ih =>
    intro x z hz;rcases ih _ z hz with h | h
    . rcases hf x y z h with h | rfl
      . exact .inl h
      exact .inr List.mem_cons_self
    exact .inr (List.mem_cons_of_mem _ h)
 have hf:∀ (x:Bool × Array Event) (y:Event),∀ z ∈ ((fun (q,kept) e=>match e.loc with
  | .mark (.extern f)=>((P.funcs[f]?).any (·.norace),kept)
  | _=>(q,if q && !e.sync then kept else kept.push e):Bool × Array Event->Event->Bool × Array Event) x y).2,z ∈ x.2∨z = y:=by
  rintro ⟨q,kept⟩ y z hz;dsimp only at hz;split at hz
  . exact .inl hz
  dsimp only at hz;split at hz
  . exact .inl hz
  exact Array.mem_push.1 hz
 rcases key _ hf es.toList _ e he with h | h
 . simp at h
 exact Array.mem_toList_iff.1 h
theorem Zy {P:Program} {main:Bool} {fr:Frame} (cs:List Frame) (w:World) (h:fr.mode = .returning):stepG P main (gor fr cs) w = unwind P main fr cs none w:=by
 simp [stepG,gor,h]
def upon (P:Program) (fr:Frame) (inner:List Frame):Next->Frame × List Frame
 | .value v=>(fr.finish v,inner)
 | .skip=>(fr.finish undef,inner)
 | .enter f args=>(Frame.enter P f args .normal,fr :: inner)
 | .round l f tmps a b=>(Frame.round l f tmps a b .normal,fr :: inner)
 | _=>(fr,inner)
def Shaped:Next->Prop
 | .value _ | .skip | .enter .. | .round ..=>True
 | _=>False
def Qy (P:Program) (fr:Frame) (cs:List Frame):Next->Goroutine
 | .value v=>gor (fr.finish v) cs
 | .skip=>gor (fr.finish undef) cs
 | .enter f args=>gor (Frame.enter P f args .normal) (fr :: cs)
 | .round l f tmps a b=>gor (Frame.round l f tmps a b .normal) (fr :: cs)
 | _=>gor fr cs
theorem ziy {P:Program} {fr:Frame} {cs:List Frame} {s:Sem Next} {w w':World} {n:Next} (hk:fr.kind = .normal) (ht:∀ d wr re sv k,fr.todo ≠ .call d wr re sv :: k) (hr:s.run P w = .ok n w')
 (hn:Shaped n):∃ es',stepG.apply P true fr cs none s w = .go (Qy P fr cs n) w' es'∧SbE (s.runT P w #[]).2 es':=by
 have hk':(fr.kind == CallKind.early) = false:=by rw [hk];rfl
 have hkind:(match fr.todo with | .call _ true _ _ :: _=>CallKind.wrapped | _=>CallKind.normal) = .normal:=by
  split
  . rename_i e;exact absurd e (ht _ _ _ _ _)
  rfl
 refine ⟨seen P fr.fn (s.events P w #[]), ?_,by rw [Sem.runT_eq];exact y7 _ _ _⟩;unfold stepG.apply;simp only [Sem.runT_eq,hr,if_true,hk',hkind,Bool.false_eq_true,if_false];cases n <;> first | exact hn.elim | (simp [GStep.after,Qy,gor];done) | skip
 simp only [GStep.after,Qy,gor,Array.append_empty];congr 2;congr 1
theorem zhw {P:Program} {fr:Frame} {cs:List Frame} {s:Sem Next} {w w':World} {v:Value} (hk:fr.kind = .normal) (hr:s.run P w = .halt (.panic v) w') :
 ∃ es',stepG.apply P true fr cs none s w = .go (gor (fr.raise [{ v,recovered:=false }]) cs) w' es'∧SbE (s.runT P w #[]).2 es':=by
 have hk':(fr.kind == CallKind.early) = false:=by rw [hk];rfl
 refine ⟨seen P fr.fn (s.events P w #[]), ?_,by rw [Sem.runT_eq];exact y7 _ _ _⟩;unfold stepG.apply;simp [Sem.runT_eq,hr,hk',GStep.after,gor]
theorem zhx {P:Program} {fr:Frame} {cs:List Frame} {s:Sem Next} {w w':World} {h:Halt} (ho:zcg h) (hp:∀ v,h ≠ .panic v) (hr:s.run P w = .halt h w') :
 ∃ o w'' es',stepG.apply P true fr cs none s w = .ended o w'' es':=by
 unfold stepG.apply;cases h with
 | panic v=>exact absurd rfl (hp v)
 | stuck why=>simp [Sem.runT_eq,hr,GStep.after]
 | unsupported u=>cases u <;> first | exact ho.elim | simp [Sem.runT_eq,hr,GStep.after]
 | _=>exact ho.elim
section
variable {P:Program} {G:Cfg} {A:Nat->Prop}
structure St2 (P:Program) (G:Cfg) (A:Nat->Prop) (fr:Frame) (inner:List Frame):Prop where
 st:StIn P G A fr inner
 wait:∀ f ∈ inner,f.todo ≠ []
 last:∀ f,(fr :: inner).getLast? = some f->f.roundOf = none
theorem St2.mono {A':Nat->Prop} (h:∀ b,A b->A' b) {fr:Frame} {inner:List Frame} (hf:St2 P G A fr inner):St2 P G A' fr inner:=⟨hf.st.mono h,hf.wait,hf.last⟩
def zee (P:Program) (G:Cfg) (A:Nat->Prop) (k:List Item) (cs:List Frame) (inner:List Frame) (w':World) (g:GStep):Prop :=
 ∃ A' fr' ch es',g = .go (xo k cs fr' inner) w' es'∧fr'.mode = .panicking ch∧(∀ b,A b->A' b)∧HIn P G A' w'∧St2 P G A' fr' inner
def zi2 (P:Program) (G:Cfg) (A:Nat->Prop) (s:Sem (Frame × List Frame)) (k:List Item) (cs:List Frame) (fr:Frame) (inner:List Frame):Prop :=
 ∀ w x w1,HIn P G A (cutW G w)->s.run P (cutW G w) = .ok x w1->∃ w' es',(cutW G w' = w1∧Tail G w w')∧stepG P true (xo k cs fr inner) w = .go (xo k cs x.1 x.2) w' es'∧SbE (s.runT P (cutW G w) #[]).2 es'
def Yk (P:Program) (G:Cfg) (A:Nat->Prop) (fr:Frame) (inner:List Frame):Prop :=
 ∃ s : Sem (Frame × List Frame), Sem.Fr P G s A (fun A' x => (∀ b, A b -> A' b) ∧ St2 P G A' x.1 x.2) ∧ (∀ k cs w, HIn P G A w -> (∀ id, exitTo id k = none) ->
   match s.run P w with
   | .ok x w'=>∃ es',stepG P true (xo k cs fr inner) w = .go (xo k cs x.1 x.2) w' es'∧SbE (s.runT P w #[]).2 es'
   | .halt h w'=>zee P G A k cs inner w' (stepG P true (xo k cs fr inner) w)∨∃ o w'' es',stepG P true (xo k cs fr inner) w = .ended o w'' es') ∧
   ∀ k cs,(∀ id,exitTo id k = none)->zi2 P G A s k cs fr inner
theorem y6 {fr:Frame} {inner:List Frame} (s:Sem (Frame × List Frame)) (hfr:Sem.Fr P G s A (fun A' x=>(∀ b,A b->A' b)∧St2 P G A' x.1 x.2))
 (h:∀ k cs w,(∀ id,exitTo id k = none)->match s.run P w with
 | .ok x w'=>∃ es',stepG P true (xo k cs fr inner) w = .go (xo k cs x.1 x.2) w' es'∧SbE (s.runT P w #[]).2 es'
 | .halt _ w'=>HIn P G A w->zee P G A k cs inner w' (stepG P true (xo k cs fr inner) w)∨∃ o w'' es',stepG P true (xo k cs fr inner) w = .ended o w'' es'):Yk P G A fr inner:=by
 refine ⟨s,hfr,fun k cs w hw hk=>?_,fun k cs hk w x w1 hw hr=>?_⟩
 . have:=h k cs w hk;cases hr:s.run P w with
   | ok x w'=>rw [hr] at this;exact this
   | halt x w'=>rw [hr] at this;exact this hw
 obtain ⟨w',e1,e2⟩:=Sem.Fr.cut (es:=#[]) hfr hw x w1 _ (by rw [Sem.runT_eq,hr]);have e3:s.run P w = .ok x w':=by rw [Sem.runT_eq] at e1;exact congrArg Prod.fst e1
 have:=h k cs w hk;rw [e3] at this;obtain ⟨es',g1,g2⟩:=this;refine ⟨w',es',e2,g1,fun e he=>?_⟩;have:=g2 e he;rw [e1] at this;rw [Sem.runT_eq];exact this
theorem jv (k:List Item) (cs:List Frame) (fr:Frame) (inner:List Frame):∃ kk cc,(∀ f:Frame,xo k cs f inner = gor { f with todo:=f.todo ++ kk } cc)∧((∀ id,exitTo id k = none)->∀ id,exitTo id kk = none)∧(∀ f:Frame,addK k (f :: inner) ++ cs = { f with todo:=f.todo ++ kk } :: cc):=by
 cases inner with
 | nil=>exact ⟨k,cs,fun f=>rfl,fun h=>h,fun f=>rfl⟩
 | cons g r=>exact ⟨[],addK k (g :: r) ++ cs,fun f=>by simp [xo],fun _ id=>rfl,fun f=>by simp [addK]⟩
theorem zm3 {k:List Item} {f:Frame} {r:List Frame}:addK k (f :: r) ≠ []:=by
 cases r <;> simp [addK]
theorem Qz {fr:Frame} {inner:List Frame} (fr':Frame) (h:St2 P G A fr' inner)
 (hs:∀ kk cc w,(∀ id,exitTo id kk = none)->stepG P true (gor { fr with todo:=fr.todo ++ kk } cc) w = .go (gor { fr' with todo:=fr'.todo ++ kk } cc) w):Yk P G A fr inner:=by
 refine y6 (pure (fr',inner)) (zb ⟨fun _ z=>z,h⟩) fun k cs w hk=>?_;obtain ⟨kk,cc,h1,h2,_⟩:=jv k cs fr inner;refine ⟨#[], ?_,fun e he=>by simp at he⟩;rw [h1,h1];exact hs kk cc w (h2 hk)
theorem Kb {fr:Frame} {inner:List Frame} (hs:∀ kk cc w,(∀ id,exitTo id kk = none)->∃ o w'' es',stepG P true (gor { fr with todo:=fr.todo ++ kk } cc) w = .ended o w'' es'):Yk P G A fr inner:=by
 refine y6 (stuck "") trivial fun k cs w hk _=>.inr ?_;obtain ⟨kk,cc,h1,h2,_⟩:=jv k cs fr inner;rw [h1];exact hs kk cc w (h2 hk)
theorem K0 {fr fr':Frame} {inner:List Frame} (hr:fr'.roundOf = fr.roundOf) (h:∀ f,(fr :: inner).getLast? = some f->f.roundOf = none):∀ f,(fr' :: inner).getLast? = some f->f.roundOf = none:=by
 intro f hf;cases inner with
 | nil=>simp at hf;subst hf;rw [hr];exact h fr (by simp)
 | cons g r=>exact h f (by simpa using hf)
theorem Y3 {fr fr':Frame} {inner:List Frame} (h:∀ f,(fr :: inner).getLast? = some f->f.roundOf = none):∀ f,(fr' :: fr :: inner).getLast? = some f->f.roundOf = none:=fun f hf=>h f (by simpa using hf)
theorem Zq (fr:Frame) (v:Value):(fr.finish v).roundOf = fr.roundOf:=by unfold Frame.finish;split <;> rfl
theorem St2.top' {fr fr':Frame} {inner:List Frame} (h:St2 P G A fr inner) (h':FrIn P G A fr') (hr:fr'.roundOf = fr.roundOf):St2 P G A fr' inner :=
 ⟨⟨h',h.st.rest⟩,h.wait,K0 hr h.last⟩
theorem znn {l:Nat} {f:FuncId} {tmps:Array Value} {a b:Code} (hl:A l) (ht:∀ v ∈ tmps,VIn G A v) (ha:xn P G a = true) (hb:xn P G b = true):FrIn P G A (Frame.round l f tmps a b .normal):=by
 refine ⟨ht,fun x hx=>?_,fun d hd=>(by cases hd),rfl,fun l' e=>by cases e;exact hl⟩;simp only [Frame.round,List.mem_cons,List.not_mem_nil,or_false] at hx;rcases hx with rfl | rfl | rfl
 . exact ha
 . trivial
 exact hb
theorem zkp (hP:jc P G) {fr:Frame} {inner:List Frame} (h:St2 P G A fr inner) (hm:fr.mode = .run) (ht:fr.todo ≠ []) {A':Nat->Prop} (hA:∀ b,A b->A' b) {n:Next} (hn:NIn P G A' n):St2 P G A' (upon P fr inner n).1 (upon P fr inner n).2:=by
 have h':=h.mono hA;cases n <;> first | exact hn.elim | skip
 . exact h'.top' (h'.st.top.finish hn) (Zq _ _)
 . exact h'.top' (h'.st.top.finish (.tuple (by simp))) (Zq _ _)
 . refine ⟨⟨zip hP hn.1 hn.2,fun f hf=>?_⟩,fun f hf=>?_,Y3 h'.last⟩
   . rcases List.mem_cons.1 hf with rfl | hf
     . exact ⟨h'.st.top,hm⟩
     exact h'.st.rest f hf
   rcases List.mem_cons.1 hf with rfl | hf
   . exact ht
   exact h'.wait f hf
 refine ⟨⟨znn hn.1 hn.2.1 hn.2.2.1 hn.2.2.2,fun f hf=>?_⟩,fun f hf=>?_,Y3 h'.last⟩
 . rcases List.mem_cons.1 hf with rfl | hf
   . exact ⟨h'.st.top,hm⟩
   exact h'.st.rest f hf
 rcases List.mem_cons.1 hf with rfl | hf
 . exact ht
 exact h'.wait f hf
end
end
section
open Go.Conc
section
variable {P:Program} {G:Cfg} {A:Nat->Prop}
theorem zk8 {fr c:Frame} {r:List Frame} (h:St2 P G A fr (c :: r)) {A':Nat->Prop} (hA:∀ b,A b->A' b) {v:Value} (hv:VIn G A' v):St2 P G A' (c.finish v) r:=by
 have h':=h.mono hA;have hc:=h'.st.rest c (by simp);refine ⟨⟨hc.1.finish hv,fun f hf=>h'.st.rest f (by simp [hf])⟩,fun f hf=>h'.wait f (by simp [hf]),K0 (Zq c v) fun f hf=>h'.last f (by simpa using hf)⟩
theorem K9 {k:List Item} {cs:List Frame} {c:Frame} {r:List Frame} (hc:c.todo ≠ []) (v:Value):∃ c' r',addK k (c :: r) ++ cs = c' :: r'∧gor (c'.finish v) r' = xo k cs (c.finish v) r:=by
 obtain ⟨kk,cc,h1,_,h3⟩:=jv k cs c r;refine ⟨_,_,h3 c, ?_⟩;rw [h1,qx hc]
theorem jb {fr c:Frame} {r:List Frame} {v:Value} {w:World} (hk:fr.kind = .normal):doReturn P true fr (c :: r) none v w = .go (gor (c.finish v) r) w:=by
 simp [doReturn,hk,gor]
theorem zbg {fr c:Frame} {r:List Frame} {l:Nat} (h:St2 P G A fr (c :: r)) (hl:fr.roundOf = some l) (jump:Option Code) (hj:∀ x,jump = some x->xn P G x = true)
 (hs : ∀ k cs w, stepG P true (xo k cs fr (c :: r)) w = GStep.after (seen P fr.fn ((Instr.endRound l jump).runT P w #[]).2) (match ((Instr.endRound l jump).runT P w #[]).1 with
     | .ok v w=>doReturn P true fr (addK k (c :: r) ++ cs) none v w
     | .halt _ w=>.ended (.stuck "range over a function: no such loop" (fr.pos P)) w)):Yk P G A fr (c :: r):=by
 have hA:=h.st.top.round l hl;refine y6 (do let v ← Instr.endRound l jump;pure (c.finish v,r)) ?_ fun k cs w hk=>?_
 . refine za ?_;unfold Instr.endRound;refine za (qw hA fun x hx=>?_);obtain ⟨h1,h2,h3,_,h5⟩:=J5 hx;refine za (qe hA (.loop h1 h2 h3 hj h5) (zb (zb ⟨fun _ z=>z,zk8 h (fun _ z=>z) (.bool _)⟩)))
 have hw:=h.wait c (by simp);rw [Sem.run_bind];rw [hs,Sem.runT_eq];cases hr:(Instr.endRound l jump).run P w with
 | ok v w' =>
   obtain ⟨c',r',e1,e2⟩:=K9 (k:=k) (cs:=cs) (r:=r) hw v;refine ⟨seen P fr.fn ((Instr.endRound l jump).events P w #[]), ?_, ?_⟩
   . simp only [e1];rw [jb h.st.top.kind,e2];simp [GStep.after]
   intro e he;have:=y7 _ _ _ e he;rw [Sem.runT_eq];show e ∈ Sem.events P (Instr.endRound l jump >>= fun v=>pure (c.finish v,r)) w #[];rw [Sem.events_bind,hr];exact this
 | halt x w'=>exact fun _=>.inr ⟨_,_,_,rfl⟩
theorem zlu {fr:Frame} {inner:List Frame} (h:St2 P G A fr inner) (hr:fr.roundOf = none) (hs:∀ kk cc w,(∀ id,exitTo id kk = none)->stepG P true (gor { fr with todo:=fr.todo ++ kk } cc) w = .go (gor { fr with todo:=fr.todo ++ kk,mode:=.returning } cc) w):Yk P G A fr inner :=
 Qz { fr with mode:=.returning } (h.top' ⟨h.st.top.tmps,h.st.top.todo,h.st.top.defers,h.st.top.kind,h.st.top.round⟩ rfl) hs
theorem jf {fr:Frame} {inner:List Frame} (h:St2 P G A fr inner) (todo:List Item) (hi:∀ x ∈ todo,yr P G A x)
 (hs:∀ kk cc w,(∀ id,exitTo id kk = none)->stepG P true (gor { fr with todo:=fr.todo ++ kk } cc) w = .go (gor { fr with todo:=todo ++ kk } cc) w):Yk P G A fr inner :=
 Qz { fr with todo:=todo } (h.top' (h.st.top.todo' hi) rfl) hs
theorem qu {α β:Type} {s:Sem α} {f:α->Sem β} {w w1:World} {a:α} (h:s.run P w = .ok a w1):(s >>= f).run P w = (f a).run P w1:=by rw [Sem.run_bind,h];rfl
theorem yo {α β:Type} {s:Sem α} {f:α->Sem β} {w w1:World} {x:Halt} (h:s.run P w = .halt x w1):(s >>= f).run P w = .halt x w1:=by rw [Sem.run_bind,h];rfl
theorem Xk {α β:Type} {s:Sem α} {f:α->Sem β} {w w1:World} {a:α} (h:s.run P w = .ok a w1):((s >>= f).runT P w #[]).2 = (s.runT P w #[]).2 ++ ((f a).runT P w1 #[]).2:=by
 simp only [Sem.runT_eq];rw [Sem.events_bind,h];show Sem.events P (f a) w1 _ = _;rw [Sem.events_acc]
theorem Kt {α:Type} (a:α) (w:World):((pure a:Sem α).runT P w #[]).2 = #[]:=rfl
theorem zh8 {fr:Frame} (h:FrIn P G A fr) (ch:List PanicEntry):FrIn P G A (fr.raise ch):=by
 unfold Frame.raise;split <;> exact ⟨h.tmps,h.todo,h.defers,h.kind,h.round⟩
theorem ziz {fr:Frame} {inner:List Frame} (h:St2 P G A fr inner) (ht:fr.todo ≠ []) {s:Sem Next} {w w':World} {n:Next} (hsh:Shaped n) (hr:s.run P w = .ok n w')
 (k:List Item) (cs:List Frame) {kk:List Item} {cc:List Frame} (h1:∀ f:Frame,xo k cs f inner = gor { f with todo:=f.todo ++ kk } cc) (h3:∀ f:Frame,addK k (f :: inner) ++ cs = { f with todo:=f.todo ++ kk } :: cc) :
 ∃ es',stepG.apply P true { fr with todo:=fr.todo ++ kk } cc none s w = .go (xo k cs (upon P fr inner n).1 (upon P fr inner n).2) w' es'∧SbE (s.runT P w #[]).2 es':=by
 have hk':({ fr with todo:=fr.todo ++ kk }:Frame).kind = .normal:=h.st.top.kind;have hcall:∀ d wr re sv q,({ fr with todo:=fr.todo ++ kk }:Frame).todo ≠ .call d wr re sv :: q:=by
  intro d wr re sv q e;cases hft:fr.todo with
  | nil=>exact ht hft
  | cons x l =>
    simp only [hft,List.cons_append,List.cons.injEq] at e;have:=h.st.top.todo x (by simp [hft]);rw [e.1] at this;exact this
 obtain ⟨es',e1,e2⟩:=ziy (cs:=cc) hk' hcall hr hsh;refine ⟨es', ?_,e2⟩;rw [e1];cases n <;> first | exact hsh.elim | skip
 . simp only [Qy,upon];rw [h1,qx ht]
 . simp only [Qy,upon];rw [h1,qx ht]
 . simp only [Qy,upon,xo];rw [h3]
 simp only [Qy,upon,xo];rw [h3]
theorem ze0 {A':Nat->Prop} {n:Next} (h:NIn P G A' n):Shaped n:=by cases n <;> first | trivial | exact h
theorem zcu (hP:jc P G) {fr:Frame} {inner:List Frame} (h:St2 P G A fr inner) (ht:fr.todo ≠ []) {s:Sem Next} (hs:Sem.Fr P G s A (fun A' n=>(∀ b,A b->A' b)∧NIn P G A' n))
 {w:World} (hw:HIn P G A w) (k:List Item) (cs:List Frame) {kk:List Item} {cc:List Frame} (h1:∀ f:Frame,xo k cs f inner = gor { f with todo:=f.todo ++ kk } cc) (h3:∀ f:Frame,addK k (f :: inner) ++ cs = { f with todo:=f.todo ++ kk } :: cc) :
 match s.run P w with
 | .ok n w'=>∃ es',stepG.apply P true { fr with todo:=fr.todo ++ kk } cc none s w = .go (xo k cs (upon P fr inner n).1 (upon P fr inner n).2) w' es'∧SbE (s.runT P w #[]).2 es'
 | .halt x w'=>zee P G A k cs inner w' (stepG.apply P true { fr with todo:=fr.todo ++ kk } cc none s w)∨∃ o w'' es',stepG.apply P true { fr with todo:=fr.todo ++ kk } cc none s w = .ended o w'' es':=by
 have hk':({ fr with todo:=fr.todo ++ kk }:Frame).kind = .normal:=h.st.top.kind;have hcall:∀ d wr re sv q,({ fr with todo:=fr.todo ++ kk }:Frame).todo ≠ .call d wr re sv :: q:=by
  intro d wr re sv q e;cases hft:fr.todo with
  | nil=>exact ht hft
  | cons x l =>
    simp only [hft,List.cons_append,List.cons.injEq] at e;have:=h.st.top.todo x (by simp [hft]);rw [e.1] at this;exact this
 have hrun:=Sem.Fr.run (es:=#[]) hs hw;rw [Sem.runT_eq] at hrun;cases hr:s.run P w with
 | ok n w' =>
   rw [hr] at hrun;obtain ⟨A',_,_,⟨_,hn⟩,_⟩:=hrun;have hsh:Shaped n:=by cases n <;> first | trivial | exact hn
   obtain ⟨es',e1,e2⟩:=ziy (cs:=cc) hk' hcall hr hsh;refine ⟨es', ?_,e2⟩;rw [e1];cases n <;> first | exact hsh.elim | skip
   . simp only [Qy,upon];rw [h1,qx ht]
   . simp only [Qy,upon];rw [h1,qx ht]
   . simp only [Qy,upon,xo];rw [h3]
   simp only [Qy,upon,xo];rw [h3]
 | halt x w' =>
   rw [hr] at hrun;obtain ⟨ho,A',hkept,hw',_⟩:=hrun;by_cases hp:∃ v,x = .panic v
   . obtain ⟨v,rfl⟩:=hp;obtain ⟨es',e1,e2⟩:=zhw (cs:=cc) hk' hr;have hmode:∃ ch,(fr.raise [{ v,recovered:=false }]).mode = .panicking ch:=by cases hmo:fr.mode <;> exact ⟨_,by simp [Frame.raise,hmo];rfl⟩
     obtain ⟨ch,hch⟩:=hmode;refine .inl ⟨A',fr.raise [{ v,recovered:=false }],ch,es', ?_,hch,hkept.grow,hw',(h.mono hkept.grow).top' (zh8 (h.st.top.mono hkept.grow) _) (by cases hmo:fr.mode <;> simp [Frame.raise,hmo])⟩
     rw [e1,h1];cases hmo:fr.mode <;> simp [Frame.raise,hmo]
   obtain ⟨o,w'',es',e1⟩:=zhx (fr:={ fr with todo:=fr.todo ++ kk }) (cs:=cc) ho (fun v e=>hp ⟨v,e⟩) hr;exact .inr ⟨o,w'',es',e1⟩
theorem Q0 (hP:jc P G) {fr:Frame} {inner:List Frame} (h:St2 P G A fr inner) (hm:fr.mode = .run) (ht:fr.todo ≠ []) {s:Sem Next} (hs:Sem.Fr P G s A (fun A' n=>(∀ b,A b->A' b)∧NIn P G A' n))
 (he:∀ kk cc w,stepG P true (gor { fr with todo:=fr.todo ++ kk } cc) w = stepG.apply P true { fr with todo:=fr.todo ++ kk } cc none s w):Yk P G A fr inner:=by
 refine ⟨s >>= fun n=>pure (upon P fr inner n),za (hs.mono fun A' n _ hn=>zb ⟨hn.1,zkp hP h hm ht hn.1 hn.2⟩),fun k cs w hw hk=>?_,fun k cs hk w x w1 hw hr0=>?_⟩
 rotate_left
 . obtain ⟨kk,cc,h1,h2,h3⟩:=jv k cs fr inner;cases hr:s.run P (cutW G w) with
   | ok n w1' =>
     rw [qu hr] at hr0;cases hr0;obtain ⟨w',e1,e2⟩:=Sem.Fr.cut (es:=#[]) hs hw n _ _ (by rw [Sem.runT_eq,hr]);have e3:s.run P w = .ok n w':=by rw [Sem.runT_eq] at e1;exact congrArg Prod.fst e1
     have hrun:=Sem.Fr.run (es:=#[]) hs hw;rw [Sem.runT_eq,hr] at hrun;obtain ⟨A',_,_,⟨_,hn⟩,_⟩:=hrun;obtain ⟨es',g1,g2⟩:=ziz h ht (ze0 hn) e3 k cs h1 h3;refine ⟨w',es',e2,by rw [h1,he,g1],fun e hx=>?_⟩;rw [Xk hr,Kt,Array.append_empty];have:=g2 e hx;rw [e1] at this;rw [Sem.runT_eq];exact this
   | halt y w1'=>rw [yo hr] at hr0;cases hr0
 obtain ⟨kk,cc,h1,h2,h3⟩:=jv k cs fr inner;have hc:=zcu hP h ht hs hw k cs h1 h3;cases hr:s.run P w with
 | ok n w' =>
   rw [hr] at hc;obtain ⟨es',e1,e2⟩:=hc;rw [qu hr];refine ⟨es',by rw [h1,he,e1],fun e hx=>?_⟩;rw [Xk hr,Kt,Array.append_empty];exact e2 e hx
 | halt x w' =>
   rw [hr] at hc;rw [yo hr];rw [h1 fr,he];exact hc
theorem zkq (hP:jc P G) {fr:Frame} {inner:List Frame} {α:Type} {t:Sem α} (fr2:α->Frame) (s2:α->Sem Next) (hne:∀ x,(fr2 x).todo ≠ []) (hm:∀ x,(fr2 x).mode = .run)
 (hs:Sem.Fr P G t A (fun A' x=>(∀ b,A b->A' b)∧St2 P G A' (fr2 x) inner∧Sem.Fr P G (s2 x) A' (fun A'' n=>(∀ b,A' b->A'' b)∧NIn P G A'' n)))
 (he:∀ kk cc w,stepG P true (gor { fr with todo:=fr.todo ++ kk } cc) w = GStep.after (seen P fr.fn (t.runT P w #[]).2) (match (t.runT P w #[]).1 with
  | .ok x w=>stepG.apply P true { fr2 x with todo:=(fr2 x).todo ++ kk } cc none (s2 x) w
  | .halt _ w=>.ended (.stuck "range over a function: no such loop" (({ fr with todo:=fr.todo ++ kk }:Frame).pos P)) w)):Yk P G A fr inner:=by
 refine ⟨t >>= fun x=>s2 x >>= fun n=>pure (upon P (fr2 x) inner n),za (hs.mono fun A' x _ hx=>za (hx.2.2.mono fun A'' n _ hn=>zb ⟨fun b hb=>hn.1 b (hx.1 b hb),zkp hP hx.2.1 (hm x) (hne x) hn.1 hn.2⟩)),fun k cs w hw hk=>?_,fun k cs hk w x w1 hw hr0=>?_⟩
 rotate_left
 . obtain ⟨kk,cc,h1,h2,h3⟩:=jv k cs fr inner;cases hr:t.run P (cutW G w) with
   | ok y wy =>
     rw [qu hr] at hr0;obtain ⟨wy',e1,e2⟩:=Sem.Fr.cut (es:=#[]) hs hw y wy _ (by rw [Sem.runT_eq,hr]);have e3:t.run P w = .ok y wy':=by rw [Sem.runT_eq] at e1;exact congrArg Prod.fst e1
     have hrun:=Sem.Fr.run (es:=#[]) hs hw;rw [Sem.runT_eq,hr] at hrun;obtain ⟨A1,_,hw1,⟨_,hst,hs2⟩,_⟩:=hrun;rw [← e2.1] at hw1 hr0;cases hr2:(s2 y).run P (cutW G wy') with
     | ok n wn =>
       rw [qu hr2] at hr0;cases hr0;obtain ⟨w',f1,f2⟩:=Sem.Fr.cut (es:=#[]) hs2 hw1 n _ _ (by rw [Sem.runT_eq,hr2]);have f3:(s2 y).run P wy' = .ok n w':=by rw [Sem.runT_eq] at f1;exact congrArg Prod.fst f1
       have hrun:=Sem.Fr.run (es:=#[]) hs2 hw1;rw [Sem.runT_eq,hr2] at hrun;obtain ⟨A',_,_,⟨_,hn⟩,_⟩:=hrun;obtain ⟨es',g1,g2⟩:=ziz hst (hne y) (ze0 hn) f3 k cs h1 h3;refine ⟨w',seen P fr.fn (t.events P w #[]) ++ es',⟨f2.1,e2.2.trans f2.2⟩, ?_,fun e hx=>?_⟩
       . rw [h1 fr,he,Sem.runT_eq,e3];simp only [g1];rfl
       rw [Xk hr,← e2.1,Xk hr2,Kt,Array.append_empty];rcases Array.mem_append.1 hx with hx | hx
       . have h9:=y7 _ _ _ e hx;have:t.events P w #[] = (t.runT P (cutW G w) #[]).2:=by
          have:=congrArg Prod.snd e1;rw [Sem.runT_eq] at this;rw [Sem.runT_eq];exact this
         rw [this] at h9;exact Array.mem_append.2 (.inl h9)
       have h9:=g2 e hx;rw [f1] at h9;refine Array.mem_append.2 (.inr ?_);rw [Sem.runT_eq];exact h9
     | halt z wn=>rw [yo hr2] at hr0;cases hr0
   | halt y wy=>rw [yo hr] at hr0;cases hr0
 obtain ⟨kk,cc,h1,h2,h3⟩:=jv k cs fr inner;have hrun:=Sem.Fr.run (es:=#[]) hs hw;rw [h1 fr,he,Sem.runT_eq];rw [Sem.runT_eq] at hrun;cases hr:t.run P w with
 | ok x w1 =>
   rw [hr] at hrun;obtain ⟨A1,hk1,hw1,⟨hA1,hst,hs2⟩,_⟩:=hrun;have hc:=zcu hP hst (hne x) hs2 hw1 k cs h1 h3;rw [qu hr];cases hr2:(s2 x).run P w1 with
   | ok n w' =>
     rw [hr2] at hc;obtain ⟨es',e1,e2⟩:=hc;rw [qu hr2];refine ⟨seen P fr.fn (t.events P w #[]) ++ es',by simp only [e1];rfl,fun e hx=>?_⟩;rw [Xk hr,Xk hr2,Kt,Array.append_empty];rcases Array.mem_append.1 hx with hx | hx
     . exact Array.mem_append.2 (.inl (by rw [Sem.runT_eq];exact y7 _ _ _ e hx))
     exact Array.mem_append.2 (.inr (e2 e hx))
   | halt y w' =>
     rw [hr2] at hc;rw [yo hr2];rcases hc with ⟨A',fr',ch,es',e1,e2,e3,e4,e5⟩ | ⟨o,w'',es',e1⟩
     . exact .inl ⟨A',fr',ch,_,by simp only [e1];rfl,e2,fun b hb=>e3 b (hA1 b hb),e4,e5⟩
     exact .inr ⟨o,w'',_,by simp only [e1];rfl⟩
 | halt y w' =>
   rw [yo hr];exact .inr ⟨_,_,_,rfl⟩
end
end
section
open Go.Conc
section
variable {P:Program} {G:Cfg} {A:Nat->Prop}
def Jl (P:Program) (fr:Frame) (cc:List Frame) (jump:Option Code) (isRet:Bool) (w:World):GStep :=
 match fr.roundOf with
 | none=>if isRet then .go (gor { fr with mode:=.returning } cc) w else .ended (.stuck "exit, goto: no such block or label" (fr.pos P)) w
 | some l => GStep.after (seen P fr.fn ((Instr.endRound l jump).runT P w #[]).2) (match ((Instr.endRound l jump).runT P w #[]).1 with
   | .ok v w=>doReturn P true fr cc none v w
   | .halt _ w=>.ended (.stuck "range over a function: no such loop" (fr.pos P)) w)
theorem zaj {fr:Frame} (hr:fr.roundOf = none) (cc:List Frame) (jump:Option Code) (w:World):Jl P fr cc jump false w = .ended (.stuck "exit, goto: no such block or label" (fr.pos P)) w:=by simp [Jl,hr]
theorem Kq {fr:Frame} {inner:List Frame} (h:St2 P G A fr inner) (hne:fr.todo ≠ []∨inner ≠ []) (jump:Option Code) (isRet:Bool) (hj:∀ x,jump = some x->xn P G x = true)
 (hs:∀ kk cc w,(∀ id,exitTo id kk = none)->(fr.todo = []->kk = [])->stepG P true (gor { fr with todo:=fr.todo ++ kk } cc) w = Jl P { fr with todo:=fr.todo ++ kk } cc jump isRet w):Yk P G A fr inner:=by
 have hs0:∀ cc w,stepG P true (gor fr cc) w = Jl P fr cc jump isRet w:=fun cc w=>by
  have:=hs [] cc w (fun _=>rfl) (fun _=>rfl)
  simpa only [List.append_nil] using this
 have hret:FrIn P G A { fr with mode:=.returning }:=⟨h.st.top.tmps,h.st.top.todo,h.st.top.defers,h.st.top.kind,h.st.top.round⟩;cases hr:fr.roundOf with
 | none =>
   cases isRet with
   | true =>
     cases inner with
     | nil =>
       refine zlu h hr fun kk cc w hk=>?_;rw [hs kk cc w hk (fun e=>absurd e (hne.resolve_right (by simp)))];simp [Jl,hr]
     | cons c r =>
       refine y6 (pure ({ fr with mode:=.returning },c :: r)) (zb ⟨fun _ z=>z,h.top' hret rfl⟩) fun k cs w hk=>⟨#[], ?_,fun e he=>by simp at he⟩;show stepG P true (gor fr (addK k (c :: r) ++ cs)) w = _;rw [hs0];simp [Jl,hr,xo]
   | false =>
     cases inner with
     | nil =>
       refine Kb fun kk cc w hk=>?_;rw [hs kk cc w hk (fun e=>absurd e (hne.resolve_right (by simp)))];exact ⟨_,_,_,zaj (fr:={ fr with todo:=fr.todo ++ kk }) hr _ _ _⟩
     | cons c r =>
       refine y6 (stuck "") trivial fun k cs w hk _=>.inr ?_;show ∃ o w'' es',stepG P true (gor fr (addK k (c :: r) ++ cs)) w = .ended o w'' es';rw [hs0];exact ⟨_,_,_,zaj hr _ _ _⟩
 | some l =>
   cases inner with
   | nil=>exact absurd (h.last fr (by simp)) (by rw [hr];simp)
   | cons c r =>
     refine zbg h hr jump hj fun k cs w=>?_;show stepG P true (gor fr (addK k (c :: r) ++ cs)) w = _;rw [hs0];unfold Jl;rw [hr];all_goals rfl
theorem zfu {fn:FuncId} {tmps:Array Value} {ps:Array Tmp} {a b:Code} {ro:Option Nat} (ht:∀ v ∈ tmps,VIn G A v) (ha:xn P G a = true) (hb:xn P G b = true) (hro:∀ l,ro = some l->A l)
 {Q:(Nat->Prop)->Nat × List Deferred->Prop} (h:∀ (A':Nat->Prop) l ds,(∀ b,A b->A' b)->A' l->(∀ d ∈ ds,∃ r,d = { target:=.collected r,args:=#[] }∧A' r)->Q A' (l,ds)):Sem.Fr P G (Instr.enterLoop fn tmps ps a b ro) A Q:=by
 unfold Instr.enterLoop;cases ro with
 | some l =>
   refine za (qw (hro l rfl) fun x hx=>?_);obtain ⟨h1,h2,h3,h4,h5⟩:=J5 hx;refine za (zb ?_);refine za (zci (fun _=>.loop ht ha hb (fun c e=>by cases e) h5) fun r hr=>zb (h _ _ _ (fun _ z=>.inl z) (.inr rfl) (fun d hd=>by cases hd)))
 | none =>
   refine za (zci (fun _=>.deferred (fun ds e=>by cases e;rfl)) fun r hr=>?_);refine za (zb ?_);refine za (zci (fun _=>.loop (fun v hv=>(ht v hv).mono fun _ z=>.inl z) ha hb (fun c e=>by cases e) (.inr rfl)) fun q hq=>zb (h _ _ _ (fun _ z=>.inl (.inl z)) (.inr rfl) ?_));intro d hd;simp only [List.mem_singleton] at hd;exact ⟨r,hd, .inl (.inr rfl)⟩
theorem zek (hP:jc P G) {fr:Frame} {inner:List Frame} (h:St2 P G A fr inner) (hm:fr.mode = .run) (hne:fr.todo ≠ []∨inner ≠ []):Yk P G A fr inner:=by
 obtain ⟨fn,tmps,todo,defers,mode,kind,ro⟩:=fr;simp only at hm;subst hm;have hi:=h.st.top.todo;cases todo with
 | nil =>
   refine Kq h hne none true (fun x e=>by cases e) fun kk cc w hk hkk=>?_;rw [hkk rfl];cases ro <;> rfl
 | cons x l =>
   have hx:yr P G A x:=hi x (by simp);have hl:∀ y ∈ l,yr P G A y:=fun y hy=>hi y (by simp [hy]);have hcons:∀ y,yr P G A y->∀ z ∈ y :: l,yr P G A z:=fun y hy z hz=>(List.mem_cons.1 hz).elim (fun e=>e ▸ hy) (hl z);cases x with
   | code c =>
     cases c with
     | skip=>exact jf h l hl fun kk cc w _=>rfl
     | region id ops draw =>
       cases draw with
       | false=>exact jf h (.inRegion ops (List.range ops.size) :: l) (hcons _ hx) fun kk cc w _=>rfl
       | true =>
         refine y6 (choose (.order fn id) >>= fun t=>pure ({ fn:=fn,tmps:=tmps,todo:=.inRegion ops (Region.schedule (P.follows .mixedOrders) ops t) :: l,defers:=defers,mode:=.run,kind:=kind,roundOf:=ro },inner)) (za (j7 fun t=>zb ⟨fun _ z=>z,h.top' (h.st.top.todo' (hcons _ hx)) rfl⟩)) fun k cs w hk=>?_;obtain ⟨kk,cc,h1,h2,_⟩:=jv k cs { fn:=fn,tmps:=tmps,todo:=.code (.region id ops true) :: l,defers:=defers,mode:=.run,kind:=kind,roundOf:=ro } inner;refine ⟨#[], ?_,fun e he=>by simp at he⟩;rw [h1,h1];simp [stepG,stepG.exec,gor,choose,Sem.run,Question.forced,Sem.runT]
     | seq a b =>
       have hab:xn P G a = true∧xn P G b = true:=by simpa [yr,xn] using hx
       exact jf h (.code a :: .code b :: l) (fun z hz=>(List.mem_cons.1 hz).elim (fun e=>e ▸ hab.1) (hcons (.code b) hab.2 z)) fun kk cc w _=>rfl
     | cond c a b =>
       have hab:Z1 G c = true∧xn P G a = true∧xn P G b = true:=by simpa [yr,xn] using hx
       by_cases hb:∃ t,({ fn:=fn,tmps:=tmps,todo:=.code (.cond c a b) :: l,defers:=defers,mode:=.run,kind:=kind,roundOf:=ro }:Frame).eval c = .bool t
       . obtain ⟨t,hb⟩:=hb;refine jf h (.code (if t then a else b) :: l) (hcons (.code (if t then a else b)) (by cases t;exact hab.2.2;exact hab.2.1)) fun kk cc w _=>?_;have ev:({ fn:=fn,tmps:=tmps,todo:=.code (.cond c a b) :: (l ++ kk),defers:=defers,mode:=.run,kind:=kind,roundOf:=ro }:Frame).eval c = .bool t:=by cases c <;> exact hb
         simp [stepG,stepG.exec,gor,ev]
       refine Kb fun kk cc w _=>?_;have ev:({ fn:=fn,tmps:=tmps,todo:=.code (.cond c a b) :: (l ++ kk),defers:=defers,mode:=.run,kind:=kind,roundOf:=ro }:Frame).eval c = ({ fn:=fn,tmps:=tmps,todo:=.code (.cond c a b) :: l,defers:=defers,mode:=.run,kind:=kind,roundOf:=ro }:Frame).eval c:=by cases c <;> rfl
       simp only [stepG,stepG.exec,gor,List.cons_append,ev];split
       . rename_i t e;exact absurd ⟨t,e⟩ hb
       exact ⟨_,_,_,rfl⟩
     | block id b=>exact jf h (.code b :: .inBlock id :: l) (fun z hz=>(List.mem_cons.1 hz).elim (fun e=>e ▸ hx) (hcons (.inBlock id) trivial z)) fun kk cc w _=>rfl
     | loop b=>exact jf h (.code b :: .inLoop b :: l) (fun z hz=>(List.mem_cons.1 hz).elim (fun e=>e ▸ hx) (hcons (.inLoop b) hx z)) fun kk cc w _=>rfl
     | rangeFunc f ps a b =>
       have hab:Z1 G f = true∧xn P G a = true∧xn P G b = true:=by simpa [yr,xn] using hx
       refine zkq hP (t:=Instr.enterLoop fn tmps ps a b ro) (fun x=>{ fn:=fn,tmps:=tmps,todo:=.inRangeFunc x.1 :: l,defers:=x.2 ++ defers,mode:=.run,kind:=kind,roundOf:=ro })
        (fun x=>do let d ← resolve ({ fn:=fn,tmps:=tmps,todo:=.inRangeFunc x.1 :: l,defers:=x.2 ++ defers,mode:=.run,kind:=kind,roundOf:=ro }:Frame).eval { callee:=.value f,args:=#[.const (.func (.yield x.1) #[] #[])],argTypes:=#[] } 0;invoke d.target d.args) (fun _=>by simp) (fun _=>rfl) ?_ ?_
       . refine zfu h.st.top.tmps hab.2.1 hab.2.2 h.st.top.round fun A' q ds hA hq hds=>⟨hA, ?_, ?_⟩
         . refine (h.mono hA).top' ⟨(h.st.top.mono hA).tmps,fun z hz=>(List.mem_cons.1 hz).elim (fun e=>e ▸ hq) fun hz=>(hl z hz).mono hA,fun d hd=>?_,h.st.top.kind,(h.st.top.mono hA).round⟩ rfl;exact (List.mem_append.1 hd).elim (hds d) ((h.st.top.mono hA).defers d)
         have hfr:FrIn P G A' { fn:=fn,tmps:=tmps,todo:=.inRangeFunc q :: l,defers:=ds ++ defers,mode:=.run,kind:=kind,roundOf:=ro }:=⟨(h.st.top.mono hA).tmps,fun z hz=>(List.mem_cons.1 hz).elim (fun e=>e ▸ hq) fun hz=>(hl z hz).mono hA,fun d hd=>(List.mem_append.1 hd).elim (hds d) ((h.st.top.mono hA).defers d),h.st.top.kind,(h.st.top.mono hA).round⟩;unfold resolve;refine za (zch (zmo hfr f hab.1) (fun v hv=>?_) fun d hd hda=>zat hP hd hda fun A'' n h1 h2=>⟨h1,h2⟩);simp only [List.map_toArray,List.map_cons,List.map_nil,List.mem_toArray,List.mem_cons,List.not_mem_nil,or_false] at hv;subst hv;exact .yield hq (by simp) (by simp)
       intro kk cc w;show GStep.after _ _ = _;congr 1;cases (Sem.runT P (Instr.enterLoop fn tmps ps a b ro) w #[]).1 with
       | ok x w'=>obtain ⟨x1,x2⟩:=x;rfl
       | halt y w'=>rfl
     | exit id =>
       cases he:exitTo id l with
       | some k'=>exact jf h k' (za4 hl he) fun kk cc w _=>by simp [stepG,stepG.exec,gor,Yg kk he]
       | none =>
         refine Kq h hne (some (.exit id)) false (fun x e=>by cases e;rfl) fun kk cc w hk _=>?_;have e:=K7 (hk id) he;cases ro
         . simp [stepG,stepG.exec,gor,e,Jl]
         simp only [stepG,stepG.exec,gor,List.cons_append,e,Option.elim,Jl];rfl
     | ret =>
       refine Kq h hne (some .ret) true (fun x e=>by cases e;rfl) fun kk cc w _ _=>?_;cases ro <;> rfl
     | refuse why=>exact Kb fun kk cc w _=>⟨_,_,_,rfl⟩
     | _=>simp [yr,xn] at hx
   | inBlock id=>exact jf h l hl fun kk cc w _=>rfl
   | inLoop b=>exact jf h (.code b :: .inLoop b :: l) (fun z hz=>(List.mem_cons.1 hz).elim (fun e=>e ▸ hx) (hcons (.inLoop b) hx z)) fun kk cc w _=>rfl
   | inRegion ops td =>
     cases td with
     | nil=>exact jf h l hl fun kk cc w _=>rfl
     | cons i rest =>
       by_cases hw:((ops[i]?).map (Region.wanted · (yielded ops tmps))).getD false = true
       . cases ho:ops[i]? with
         | none=>simp [ho] at hw
         | some o =>
           have hok:opOk P G o.op = true:=Array.all_eq_true'.1 hx o (Array.mem_of_getElem? ho);refine Q0 hP h rfl (by simp) (zmd hP (zmo h.st.top) (fun x hx=>by unfold zn2 at hx;split at hx <;> first | rfl | cases hx) hok) fun kk cc w=>?_
           have ev:({ fn:=fn,tmps:=tmps,todo:=.inRegion ops (i :: rest) :: (l ++ kk),defers:=defers,mode:=.run,kind:=kind,roundOf:=ro }:Frame).eval = ({ fn:=fn,tmps:=tmps,todo:=.inRegion ops (i :: rest) :: l,defers:=defers,mode:=.run,kind:=kind,roundOf:=ro }:Frame).eval:=by funext c;cases c <;> rfl
           have hnd:∀ c,o.op ≠ .defer c:=by intro c e;rw [e] at hok;simp [opOk] at hok
           rw [ho] at hw;simp only [stepG,stepG.exec,gor,List.cons_append,ho,hw,if_true,stepG.oper,Frame.oper?];rw [ev];cases ro with
           | none=>rfl
           | some lo=>cases hop:o.op <;> first | rfl | exact absurd hop (hnd _)
       refine Qz _ (h.top' (h.st.top.finish (v:=undef) (.tuple (by simp))) (Zq _ _)) fun kk cc w _=>?_;rw [← qx (by simp)];simp only [stepG,stepG.exec,gor,List.cons_append,hw,if_false,Bool.false_eq_true]
   | inRangeFunc q=>exact Kb fun kk cc w _=>⟨_,_,_,rfl⟩
   | endRangeFunc q =>
     refine y6 (Instr.endLoop q >>= fun j=>pure ({ fn:=fn,tmps:=tmps,todo:=(j.map Item.code).toList ++ l,defers:=defers,mode:=.run,kind:=kind,roundOf:=ro },inner)) ?_ fun k cs w hk=>?_
     . refine za ?_;unfold Instr.endLoop;refine za (qw hx fun y hy=>?_);obtain ⟨h1,h2,h3,h4,h5⟩:=J5 hy;dsimp only;split
       . exact za (zm (by simp))
       refine za (qe hx (.loop h1 h2 h3 h4 h5) (zb (zb ⟨fun _ z=>z,h.top' (h.st.top.todo' fun z hz=>?_) rfl⟩)));rcases List.mem_append.1 hz with hz | hz
       . cases hp:y.pending with
         | none=>rw [hp] at hz;cases hz
         | some c=>rw [hp] at hz;simp at hz;subst hz;exact h4 c hp
       exact hl z hz
     obtain ⟨kk,cc,h1,h2,_⟩:=jv k cs { fn:=fn,tmps:=tmps,todo:=.endRangeFunc q :: l,defers:=defers,mode:=.run,kind:=kind,roundOf:=ro } inner;have hfl:Sem.Fr P G (Instr.endLoop q) A (fun A' j=>(∀ b,A b->A' b)∧True):=by
      unfold Instr.endLoop;refine za (qw hx fun y hy=>?_);obtain ⟨h1,h2,h3,h4,h5⟩:=J5 hy;dsimp only;split
      . exact za (zm (by simp))
      exact za (qe hx (.loop h1 h2 h3 h4 h5) (zb ⟨fun _ z=>z,trivial⟩))
     rw [h1];have est:stepG P true (gor { fn:=fn,tmps:=tmps,todo:=.endRangeFunc q :: l ++ kk,defers:=defers,mode:=.run,kind:=kind,roundOf:=ro } cc) w = GStep.after (seen P fn ((Instr.endLoop q).runT P w #[]).2) (match ((Instr.endLoop q).runT P w #[]).1 with
      | .ok jump w=>.go (gor { fn:=fn,tmps:=tmps,todo:=(jump.map Item.code).toList ++ (l ++ kk),defers:=defers,mode:=.run,kind:=kind,roundOf:=ro } cc) w
      | .halt (.panic v) w=>.go (gor (({ fn:=fn,tmps:=tmps,todo:=.endRangeFunc q :: (l ++ kk),defers:=defers,mode:=.run,kind:=kind,roundOf:=ro }:Frame).raise [{ v,recovered:=false }]) cc) w
      | .halt _ w=>.ended (.stuck "range over a function: no such loop" (({ fn:=fn,tmps:=tmps,todo:=.endRangeFunc q :: (l ++ kk),defers:=defers,mode:=.run,kind:=kind,roundOf:=ro }:Frame).pos P)) w):=rfl
     rw [est,Sem.runT_eq];cases hr:(Instr.endLoop q).run P w with
     | ok j w' =>
       rw [qu hr];refine ⟨seen P fn ((Instr.endLoop q).events P w #[]), ?_,fun e he=>?_⟩
       . simp only [h1,List.append_assoc];simp [GStep.after]
       rw [Xk hr,Kt,Array.append_empty,Sem.runT_eq];exact y7 _ _ _ e he
     | halt x w' =>
       rw [yo hr];intro hw;have hrun:=Sem.Fr.run (es:=#[]) hfl hw;rw [Sem.runT_eq,hr] at hrun;obtain ⟨_,A',hkept,hw',_⟩:=hrun;cases x with
       | panic v =>
         refine .inl ⟨A',({ fn:=fn,tmps:=tmps,todo:=.endRangeFunc q :: l,defers:=defers,mode:=.run,kind:=kind,roundOf:=ro }:Frame).raise [{ v,recovered:=false }],_,_,by rw [h1];rfl,rfl,hkept.grow,hw',(h.mono hkept.grow).top' (zh8 (h.st.top.mono hkept.grow) _) rfl⟩
       | _=>exact .inr ⟨_,_,_,rfl⟩
   | beginRound =>
     refine Q0 hP h rfl (by simp) (s:=do ro.elim (stuck "beginRound: no round") Instr.beginRound;pure .skip) ?_ fun kk cc w=>?_
     . refine za ?_;cases ro with
       | none=>exact zj
       | some q =>
         have hq:=h.st.top.round q rfl;simp only [Option.elim];unfold Instr.beginRound;refine za (qw hq fun y hy=>?_);obtain ⟨h1,h2,h3,h4,h5⟩:=J5 hy;refine za (qe hq (.loop h1 h2 h3 h4 h5) ?_);split
         . exact zb (zb ⟨fun _ z=>z,trivial⟩)
         . exact zm (by simp)
         . exact zm (by simp)
         exact zm (by simp)
     rfl
   | _=>exact hx.elim
end
end
section
open Go.Conc
section
variable {P:Program} {G:Cfg} {A:Nat->Prop}
theorem zj1 {α:Type} {f:α->Sem Value} {Q:(Nat->Prop)->Array Value->Prop} (xs:Array α) (hf:∀ x (Q':(Nat->Prop)->Value->Prop),(∀ y,VIn G A y->Q' A y)->Sem.Fr P G (f x) A Q') (h:∀ ys,(∀ y ∈ ys,VIn G A y)->Q A ys):Sem.Fr P G (xs.mapM f) A Q:=by
 rw [Array.mapM_eq_foldlM,← Array.foldlM_toList];have key:∀ (l:List α) (acc:Array Value),(∀ y ∈ acc,VIn G A y)->Sem.Fr P G (l.foldlM (fun acc a=>do let b ← f a;pure (acc.push b)) acc) A Q:=by
  intro l
  induction l with
  | nil=>exact fun acc ha=>zb (h _ ha)
  | cons x l ih=>exact fun acc ha=>za (za (hf x _ fun y hy=>zb (ih _ fun z hz=>(Array.mem_push.1 hz).elim (ha z) fun e=>e ▸ hy)))
 exact key _ _ (by simp)
theorem Ya {fn:Func} {tmps:Array Value} (ht:∀ v ∈ tmps,VIn G A v) {Q:(Nat->Prop)->Value->Prop} (h:∀ v,VIn G A v->Q A v):Sem.Fr P G (results fn tmps) A Q:=by
 have hg:∀ t,VIn G A (tmps.getD t undef):=by
  intro t;rw [Array.getD_eq_getD_getElem?];cases e:tmps[t]? with
  | none=>exact .tuple (by simp)
  | some v=>exact ht v (Array.mem_of_getElem? e)
 unfold results;refine za (zj1 _ (fun x Q' hq=>?_) fun ys hy=>zb (h _ ?_))
 . cases x with
   | tmp t=>exact zb (hq _ (hg t))
   | cell a t=>exact za (zfv (hg a) fun ad had=>zcj had hq)
 split
 . exact hy _ (Array.getElem_mem _)
 exact .tuple hy
theorem X2 {r:Nat} (hr:A r) {Q:(Nat->Prop)->List Deferred->Prop} (h:Q A []):Sem.Fr P G (Instr.takeDeferred r) A Q:=by
 unfold Instr.takeDeferred;refine za (Zc hr fun o ho=>?_);split
 . rename_i ds;have:ds = []:=by cases ho with | deferred hd=>exact hd ds rfl
   subst this;exact za (qe hr (.deferred (fun ds e=>by cases e)) (zb h))
 exact zj
theorem zkr {fr:Frame} {inner:List Frame} (h:St2 P G A fr inner) (hm:fr.mode = .returning) (hne:fr.defers ≠ []∨inner ≠ []):Yk P G A fr inner:=by
 obtain ⟨fn,tmps,todo,defers,mode,kind,ro⟩:=fr;simp only at hm;subst hm;have hkind:kind = .normal:=h.st.top.kind;subst hkind;cases defers with
 | cons d ds =>
   obtain ⟨q,rfl,hq⟩:=h.st.top.defers d (by simp);refine y6 (Instr.takeDeferred q >>= fun c=>pure ({ fn:=fn,tmps:=tmps,todo:=todo,defers:=c ++ ds,mode:=.returning,kind:=.normal,roundOf:=ro },inner)) (za (X2 hq (zb ⟨fun _ z=>z,h.top' ⟨h.st.top.tmps,h.st.top.todo,fun d hd=>h.st.top.defers d (by simp at hd ⊢;exact .inr hd),rfl,h.st.top.round⟩ rfl⟩))) fun k cs w hk=>?_;obtain ⟨kk,cc,h1,_,_⟩:=jv k cs { fn:=fn,tmps:=tmps,todo:=todo,defers:={ target:=.collected q,args:=#[] } :: ds,mode:=.returning,kind:=.normal,roundOf:=ro } inner;have est:stepG P true (gor { fn:=fn,tmps:=tmps,todo:=todo ++ kk,defers:={ target:=.collected q,args:=#[] } :: ds,mode:=.returning,kind:=.normal,roundOf:=ro } cc) w = GStep.after (seen P fn ((Instr.takeDeferred q).runT P w #[]).2) (match ((Instr.takeDeferred q).runT P w #[]).1 with
    | .ok calls w=>.go (gor { fn:=fn,tmps:=tmps,todo:=todo ++ kk,defers:=calls ++ ds,mode:=.returning,kind:=.normal,roundOf:=ro } cc) w
    | .halt _ w=>.ended (.stuck "the deferred calls of a range-over-func loop have been taken" (({ fn:=fn,tmps:=tmps,todo:=todo ++ kk,defers:={ target:=.collected q,args:=#[] } :: ds,mode:=.returning,kind:=.normal,roundOf:=ro }:Frame).pos P)) w):=by
    rw [Zy cc w rfl];rfl
   rw [h1,est,Sem.runT_eq];cases hr:(Instr.takeDeferred q).run P w with
   | ok c w' =>
     rw [qu hr];refine ⟨seen P fn ((Instr.takeDeferred q).events P w #[]), ?_,fun e he=>?_⟩
     . simp only [h1];simp [GStep.after]
     rw [Xk hr,Kt,Array.append_empty,Sem.runT_eq];exact y7 _ _ _ e he
   | halt x w' =>
     rw [yo hr];exact fun _=>.inr ⟨_,_,_,rfl⟩
 | nil =>
   cases inner with
   | nil=>simp at hne
   | cons c r =>
     have hw:=h.wait c (by simp);have hkey:∀ k cs w,stepG P true (xo k cs { fn:=fn,tmps:=tmps,todo:=todo,defers:=[],mode:=.returning,kind:=.normal,roundOf:=ro } (c :: r)) w = (match P.funcs[fn]? with
      | none=>doReturn P true { fn:=fn,tmps:=tmps,todo:=todo,defers:=[],mode:=.returning,kind:=.normal,roundOf:=ro } (addK k (c :: r) ++ cs) none (tmps.getD 0 undef) w
      | some f => GStep.after (seen P fn ((results f tmps).runT P w #[]).2) (match ((results f tmps).runT P w #[]).1 with
        | .ok v w=>doReturn P true { fn:=fn,tmps:=tmps,todo:=todo,defers:=[],mode:=.returning,kind:=.normal,roundOf:=ro } (addK k (c :: r) ++ cs) none v w
        | .halt (.stuck s) w=>.ended (.stuck s (({ fn:=fn,tmps:=tmps,todo:=todo,defers:=[],mode:=.returning,kind:=.normal,roundOf:=ro }:Frame).pos P)) w
        | .halt _ w=>.ended (.stuck "return: the result variables cannot be read" (({ fn:=fn,tmps:=tmps,todo:=todo,defers:=[],mode:=.returning,kind:=.normal,roundOf:=ro }:Frame).pos P)) w)):=by
      intro k cs w;show stepG P true (gor _ _) w = _;rw [Zy _ w rfl];rfl
     cases hf:P.funcs[fn]? with
     | none =>
       have hv:VIn G A (tmps.getD 0 undef):=by
        rw [Array.getD_eq_getD_getElem?];cases e:tmps[0]? with
        | none=>exact .tuple (by simp)
        | some v=>exact h.st.top.tmps v (Array.mem_of_getElem? e)
       refine y6 (pure (c.finish (tmps.getD 0 undef),r)) (zb ⟨fun _ z=>z,zk8 h (fun _ z=>z) hv⟩) fun k cs w hk=>?_;obtain ⟨c',r',e1,e2⟩:=K9 (k:=k) (cs:=cs) (r:=r) hw (tmps.getD 0 undef);refine ⟨#[], ?_,fun e he=>by simp at he⟩;rw [hkey,hf];simp only [e1];rw [jb rfl,e2]
     | some f =>
       refine y6 (results f tmps >>= fun v=>pure (c.finish v,r)) (za (Ya h.st.top.tmps fun v hv=>zb ⟨fun _ z=>z,zk8 h (fun _ z=>z) hv⟩)) fun k cs w hk=>?_;rw [hkey,hf];simp only [Sem.runT_eq];cases hr:(results f tmps).run P w with
       | ok v w' =>
         rw [qu hr];obtain ⟨c',r',e1,e2⟩:=K9 (k:=k) (cs:=cs) (r:=r) hw v;refine ⟨seen P fn ((results f tmps).events P w #[]), ?_,fun e he=>?_⟩
         . simp only [e1];rw [jb rfl,e2];simp [GStep.after]
         show e ∈ ((results f tmps >>= fun v=>pure (c.finish v,r)).runT P w #[]).2;rw [Xk hr,Kt,Array.append_empty,Sem.runT_eq];exact y7 _ _ _ e he
       | halt x w' =>
         rw [yo hr];refine fun _=>.inr ?_;cases x <;> exact ⟨_,_,_,rfl⟩
def trap:Frame:={ fn:=0,tmps:=#[],todo:=[.code (.refuse "")],defers:=[{ target:=.nil,args:=#[] }],mode:=.run,kind:=.normal }
def zem:List Item:=[.code (.refuse "")]
theorem zjd:∀ id,exitTo id zem = none:=fun _=>rfl
def Xv (g:Goroutine) (w:World):Machine:={ world:=w,gs:=#[g],rest:={ timers:=#[],alone:=none,slice:=none } }
theorem yd {fr fr':Frame} {cs cs':List Frame} {w w':World} {es:Array Event} (h:stepG P true (gor fr cs) w = .go (gor fr' cs') w' es):step P (Xv (gor fr cs) w) = .next (Xv (gor fr' cs') w') :=
 step_lone_go (by show (stepG P true (gor fr cs) w).bare = _;rw [h];rfl)
theorem kg {fr:Frame} {cs:List Frame} {w w':World} {o:Outcome} {es:Array Event} (h:stepG P true (gor fr cs) w = .ended o w' es):step P (Xv (gor fr cs) w) = .ended o w' :=
 step_lone_ended (by show (stepG P true (gor fr cs) w).bare = _;rw [h];rfl)
end
end
section
open Go.Conc
def tp0 (w:World) (T:Nat->Question->Nat) (d:Nat):World:={ w with tape:=T,drawn:=d }
theorem zqa (w:World) (T T':Nat->Question->Nat) (d d':Nat):tp0 (tp0 w T d) T' d' = tp0 w T' d':=rfl
theorem Xs (w:World):tp0 w w.tape w.drawn = w:=rfl
def Zl {α:Type}:Result α->World
 | .ok _ w=>w
 | .halt _ w=>w
def rtp {α:Type} (T:Nat->Question->Nat) (d:Nat):Result α->Result α
 | .ok a w=>.ok a (tp0 w T d)
 | .halt h w=>.halt h (tp0 w T d)
section
variable {P:Program} {G:Cfg} {α:Type}
theorem HIn.tp {A:Nat->Prop} {w:World} (h:HIn P G A w) (T:Nat->Question->Nat) (d:Nat):HIn P G A (tp0 w T d):=⟨h.obj,h.there⟩
theorem Sem.Fr.local {s:Sem α} {Q:(Nat->Prop)->α->Prop}:∀ {A:Nat->Prop} {w:World},Sem.Fr P G s A Q->HIn P G A w ->
 w.drawn ≤ (Zl (s.run P w)).drawn∧∀ T d,(∀ j q,j < (Zl (s.run P w)).drawn - w.drawn->T (d + j) q = w.tape (w.drawn + j) q) ->
  s.run P (tp0 w T d) = rtp T (d + ((Zl (s.run P w)).drawn - w.drawn)) (s.run P w):=by
 induction s with
 | pure a=>exact fun {A w} _ _=>⟨Nat.le_refl _,fun T d _=>by simp [Sem.run,rtp,Zl]⟩
 | load m a k ih =>
   intro A w h hw;cases hc:w.cell? a with
   | some v =>
     have e1:(Sem.load m a k).run P w = (k v).run P w:=by simp only [Sem.run,hc]
     have e2:∀ T d,(Sem.load m a k).run P (tp0 w T d) = (k v).run P (tp0 w T d):=fun T d=>by
      have:(tp0 w T d).cell? a = some v:=hc;simp only [Sem.run,this]
     rw [e1];refine ⟨(ih v (h.2 v (K8 hw h.1 hc)) hw).1,fun T d hT=>?_⟩;rw [e2];exact (ih v (h.2 v (K8 hw h.1 hc)) hw).2 T d hT
   | none =>
     obtain ⟨s,hs⟩:=zml hw h.1.blk (m == .atomic);have e1:(Sem.load m a k).run P w = .halt (.stuck s) w:=by simp only [Sem.run,hc,hs]
     have e2:∀ T d,(Sem.load m a k).run P (tp0 w T d) = .halt (.stuck s) (tp0 w T d):=fun T d=>by
      have h1:(tp0 w T d).cell? a = none:=hc;have h2:(tp0 w T d).farLoad P a (m == .atomic) = .error (.stuck s):=hs;simp only [Sem.run,h1,h2]
     rw [e1];exact ⟨Nat.le_refl _,fun T d _=>by rw [e2];simp [rtp,Zl]⟩
 | store m a v k ih =>
   intro A w h hw;by_cases hv:∃ cs,v = .agg cs∨v = .tuple cs
   . obtain ⟨cs,rfl | rfl⟩:=hv <;> exact ⟨Nat.le_refl _,fun T d _=>by simp [Sem.run,rtp,Zl]⟩
   have key:∀ w:World,(Sem.store m a v k).run P w = (match w.cell? a with
    | some _=>if w.frozen? a then .halt (.unsupported (.unsafePointer "a write to bytes that a string shares")) w else k.run P (w.setCell a v)
    | none => match w.farStore P a v (m == .atomic) with
      | .ok (w,_)=>k.run P w
      | .error h=>.halt h w):=fun w=>by
    cases v <;> first | rfl | exact absurd ⟨_, .inl rfl⟩ hv | exact absurd ⟨_, .inr rfl⟩ hv
   cases hc:w.cell? a with
   | some x =>
     by_cases hf:w.frozen? a = true
     . have e1:(Sem.store m a v k).run P w = .halt (.unsupported (.unsafePointer "a write to bytes that a string shares")) w:=by rw [key,hc];simp [hf]
       have e2:∀ T d,(Sem.store m a v k).run P (tp0 w T d) = .halt (.unsupported (.unsafePointer "a write to bytes that a string shares")) (tp0 w T d):=fun T d=>by
        have h1:(tp0 w T d).cell? a = some x:=hc;have h2:(tp0 w T d).frozen? a = true:=hf;rw [key,h1];simp [h2]
       rw [e1];exact ⟨Nat.le_refl _,fun T d _=>by rw [e2];simp [rtp,Zl]⟩
     have e1:(Sem.store m a v k).run P w = k.run P (w.setCell a v):=by rw [key,hc];simp [hf]
     have e2:∀ T d,(Sem.store m a v k).run P (tp0 w T d) = k.run P (tp0 (w.setCell a v) T d):=fun T d=>by
      have h1:(tp0 w T d).cell? a = some x:=hc;have h2:(tp0 w T d).frozen? a ≠ true:=hf;rw [key,h1];simp [h2];rfl
     have hi:=ih h.2.2 (hw.setCell a h.2.1);rw [e1];exact ⟨hi.1,fun T d hT=>by rw [e2];exact hi.2 T d hT⟩
   | none =>
     obtain ⟨s,hs⟩:=zd7 hw h.1 v (m == .atomic);have e1:(Sem.store m a v k).run P w = .halt (.stuck s) w:=by rw [key,hc];simp [hs]
     have e2:∀ T d,(Sem.store m a v k).run P (tp0 w T d) = .halt (.stuck s) (tp0 w T d):=fun T d=>by
      have h1:(tp0 w T d).cell? a = none:=hc;obtain ⟨s',hs'⟩:=zd7 (hw.tp T d) h.1 v (m == .atomic);have h2:(tp0 w T d).farStore P a v (m == .atomic) = .error (.stuck s):=by
       obtain ⟨o,ho,hin⟩:=hw.obj _ h.1;have ho':(tp0 w T d).heap[a.block]? = some o:=ho;unfold World.farStore World.noCell at hs ⊢;rw [ho] at hs;rw [ho'];cases hin <;> exact hs
      rw [key,h1];simp [h2]
     rw [e1];exact ⟨Nat.le_refl _,fun T d _=>by rw [e2];simp [rtp,Zl]⟩
 | new o k ih =>
   intro A w h hw;have hi:=ih w.heap.size (h.2 _ ⟨fun x=>Nat.lt_irrefl _ (hw.lt x),hw.zero _ nl⟩) (hw.push h.1);exact ⟨hi.1,fun T d hT=>hi.2 T d hT⟩
 | shape r k ih =>
   intro A w h hw;have hi:=ih (w.shape? r) (h.1 _) hw;exact ⟨hi.1,fun T d hT=>hi.2 T d hT⟩
 | freeze a n k ih =>
   intro A w h hw;have hi:=ih h.2 (hw.freeze a n);have hd:(w.freeze a n).drawn = w.drawn:=by unfold World.freeze;split <;> rfl
   have ht:(w.freeze a n).tape = w.tape:=by unfold World.freeze;split <;> rfl
   have hx:∀ T d,(tp0 w T d).freeze a n = tp0 (w.freeze a n) T d:=fun T d=>by unfold World.freeze;split <;> rfl
   refine ⟨by have:=hi.1;rw [hd] at this;exact this,fun T d hT=>?_⟩;show k.run P ((tp0 w T d).freeze a n) = _;rw [hx];have:=hi.2 T d (by rw [hd,ht];exact hT);rw [hd] at this;exact this
 | frozen a k ih =>
   intro A w h hw;have hi:=ih (w.frozen? a) (h _) hw;exact ⟨hi.1,fun T d hT=>hi.2 T d hT⟩
 | getObj r k ih =>
   intro A w h hw;obtain ⟨o,ho,hin⟩:=hw.obj r h.1;have go:∀ o',o = o'->(∀ c e f,o' ≠ .cells c e f)->(∀ w:World,w.heap[r]? = some o'->(Sem.getObj r k).run P w = (k o').run P w):=by
    intro o' _ hnc w hw';cases o' <;> first | (simp only [Sem.run,hw'];done) | exact absurd rfl (hnc _ _ _)
   cases hin with
   | cells hc =>
     rename_i c e fr;have e1:∀ w:World,w.heap[r]? = some (.cells c e fr)->(Sem.getObj r k).run P w = .halt (.stuck "getObj: a row of cells") w:=fun w e=>by simp only [Sem.run,e]
     rw [e1 w ho];exact ⟨Nat.le_refl _,fun T d _=>by rw [e1 (tp0 w T d) ho];simp [rtp,Zl]⟩
   | map hm =>
     rename_i es clock;have hi:=ih _ (h.2 _ (.map (clock:=clock) hm)) hw;have e:=go _ rfl (by simp);rw [e w ho];exact ⟨hi.1,fun T d hT=>by rw [e (tp0 w T d) ho];exact hi.2 T d hT⟩
   | loop h1 h2 h3 h4 h5 =>
     have hi:=ih _ (h.2 _ (.loop h1 h2 h3 h4 h5)) hw;have e:=go _ rfl (by simp);rw [e w ho];exact ⟨hi.1,fun T d hT=>by rw [e (tp0 w T d) ho];exact hi.2 T d hT⟩
   | deferred hd =>
     have hi:=ih _ (h.2 _ (.deferred hd)) hw;have e:=go _ rfl (by simp);rw [e w ho];exact ⟨hi.1,fun T d hT=>by rw [e (tp0 w T d) ho];exact hi.2 T d hT⟩
   | number ha =>
     rename_i a lost;have hi:=ih _ (h.2 _ (.number (lost:=lost) ha)) hw;have e:=go _ rfl (by simp);rw [e w ho];exact ⟨hi.1,fun T d hT=>by rw [e (tp0 w T d) ho];exact hi.2 T d hT⟩
 | setObj r o k ih =>
   intro A w h hw;obtain ⟨x,hx,hin⟩:=hw.obj r h.1;have hi:=ih h.2.2.2 (hw.set (r:=r) h.2.1);have go:∀ x',x = x'->(∀ c e f,x' ≠ .cells c e f)->(∀ w:World,w.heap[r]? = some x'->(Sem.setObj r o k).run P w = k.run P { w with heap:=w.heap.setIfInBounds r o }):=by
    intro x' _ hnc w hw';cases x' <;> first | (simp only [Sem.run,hw'];done) | exact absurd rfl (hnc _ _ _)
   cases hin with
   | cells hc =>
     rename_i c e fr;have e1:∀ w:World,w.heap[r]? = some (.cells c e fr)->(Sem.setObj r o k).run P w = .halt (.stuck "setObj: a row of cells") w:=fun w e=>by simp only [Sem.run,e]
     rw [e1 w hx];exact ⟨Nat.le_refl _,fun T d _=>by rw [e1 (tp0 w T d) hx];simp [rtp,Zl]⟩
   | map hm=>have e:=go _ rfl (by simp);rw [e w hx];exact ⟨hi.1,fun T d hT=>by rw [e (tp0 w T d) hx];exact hi.2 T d hT⟩
   | loop h1 h2 h3 h4 h5=>have e:=go _ rfl (by simp);rw [e w hx];exact ⟨hi.1,fun T d hT=>by rw [e (tp0 w T d) hx];exact hi.2 T d hT⟩
   | deferred hd=>have e:=go _ rfl (by simp);rw [e w hx];exact ⟨hi.1,fun T d hT=>by rw [e (tp0 w T d) hx];exact hi.2 T d hT⟩
   | number ha=>have e:=go _ rfl (by simp);rw [e w hx];exact ⟨hi.1,fun T d hT=>by rw [e (tp0 w T d) hx];exact hi.2 T d hT⟩
 | choose q k ih =>
   intro A w h hw;by_cases hq:q.forced = true
   . have e1:∀ w:World,(Sem.choose q k).run P w = (k 0).run P w:=fun w=>by simp only [Sem.run,hq,if_true]
     have hi:=ih 0 (h _) hw;rw [e1];exact ⟨hi.1,fun T d hT=>by rw [e1];exact hi.2 T d hT⟩
   have e1:∀ w:World,(Sem.choose q k).run P w = (k (q.cut (w.tape w.drawn q))).run P { w with drawn:=w.drawn + 1 }:=fun w=>by simp only [Sem.run,hq,if_false,Bool.false_eq_true]
   have hi:=ih (q.cut (w.tape w.drawn q)) (h _) (hw.drew (w.drawn + 1));have hle:w.drawn + 1 ≤ (Zl ((k (q.cut (w.tape w.drawn q))).run P { w with drawn:=w.drawn + 1 })).drawn:=hi.1;rw [e1];refine ⟨by omega,fun T d hT=>?_⟩;have h0:=hT 0 q (by omega);simp only [Nat.add_zero] at h0;rw [e1];show (k (q.cut (T d q))).run P (tp0 { w with drawn:=w.drawn + 1 } T (d + 1)) = _;rw [h0];have:=hi.2 T (d + 1) (fun j q' hj=>by
    have:=hT (j + 1) q' (by show j + 1 < _ - w.drawn;have:j < _ - (w.drawn + 1):=hj;omega);rw [show d + 1 + j = d + (j + 1) by omega];rw [this];show _ = w.tape (w.drawn + 1 + j) q';rw [show w.drawn + (j + 1) = w.drawn + 1 + j by omega])
   rw [this];congr 1;show d + 1 + (_ - (w.drawn + 1)) = d + (_ - w.drawn);omega
 | sys c k ih=>exact fun h _=>h.elim
 | program k ih=>exact fun {A w} h hw=>ih P h hw
 | mark m k ih=>exact fun {A w} h hw=>ih h.2 hw
 | halt h=>exact fun {A w} _ _=>⟨Nat.le_refl _,fun T d _=>by simp [Sem.run,rtp,Zl]⟩
end
end
section
open Go.Conc
section
variable {P:Program} {G:Cfg}
def kOf (b:Bool):List Item:=if b then zem else []
def LM (b:Bool) (fr:Frame) (inner:List Frame) (w:World):Machine:=Xv (xo (kOf b) [trap] fr inner) w
def yp (b:Bool) (fr:Frame):Prop:=(fr.mode = .returning∧fr.defers = [])∨(b = true∧fr.mode = .run∧fr.todo = [])
theorem Xx (k:List Item) (cs:List Frame) (fr:Frame) (inner:List Frame):∃ f c,xo k cs fr inner = gor f c∧f.mode = fr.mode:=by
 obtain ⟨kk,cc,h1,_,_⟩:=jv k cs fr inner;exact ⟨_,_,h1 fr,rfl⟩
theorem zke {b:Bool} {fr fr':Frame} {inner inner':List Frame} {w w':World} {es:Array Event} (h:stepG P true (xo (kOf b) [trap] fr inner) w = .go (xo (kOf b) [trap] fr' inner') w' es):step P (LM b fr inner w) = .next (LM b fr' inner' w'):=by
 obtain ⟨f,c,e,_⟩:=Xx (kOf b) [trap] fr inner;obtain ⟨f',c',e',_⟩:=Xx (kOf b) [trap] fr' inner';unfold LM;rw [e,e'] at h ⊢;exact yd h
theorem Qu {b:Bool} {fr:Frame} {inner:List Frame} {w w':World} {o:Outcome} {es:Array Event} (h:stepG P true (xo (kOf b) [trap] fr inner) w = .ended o w' es):step P (LM b fr inner w) = .ended o w':=by
 obtain ⟨f,c,e,_⟩:=Xx (kOf b) [trap] fr inner;unfold LM;rw [e] at h ⊢;exact kg h
theorem Q3 {main:Bool} {fr:Frame} {ch:List PanicEntry} (cs:List Frame) (w:World) (h:fr.mode = .panicking ch):stepG P main (gor fr cs) w = unwind P main fr cs none w:=by
 simp [stepG,gor,h]
theorem jg {n:Nat} {m m':Machine} {o:Outcome} {w:World} (h:step P m = .ended o w) (hr:runN P (n + 1) m = .next m'):False:=by
 simp only [runN,h] at hr;cases hr
theorem j4 {n:Nat} {m m1:Machine} {r:Stepped} (h:step P m = .next m1) (hr:runN P (n + 1) m = r):runN P n m1 = r:=by
 simp only [runN,h] at hr;exact hr
theorem zi3 {b:Bool} {fr fr':Frame} {inner:List Frame} {w w':World} (h:LM b fr inner w = LM b fr' [] w'):inner = []∧fr = fr'∧w = w':=by
 have hw:w = w':=congrArg Machine.world h;have hg:xo (kOf b) [trap] fr inner = xo (kOf b) [trap] fr' []:=by
  have:=congrArg Machine.gs h
  simpa [LM,Xv] using this
 cases inner with
 | nil =>
   refine ⟨rfl, ?_,hw⟩;have hf:({ fr with todo:=fr.todo ++ kOf b }:Frame) = { fr' with todo:=fr'.todo ++ kOf b }:=congrArg Goroutine.frame hg;obtain ⟨a,b,c,d,e,f,g⟩:=fr;obtain ⟨a',b',c',d',e',f',g'⟩:=fr';simp only [Frame.mk.injEq] at hf ⊢;obtain ⟨h1,h2,h3,h4,h5,h6,h7⟩:=hf;exact ⟨h1,h2,List.append_cancel_right h3,h4,h5,h6,h7⟩
 | cons g r =>
   have hc:addK (kOf b) (g :: r) ++ [trap] = [trap]:=congrArg Goroutine.callers hg;have:addK (kOf b) (g :: r) = []:=List.append_left_eq_self.1 hc;exact absurd this zm3
theorem zeq (w:World):∃ o,step P (Xv (gor trap []) w) = .ended o w:=⟨_,kg (es:=#[]) rfl⟩
theorem Z5 (v:Value):trap.finish v = trap:=rfl
theorem Yp {b:Bool} {fr fr':Frame} {w w':World} {n:Nat} (hs:yp b fr) (hk:fr.kind = .normal) (hr:fr.roundOf = none) (h:runN P n (LM b fr [] w) = .next (LM b fr' [] w')):n = 0∧fr = fr'∧w = w':=by
 cases n with
 | zero =>
   simp only [runN,Stepped.next.injEq] at h;obtain ⟨_,h1,h2⟩:=zi3 h;exact ⟨rfl,h1,h2⟩
 | succ n =>
   exfalso;obtain ⟨fn,tmps,todo,defers,mode,kind,ro⟩:=fr;simp only at hk hr;subst hk;subst hr;rcases hs with ⟨h1,h2⟩ | ⟨h1,h2⟩
   . simp only at h1 h2;subst h1;subst h2
     -- it returns to the trap
     have hback:∀ (v:Value) (w1:World),step P (LM b { fn:=fn,tmps:=tmps,todo:=todo,defers:=[],mode:=.returning,kind:=.normal,roundOf:=none } [] w) = .next (Xv (gor trap []) w1)->False:=by
      intro v w1 hst;have h':=j4 hst h;cases n with
      | zero =>
        simp only [runN,Stepped.next.injEq] at h';have hg:=congrArg (fun m:Machine=>(m.gs[0]?).map Goroutine.callers) h';simp [LM,Xv,xo,gor] at hg
      | succ n=>exact (zeq w1).elim fun _ e=>jg e h'
     have hkey:stepG P true (gor { fn:=fn,tmps:=tmps,todo:=todo ++ kOf b,defers:=[],mode:=.returning,kind:=.normal,roundOf:=none } [trap]) w = (match P.funcs[fn]? with
      | none=>doReturn P true { fn:=fn,tmps:=tmps,todo:=todo ++ kOf b,defers:=[],mode:=.returning,kind:=.normal,roundOf:=none } [trap] none (tmps.getD 0 undef) w
      | some f => GStep.after (seen P fn ((results f tmps).runT P w #[]).2) (match ((results f tmps).runT P w #[]).1 with
        | .ok v w=>doReturn P true { fn:=fn,tmps:=tmps,todo:=todo ++ kOf b,defers:=[],mode:=.returning,kind:=.normal,roundOf:=none } [trap] none v w
        | .halt (.stuck s) w=>.ended (.stuck s (({ fn:=fn,tmps:=tmps,todo:=todo ++ kOf b,defers:=[],mode:=.returning,kind:=.normal,roundOf:=none }:Frame).pos P)) w
        | .halt _ w=>.ended (.stuck "return: the result variables cannot be read" (({ fn:=fn,tmps:=tmps,todo:=todo ++ kOf b,defers:=[],mode:=.returning,kind:=.normal,roundOf:=none }:Frame).pos P)) w)):=by
      rw [Zy _ w rfl];rfl
     cases hf:P.funcs[fn]? with
     | none =>
       rw [hf] at hkey;simp only at hkey;rw [jb rfl,Z5] at hkey;exact hback (tmps.getD 0 undef) w (yd hkey)
     | some f =>
       rw [hf] at hkey;simp only [Sem.runT_eq] at hkey;cases hr:(results f tmps).run P w with
       | ok v w1 =>
         rw [hr] at hkey;simp only at hkey;rw [jb rfl,Z5] at hkey;exact hback v w1 (yd hkey)
       | halt x w1 =>
         rw [hr] at hkey;have:∃ o w2 es,stepG P true (gor { fn:=fn,tmps:=tmps,todo:=todo ++ kOf b,defers:=[],mode:=.returning,kind:=.normal,roundOf:=none } [trap]) w = .ended o w2 es:=by
          rw [hkey];cases x <;> exact ⟨_,_,_,rfl⟩
         obtain ⟨o,w2,es,e⟩:=this;exact jg (kg e) h
   obtain ⟨h2,h3⟩:=h2;simp only at h2 h3;subst h1;subst h2;subst h3;exact jg (kg (es:=#[]) rfl) h
theorem Z0 {b:Bool}:∀ (n:Nat) {fr:Frame} {inner:List Frame} {A:Nat->Prop} {w:World} {ch:List PanicEntry} {m:Machine},St2 P G A fr inner->HIn P G A w->fr.mode = .panicking ch->runN P n (LM b fr inner w) = .next m ->
 ∃ f c w' ch',m = Xv (gor f c) w'∧f.mode = .panicking ch'
 | 0, fr, inner, A, w, ch, m, _, _, hm, h => by
   simp only [runN,Stepped.next.injEq] at h;obtain ⟨f,c,e,em⟩:=Xx (kOf b) [trap] fr inner;exact ⟨f,c,w,ch,by rw [← h,LM,e],by rw [em,hm]⟩
 | n + 1, fr, inner, A, w, ch, m, hst, hw, hm, h => by
   obtain ⟨fn,tmps,todo,defers,mode,kind,ro⟩:=fr;simp only at hm;subst hm;have hkind:kind = .normal:=hst.st.top.kind;subst hkind;obtain ⟨kk,cc,h1,_,h3⟩:=jv (kOf b) [trap] { fn:=fn,tmps:=tmps,todo:=todo,defers:=defers,mode:=.panicking ch,kind:=.normal,roundOf:=ro } inner;cases defers with
   | cons d ds =>
     obtain ⟨q,rfl,hq⟩:=hst.st.top.defers d (by simp);have est:stepG P true (gor { fn:=fn,tmps:=tmps,todo:=todo ++ kk,defers:={ target:=.collected q,args:=#[] } :: ds,mode:=.panicking ch,kind:=.normal,roundOf:=ro } cc) w = GStep.after (seen P fn ((Instr.takeDeferred q).runT P w #[]).2) (match ((Instr.takeDeferred q).runT P w #[]).1 with
      | .ok calls w=>.go (gor { fn:=fn,tmps:=tmps,todo:=todo ++ kk,defers:=calls ++ ds,mode:=.panicking ch,kind:=.normal,roundOf:=ro } cc) w
      | .halt _ w=>.ended (.stuck "the deferred calls of a range-over-func loop have been taken" (({ fn:=fn,tmps:=tmps,todo:=todo ++ kk,defers:={ target:=.collected q,args:=#[] } :: ds,mode:=.panicking ch,kind:=.normal,roundOf:=ro }:Frame).pos P)) w):=rfl
     have hfl:Sem.Fr P G (Instr.takeDeferred q) A (fun A' c=>(∀ b,A b->A' b)∧c = []):=X2 hq ⟨fun _ z=>z,rfl⟩;have hrun:=Sem.Fr.run (es:=#[]) hfl hw;rw [Sem.runT_eq] at hrun est;cases hr:(Instr.takeDeferred q).run P w with
     | ok c w' =>
       rw [hr] at hrun est;obtain ⟨A',hk,hw',⟨hA,rfl⟩,_⟩:=hrun;have hst':St2 P G A' { fn:=fn,tmps:=tmps,todo:=todo,defers:=ds,mode:=.panicking ch,kind:=.normal,roundOf:=ro } inner:=by
        have:=hst.mono hA;exact this.top' ⟨this.st.top.tmps,this.st.top.todo,fun d hd=>this.st.top.defers d (by simp at hd ⊢;exact .inr hd),rfl,this.st.top.round⟩ rfl
       refine Z0 n hst' hw' rfl (j4 (zke (es:=seen P fn (Sem.events P (Instr.takeDeferred q) w #[]) ++ #[]) ?_) h);rw [h1,h1];exact est
     | halt x w' =>
       rw [hr] at est;exact (jg (Qu (by rw [h1];exact est)) h).elim
   | nil =>
     by_cases hcat:({ fn:=fn,tmps:=tmps,todo:=todo ++ kk,defers:=[],mode:=.panicking ch,kind:=.normal,roundOf:=ro }:Frame).catches P = true
     . refine (jg (Qu (es:=#[]) (w':=w) (o:=.unsupported (.noEntry "a panic or Goexit out of a method that fmt calls behind a cut's door") (({ fn:=fn,tmps:=tmps,todo:=todo ++ kk,defers:=[],mode:=.panicking ch,kind:=.normal,roundOf:=ro }:Frame).pos P)) ?_) h).elim;rw [h1];rw [Q3 (ch:=ch) _ _ rfl];unfold unwind;simp only [hcat,if_true]
     cases inner with
     | nil =>
       have est:stepG P true (xo (kOf b) [trap] { fn:=fn,tmps:=tmps,todo:=todo,defers:=[],mode:=.panicking ch,kind:=.normal,roundOf:=ro } []) w = .go (gor { trap with mode:=.panicking ch } []) w:=by
        obtain ⟨e1,e2⟩:todo ++ kOf b = todo ++ kk∧[trap] = cc:=by
         have:=h1 { fn:=fn,tmps:=tmps,todo:=todo,defers:=[],mode:=.panicking ch,kind:=.normal,roundOf:=ro };simp only [xo,gor,Goroutine.mk.injEq,Frame.mk.injEq,true_and,and_true] at this;exact this
        rw [h1];rw [Q3 (ch:=ch) _ _ rfl];unfold unwind;simp only [hcat,if_false,Bool.false_eq_true,← e2];rfl
       obtain ⟨f,c,e,_⟩:=Xx (kOf b) [trap] { fn:=fn,tmps:=tmps,todo:=todo,defers:=[],mode:=.panicking ch,kind:=.normal,roundOf:=ro } [];have hstep:step P (LM b { fn:=fn,tmps:=tmps,todo:=todo,defers:=[],mode:=.panicking ch,kind:=.normal,roundOf:=ro } [] w) = .next (Xv (gor { trap with mode:=.panicking ch } []) w):=by
        unfold LM;rw [e] at est ⊢;exact yd est
       have h':=j4 hstep h;cases n with
       | zero =>
         simp only [runN,Stepped.next.injEq] at h';exact ⟨_,_,_,ch,h'.symm,rfl⟩
       | succ n=>exact (jg (P:=P) (o:=.unsupported (.noEntry "machine/Return: a deferred call of a nil function value, made while the frame is unwinding") (({ trap with mode:=.panicking ch,defers:=[] }:Frame).pos P)) (w:=w) (kg (es:=#[]) rfl) h').elim
     | cons c r =>
       have hc:=hst.st.rest c (by simp);obtain ⟨kc,ccc,g1,_,g3⟩:=jv (kOf b) [trap] c r;have ecc:addK (kOf b) (c :: r) ++ [trap] = cc∧kk = []:=by
        have:=h1 { fn:=fn,tmps:=tmps,todo:=todo,defers:=[],mode:=.panicking ch,kind:=.normal,roundOf:=ro };simp only [xo,gor,Goroutine.mk.injEq,Frame.mk.injEq,true_and,and_true] at this;exact ⟨this.2,by simpa using this.1⟩
       have hst':St2 P G A { c with mode:=.panicking ch } r :=
        ⟨⟨⟨hc.1.tmps,hc.1.todo,hc.1.defers,hc.1.kind,hc.1.round⟩,fun f hf=>hst.st.rest f (by simp [hf])⟩,fun f hf=>hst.wait f (by simp [hf]),K0 (fr:=c) rfl fun f hf=>hst.last f (by simpa using hf)⟩
       refine Z0 n hst' hw rfl (j4 (zke (es:=#[]) ?_) h);rw [h1,g1];rw [Q3 (ch:=ch) _ _ rfl];unfold unwind;simp only [hcat,if_false,Bool.false_eq_true,← ecc.1,g3];have hcm:c.mode = .run:=hc.2;simp [Frame.raise,hcm,gor]
end
end
end Go.Proofs.YtclnogfmmekooaaGreat
