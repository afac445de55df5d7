/- What the laws' walks share: words, plain laws, and the walks of functions, part 3. -/
import Derived.WalkKit
import Derived.KernelRfl
import Derived.Below
import Derived.Deep.Draws
import Derived.Lib.Hide
import Derived.Laws.IdiomCopy
import Derived.Maps.OwnOps
import Derived.Maps.OwnSet
import Derived.Maps.Views
import Derived.Test.YtclnogfmmekooaaGreatProg
import Derived.BigQuiet
import Derived.Deep.QuietTactic
import Derived.Deep.LoopGhost
import Derived.WideLaws
import Derived.LaidEql
import Derived.RegionTactic
import Derived.ChangeAlike
import Derived.Outline
import Derived.Conc.CompanyMem
import Derived.Conc.CompanyDraw
import Derived.Test.YtclnogfmmekooaaGreatChecked
import Derived.Conc.WgGenW
import Derived.Conc.WgGenN2
import Derived.Conc.WgWords
import Derived.Conc.WgGenN3
import Derived.Conc.CrowdMono
import Derived.Test.YtclnogfmmekooaaGreatY2
set_option linter.unusedVariables false
set_option linter.unusedSimpArgs false
set_option maxHeartbeats 16000000
set_option maxRecDepth 100000
namespace Go.Proofs.YtclnogfmmekooaaGreat
section
open Go.RowKit

structure Rc where
 kind:Int
 seq:Int
 addr:Int
 val:Int
deriving DecidableEq,Repr
structure Pg where
 state:Int
 rc:Rc
deriving DecidableEq,Repr
structure Bk where
 pages:List Pg
 worn:Int
deriving DecidableEq,Repr
structure St where
 flash:List Bk
 disk:List Int
deriving DecidableEq,Repr
structure Sp where
 kind:Int
 addr:Int
 val:Int
 block:Int
 rc:Rc
deriving DecidableEq,Repr
structure Ev where
 kind:Int
 a:Int
 b:Int
 c:Int
 torn:Bool
deriving DecidableEq,Repr

def Rc.vs (r:Rc):List Value:=[.int .i64 r.kind, .int .i64 r.seq, .int .i64 r.addr, .int .i64 r.val]
def Pg.vs (p:Pg):List Value:=[.int .i64 p.state, .int .i64 p.rc.kind, .int .i64 p.rc.seq, .int .i64 p.rc.addr, .int .i64 p.rc.val]
def Sp.vs (s:Sp):List Value:=[.int .i64 s.kind, .int .i64 s.addr, .int .i64 s.val, .int .i64 s.block, .int .i64 s.rc.kind, .int .i64 s.rc.seq, .int .i64 s.rc.addr, .int .i64 s.rc.val]
def Ev.vs (e:Ev):List Value:=[.int .i64 e.kind, .int .i64 e.a, .int .i64 e.b, .int .i64 e.c, .bool e.torn]
def pgs (ps:List Pg):List Value:=ps.flatMap Pg.vs
def sps (ss:List Sp):List Value:=ss.flatMap Sp.vs
def evs (es:List Ev):List Value:=es.flatMap Ev.vs
def ints (xs:List Int):List Value:=xs.map (Value.int .i64)
def rc0:Rc:=⟨0,0,0,0⟩

theorem zg {a b:Bool} (h:a = b):Ending.returned (.bool a) = .returned (.bool b):=by rw [h]
theorem qg {a b:Int} (h:a = b):Ending.returned (.int .i64 a) = .returned (.int .i64 b):=by rw [h]
theorem Q9 {A:Option Addr} {n m c:Nat} {b:Bool} (h:n = m):Ending.returned (.tuple #[.slice A n c, .bool b]) = .returned (.tuple #[.slice A m c, .bool b]):=by rw [h]
theorem zr {α:Type} {l:List α} {k:Nat} {x:α} (h:l[k]? = some x):l.drop k = x :: l.drop (k + 1):=by
 obtain ⟨hlt,rfl⟩:=List.getElem?_eq_some_iff.1 h;exact List.drop_eq_getElem_cons hlt
theorem zc {α:Type} {l:List α} {k:Nat} (h:k < l.length):∃ x,l[k]? = some x:=⟨_,List.getElem?_eq_getElem h⟩
theorem yn {α:Type} (g:α->List Value) (m:Nat) (hg:∀ x,(g x).length = m):∀ (l:List α) (k j:Nat) (x:α),l[k]? = some x->j < m->(l.flatMap g)[k * m + j]? = (g x)[j]?
 | [],_,_,_,h,_=>by simp at h
 | y :: l, 0, j, x, h, hj => by
   simp at h;subst h;simp only [List.flatMap_cons,Nat.zero_mul,Nat.zero_add];rw [List.getElem?_append_left (by rw [hg];exact hj)]
 | y :: l, k + 1, j, x, h, hj => by
   simp only [List.flatMap_cons];rw [List.getElem?_append_right (by rw [hg,Nat.succ_mul];omega),hg,show (k + 1) * m + j - m = k * m + j by rw [Nat.succ_mul];omega];exact yn g m hg l k j x (by simpa using h) hj
theorem Kh {α:Type} (g:α->List Value) (m:Nat) (hg:∀ x,(g x).length = m):∀ l:List α,(l.flatMap g).length = l.length * m
 | []=>by simp
 | y :: l=>by simp only [List.flatMap_cons,List.length_append,hg,List.length_cons,Kh g m hg l,Nat.succ_mul];omega
theorem qh (l:List Pg):(pgs l).length = l.length * 5:=Kh _ 5 (fun _=>rfl) l
theorem Jw (l:List Sp):(sps l).length = l.length * 8:=Kh _ 8 (fun _=>rfl) l
theorem zpv (l:List Ev):(evs l).length = l.length * 5:=Kh _ 5 (fun _=>rfl) l
theorem yj (l:List Int):(ints l).length = l.length:=by simp [ints]

structure Agr (S:Nat->Prop) (w w':World):Prop where
 os:w'.os = w.os
 tape:w'.tape = w.tape
 output:w'.output = w.output
 size:w.heap.size ≤ w'.heap.size
 block:∀ k,k < w.heap.size->¬ S k->w'.heap[k]? = w.heap[k]?
theorem Agr.refl (S:Nat->Prop) (w:World):Agr S w w:=⟨rfl,rfl,rfl,Nat.le_refl _,fun _ _ _=>rfl⟩
theorem Agr.trans {S S':Nat->Prop} {a b c:World} (h:Agr S a b) (k:Agr S' b c) (hs:∀ i,i < a.heap.size->S' i->S i):Agr S a c :=
 ⟨k.os.trans h.os,k.tape.trans h.tape,k.output.trans h.output,Nat.le_trans h.size k.size,fun i hi hn=>(k.block i (Nat.lt_of_lt_of_le hi h.size) (fun x=>hn (hs i hi x))).trans (h.block i hi hn)⟩
theorem Agr.of_below {S:Nat->Prop} {a b:World} (h:Below a.heap.size a b):Agr S a b:=⟨h.os,h.tape,h.output,h.size,fun i hi _=>h.block i hi⟩
theorem Agr.mono {S S':Nat->Prop} {a b:World} (h:Agr S a b) (hs:∀ i,S i->S' i):Agr S' a b:=⟨h.os,h.tape,h.output,h.size,fun i hi hn=>h.block i hi (fun x=>hn (hs i x))⟩
theorem Agr.below {S:Nat->Prop} {a b:World} {B:Nat} (h:Agr S a b) (hB:B ≤ a.heap.size) (hs:∀ i,S i->B ≤ i):Below B a b :=
 ⟨h.os,h.tape,h.output,h.size,fun i hi=>h.block i (by omega) (fun x=>by have:=hs i x;omega)⟩
theorem Agr.alloc {S:Nat->Prop} {a w:World} (h:Agr S a w) (o:Obj):Agr S a (w.alloc o) :=
 ⟨h.os,h.tape,h.output,Nat.le_trans h.size (by simp),fun i hi hn=>(Below.heap_alloc w o i (Nat.lt_of_lt_of_le hi h.size)).trans (h.block i hi hn)⟩
theorem Agr.drew {S:Nat->Prop} {a w:World} (h:Agr S a w):Agr S a w.drew:=⟨h.os,h.tape,h.output,h.size,h.block⟩
theorem Agr.drewN {S:Nat->Prop} {a w:World} (h:Agr S a w) (n:Nat):Agr S a (w.drewN n):=⟨h.os,h.tape,h.output,h.size,h.block⟩
theorem Agr.setCell {S:Nat->Prop} {a w:World} (h:Agr S a w) {p:Addr} (hp:a.heap.size ≤ p.block∨S p.block) (u:Value):Agr S a (w.setCell p u) :=
 ⟨h.os,h.tape,h.output,by simpa [World.setCell] using h.size,fun i hi hn=>(Below.heap_setCell w p u i (by
  rintro rfl;rcases hp with hp | hp
  . omega
  exact hn hp)).trans (h.block i hi hn)⟩
theorem Agr.grown {S:Nat->Prop} {a w w':World} {row:Option Nat} (h:Agr S a w) (hg:w.grownBy w' row) (hr:∀ g,row = some g->a.heap.size ≤ g∨S g):Agr S a w' :=
 ⟨hg.os.trans h.os,hg.tape.trans h.tape,hg.output.trans h.output,Nat.le_trans h.size hg.size,fun i hi hn=>(hg.block i (Nat.lt_of_lt_of_le hi h.size) (fun e=>by
  rcases hr i e.symm with hp | hp
  . omega
  exact hn hp)).trans (h.block i hi hn)⟩

theorem Agr.cell {S:Nat->Prop} {a w:World} (h:Agr S a w) {b:Nat} (hb:b < a.heap.size) (hs:¬ S b) (i:Nat):w.cell? ⟨b,i,none⟩ = a.cell? ⟨b,i,none⟩:=World.cell?_of_block (a:=⟨b,i,none⟩) (h.block b hb hs)
theorem Agr.fz {S:Nat->Prop} {a w:World} (h:Agr S a w) {b:Nat} (hb:b < a.heap.size) (hs:¬ S b) (i:Nat):w.frozen? ⟨b,i,none⟩ = a.frozen? ⟨b,i,none⟩:=World.frozen?_of_block (a:=⟨b,i,none⟩) (h.block b hb hs)

theorem Xr {w w':World} (h:Below w.drew.heap.size w.drew w'):Below w.heap.size w w':=⟨h.os,h.tape,h.output,h.size,h.block⟩
theorem qv {W w1:World} (hb:Below W.heap.size W w1):(∀ b o,b < W.heap.size->w1.cell? ⟨b,o,none⟩ = W.cell? ⟨b,o,none⟩)∧(∀ b o,b < W.heap.size->w1.frozen? ⟨b,o,none⟩ = W.frozen? ⟨b,o,none⟩) :=
 ⟨fun b o h=>hb.cell (p:=⟨b,o,none⟩) h,fun b o h=>hb.frozen (p:=⟨b,o,none⟩) h⟩

def Row (w:World) (A:Option Addr) (vs:List Value):Prop :=
 vs ≠ []->∃ b o,A = some ⟨b,o,none⟩∧∀ j u,vs[j]? = some u->w.cell? ⟨b,o + j,none⟩ = some u∧w.frozen? ⟨b,o + j,none⟩ = false
def blk (A:Option Addr) (b:Nat):Prop:=A.map Addr.block = some b
theorem zf {b o c:Nat}:blk (some ⟨b,o,none⟩) c ↔ b = c:=by simp [blk]
theorem zd {w:World} {b o:Nat} {u:Value} (h:w.cell? ⟨b,o,none⟩ = some u):b < w.heap.size:=by
 have:=World.block_lt_of_cell? (w:=w) (a:=⟨b,o,none⟩) (h:=h);exact this
theorem Row.nil (w:World) (A:Option Addr):Row w A []:=fun h=>absurd rfl h
theorem Row.keep {w w':World} {A:Option Addr} {vs:List Value} (h:Row w A vs) (hk:∀ b,blk A b->b < w.heap.size->w'.heap[b]? = w.heap[b]?):Row w' A vs:=fun hn=>by
 obtain ⟨b,o,rfl,hc⟩:=h hn;refine ⟨b,o,rfl,fun j u hj=>?_⟩;obtain ⟨h1,h2⟩:=hc j u hj;have hb:=hk b rfl (zd h1);exact ⟨(World.cell?_of_block (a:=⟨b,o + j,none⟩) hb).trans h1,(World.frozen?_of_block (a:=⟨b,o + j,none⟩) hb).trans h2⟩
theorem Row.below {w w':World} {A:Option Addr} {vs:List Value} {B:Nat} (h:Row w A vs) (hb:Below B w w') (hB:w.heap.size ≤ B):Row w' A vs :=
 h.keep fun b _ hl=>hb.block b (by omega)
theorem Row.agr {w w':World} {A:Option Addr} {vs:List Value} {S:Nat->Prop} (h:Row w A vs) (hb:Agr S w w') (hS:∀ b,blk A b->¬ S b):Row w' A vs :=
 h.keep fun b hA hl=>hb.block b hl (hS b hA)
theorem Row.alloc {w:World} {A:Option Addr} {vs:List Value} (h:Row w A vs) (o:Obj):Row (w.alloc o) A vs:=h.keep fun b _ hl=>Below.heap_alloc w o b hl
theorem Row.new (w:World) (cs:Array Value) (t:TypeId):Row (w.alloc (.cells cs t)) (some ⟨w.heap.size,0,none⟩) cs.toList:=fun _ =>
 ⟨_,_,rfl,fun j u hj=>⟨by simpa using hj,by simp⟩⟩
theorem Row.drew {w:World} {A:Option Addr} {vs:List Value} (h:Row w A vs):Row w.drew A vs:=h
theorem Row.drewN {w:World} {A:Option Addr} {vs:List Value} (h:Row w A vs) (n:Nat):Row (w.drewN n) A vs:=h
theorem Row.at_ {w:World} {A:Option Addr} {vs:List Value} (h:Row w A vs) (hn:vs ≠ []):∃ b o,A = some ⟨b,o,none⟩∧∀ j u,vs[j]? = some u->w.cell? ⟨b,o + j,none⟩ = some u∧w.frozen? ⟨b,o + j,none⟩ = false:=h hn
theorem Row.lt {w:World} {A:Option Addr} {vs:List Value} (h:Row w A vs) (hn:vs ≠ []) {b:Nat} (hb:blk A b):b < w.heap.size:=by
 obtain ⟨b',o,rfl,hc⟩:=h hn;cases hb;cases vs with
 | nil=>exact absurd rfl hn
 | cons v vs=>exact zd (hc 0 v rfl).1
theorem Row.of_own {w:World} {base n:Nat} {e:TypeId} {size c:Nat} {A:Option Addr} {vs:List Value} (h:w.ownsRow base e size (.slice A n c) n vs):Row w A vs:=fun hn=>by
 obtain ⟨hl,⟨hv,_⟩ | ⟨g,cap,cur,hv,hb,hh,hnc,hm,hs,ht⟩⟩:=h
 . rename_i hz;subst hz;exact absurd (List.eq_nil_of_length_eq_zero (by rw [hl,Nat.zero_mul])) hn
 cases hv;refine ⟨g,0,rfl,fun j u hj=>?_⟩;rw [← ht] at hj;have hj':cur.toList[j]? = some u:=by
  rw [List.getElem?_take] at hj;split at hj
  . exact hj
  cases hj
 constructor
 . simp only [World.cell?,hh,Nat.zero_add]
   simpa using hj'
 simp [World.frozen?,hh]

structure xt (w w':World) (b o:Nat) (vs:List Value):Prop where
 os:w'.os = w.os
 tape:w'.tape = w.tape
 output:w'.output = w.output
 size:w'.heap.size = w.heap.size
 block:∀ k,k ≠ b->w'.heap[k]? = w.heap[k]?
 new_:∀ j u,vs[j]? = some u->w'.cell? ⟨b,o + j,none⟩ = some u
 old_:∀ k,(k < o∨o + vs.length ≤ k)->w'.cell? ⟨b,k,none⟩ = w.cell? ⟨b,k,none⟩
 frozen:∀ a,w'.frozen? a = w.frozen? a
theorem zp (b:Nat):∀ (vs:List Value) (o:Nat) (w:World),(∀ j,j < vs.length->∃ u,w.cell? ⟨b,o + j,none⟩ = some u)->xt w (w.setCells b o vs) b o vs
 | [],o,w,_=>⟨rfl,rfl,rfl,rfl,fun _ _=>rfl,fun j u h=>by simp at h,fun _ _=>rfl,fun _=>rfl⟩
 | v :: vs, o, w, h => by
   have h0:∃ u,w.cell? ⟨b,o,none⟩ = some u:=h 0 (by simp);have ho:∀ k,k ≠ o->(w.setCell ⟨b,o,none⟩ v).cell? ⟨b,k,none⟩ = w.cell? ⟨b,k,none⟩:=fun k hk=>World.cell?_setCell_other w ⟨b,o,none⟩ ⟨b,k,none⟩ v (fun e=>hk (by injection e with _ e2 _;exact e2.symm));have ih:=zp b vs (o + 1) (w.setCell ⟨b,o,none⟩ v) (fun j hj=>by
    obtain ⟨u,hu⟩:=h (j + 1) (by simp;omega);exact ⟨u,by rw [ho _ (by omega),← hu];congr 2;omega⟩)
   refine ⟨ih.os,ih.tape,ih.output,ih.size.trans (by simp),fun k hk=>(ih.block k hk).trans (Below.heap_setCell w _ _ k hk),fun j u hj=>?_,fun k hk=>?_,fun a=>(ih.frozen a).trans (World.frozen?_setCell _ _ _ _)⟩
   . cases j with
     | zero =>
       simp at hj;subst hj;obtain ⟨u,hu⟩:=h0;exact (ih.old_ o (.inl (by omega))).trans (World.cell?_setCell_same w _ _ hu)
     | succ j =>
       have:=ih.new_ j u (by simpa using hj);rw [show o + (j + 1) = o + 1 + j by omega];exact this
   simp at hk;refine (ih.old_ k (by omega)).trans (ho k (by omega))
theorem xt.agr {w w':World} {b o:Nat} {vs:List Value} (h:xt w w' b o vs):Agr (· = b) w w':=⟨h.os,h.tape,h.output,by rw [h.size];exact Nat.le_refl _,fun k _ hk=>h.block k hk⟩
def setL:List Value->Nat->List Value->List Value
 | xs,_,[]=>xs
 | xs,q,v :: vs=>setL (xs.set q v) (q + 1) vs
theorem zdf:∀ (vs xs:List Value) (q:Nat),(setL xs q vs).length = xs.length
 | [],_,_=>rfl
 | v :: vs,xs,q=>by simp [setL,zdf vs]
theorem zdg:∀ (vs xs:List Value) (q j:Nat),q + vs.length ≤ xs.length->(setL xs q vs)[j]? = if q ≤ j∧j < q + vs.length then vs[j - q]? else xs[j]?
 | [],xs,q,j,_=>by simp [setL];omega
 | v :: vs, xs, q, j, h => by
   simp at h;rw [setL,zdg vs (xs.set q v) (q + 1) j (by simp;omega)];by_cases h1:j = q
   . subst h1;rw [if_neg (by omega),if_pos (by simp),List.getElem?_set_self (by omega),Nat.sub_self];rfl
   by_cases h2:q + 1 ≤ j∧j < q + 1 + vs.length
   . rw [if_pos h2,if_pos (by simp;omega),show j - q = (j - (q + 1)) + 1 by omega];simp
   rw [if_neg h2,if_neg (by simp;omega),List.getElem?_set_ne (by omega)]
theorem Zz (a:List Value):∀ (vs xs:List Value) (q:Nat),setL (a ++ xs) (a.length + q) vs = a ++ setL xs q vs
 | [],_,_=>rfl
 | v :: vs, xs, q => by
   simp only [setL];rw [List.set_append_right _ _ (by omega),show a.length + q - a.length = q by omega,show a.length + q + 1 = a.length + (q + 1) by omega];exact Zz a vs (xs.set q v) (q + 1)
theorem xt.row {w w':World} {b o q:Nat} {vs xs:List Value} (h:xt w w' b (o + q) vs) (hr:Row w (some ⟨b,o,none⟩) xs) (hq:q + vs.length ≤ xs.length) :
 Row w' (some ⟨b,o,none⟩) (setL xs q vs):=fun hn=>by
 have hne:xs ≠ []:=by
  intro e;have:=zdf vs xs q;rw [e] at this;exact hn (by rw [e];exact List.eq_nil_of_length_eq_zero (by simpa using this))
 obtain ⟨b',o',he,hc⟩:=hr hne;cases he;refine ⟨b,o,rfl,fun j u hj=>?_⟩;have hjl:j < xs.length:=by rw [← zdf vs xs q];exact (List.getElem?_eq_some_iff.1 hj).1
 have hfz:w.frozen? ⟨b,o + j,none⟩ = false:=(hc j _ (List.getElem?_eq_getElem hjl)).2;refine ⟨?_,(h.frozen _).trans hfz⟩;rw [zdg vs xs q j hq] at hj;split at hj
 . rename_i h1;have:=h.new_ _ u hj;rw [show o + j = o + q + (j - q) by omega];exact this
 exact (h.old_ _ (by omega)).trans (hc j u hj).1
theorem xt.more {w w':World} {b o:Nat} {v u:Value} (h:xt w w' b o [v]) (hu:w.cell? ⟨b,o + 1,none⟩ = some u):xt w w' b o [v,u] :=
 ⟨h.os,h.tape,h.output,h.size,h.block,fun j x hj=>by
  match j,hj with
  | 0,hj=>exact h.new_ 0 x hj
  | 1,hj=>simp at hj;subst hj;exact (h.old_ _ (.inr (by simp))).trans hu,fun k hk=>h.old_ k (by simp at hk ⊢;omega),h.frozen⟩
theorem xt.less {w w':World} {b o:Nat} {v u:Value} (h:xt w w' b (o + 1) [v]) (hu:w.cell? ⟨b,o,none⟩ = some u):xt w w' b o [u,v] :=
 ⟨h.os,h.tape,h.output,h.size,h.block,fun j x hj=>by
  match j,hj with
  | 0,hj=>simp at hj;subst hj;exact (h.old_ _ (.inl (by simp))).trans hu
  | 1,hj=>exact h.new_ 0 x hj,fun k hk=>h.old_ k (by simp at hk ⊢;omega),h.frozen⟩
theorem zq {w:World} {b o:Nat} {u:Value} (h:w.cell? ⟨b,o,none⟩ = some u) (v:Value):xt w (w.setCell ⟨b,o,none⟩ v) b o [v] :=
 zp b [v] o w fun j hj=>by
  match j,hj with
  | 0,_=>exact ⟨u,h⟩
theorem xt.far {w w':World} {b o:Nat} {vs xs:List Value} {A:Option Addr} (h:xt w w' b o vs) (hr:Row w A xs) (hne:¬ blk A b):Row w' A xs :=
 hr.keep fun c hc _=>h.block c (fun e=>hne (e ▸ hc))
theorem zb7 {P:Program} (w:World) (dT sT ty elem:TypeId) (size b o dLen dCap:Nat) (a:Addr) (sLen sCap n:Nat) (cs:List Value)
 (hu:P.underlying dT = some (.slice elem)) (hs:(P.info? elem).map (·.size) = some size) (hn:Nat.min sLen dLen = n) (hl:cs.length = n * size)
 (hsrc:∀ j v,cs[j]? = some v->w.cell? (a.add j) = some v) (hc:∀ j,j < cs.length->(w.cell? ⟨b,o + j,none⟩).isSome = true) (hf:∀ j,j < cs.length->w.frozen? ⟨b,o + j,none⟩ = false) (h1:∀ v ∈ cs,v.oneCell' = true) :
 (Builtin.copy_ #[dT,sT] ty #[.slice (some ⟨b,o,none⟩) dLen dCap, .slice (some a) sLen sCap]).run P w = .ok (goInt n) (w.setCells b o cs):=by
 have hl':=run_loadCells_list (P:=P) w a cs hsrc;have hst:=run_storeCells_cells (P:=P) b o cs 0 w (by simpa using hc) (by simpa using hf) h1;cases hq:P.info? elem with
 | none=>simp [hq] at hs
 | some i =>
   have hi:i.size = size:=by simpa [hq] using hs
   simp [Builtin.copy_,run_underlying hu,Builtin.lenOf,Builtin.firstCells,sizeOf,typeInfo,hq,hi,hn,← hl,hl',hst]
theorem Qt (b o j:Nat):(⟨b,o,none⟩:Addr).add j = ⟨b,o + j,none⟩:=by unfold Addr.add;split <;> simp_all
end
section
def jk (a:Int):Bool:=decide (1 ≤ a) && decide (a ≤ 6)
def valB (a:Int):Bool:=decide (0 ≤ a) && decide (a ≤ 9)
def zdr (k:Int):Bool:=decide (k = 1) || decide (k = 2)
def xj (r:Rc):Bool:=zdr r.kind && (decide (1 ≤ r.seq) && (decide (r.seq ≤ 600) && (jk r.addr && valB r.val)))
def zn (p:Pg):Bool:=if p.state = 1 then xj p.rc else if p.state = 0∨p.state = 2 then decide (p.rc = rc0) else false
def j9 (b:Int):Bool:=decide (0 ≤ b) && decide (b < 4)
def j0:Bool->List Pg->Bool
 | _,[]=>true
 | free,p :: ps=>if (free && (p.state != 0)) = true then false else j0 (p.state == 0) ps
def zw (b:Bk):Bool:=decide (b.pages.length = 4) && (decide (0 ≤ b.worn) && (decide (b.worn ≤ 200) && j0 false b.pages))
def kz:List Int->(List Int->Bool)->List Pg->Bool
 | seen,k,[]=>k seen
 | seen,k,p :: ps=>if zn p = false then false else if p.state ≠ 1 then kz seen k ps else if p.rc.seq ∈ seen then false else kz (p.rc.seq :: seen) k ps
def ka:List Int->List Bk->Bool
 | _,[]=>true
 | seen,b :: bs=>if zw b = false then false else kz seen (fun s=>ka s bs) b.pages
def ze (f:List Bk):Bool:=decide (f.length = 4) && ka [] f
theorem Yz {k:List Int->Bool}:∀ {ps:List Pg} {seen:List Int},kz seen k ps = true->(∃ s,k s = true)∧∀ p ∈ ps,zn p = true
 | [],seen,h=>⟨⟨seen,h⟩,by simp⟩
 | p :: ps, seen, h => by
   unfold kz at h;by_cases h1:zn p = false
   . simp [h1] at h
   rw [if_neg h1] at h;have h1':zn p = true:=by simpa using h1
   have key:∀ s,kz s k ps = true->(∃ s,k s = true)∧∀ q ∈ p :: ps,zn q = true:=fun s hs=>by
    obtain ⟨a,b⟩:=Yz hs;exact ⟨a,by intro q hq;rcases List.mem_cons.1 hq with rfl | hq;exact h1';exact b q hq⟩
   by_cases h2:p.state ≠ 1
   . rw [if_pos h2] at h;exact key _ h
   rw [if_neg h2] at h;by_cases h3:p.rc.seq ∈ seen
   . simp [h3] at h
   rw [if_neg h3] at h;exact key _ h
theorem qr:∀ {f:List Bk} {seen:List Int},ka seen f = true->∀ b ∈ f,zw b = true∧∀ p ∈ b.pages,zn p = true
 | [],_,_=>by simp
 | b :: f, seen, h => by
   unfold ka at h;by_cases h1:zw b = false
   . simp [h1] at h
   rw [if_neg h1] at h;obtain ⟨⟨s,hs⟩,hp⟩:=Yz h;have ih:=qr hs;intro c hc;rcases List.mem_cons.1 hc with rfl | hc
   . exact ⟨by simpa using h1,hp⟩
   exact ih c hc
theorem zh {f:List Bk} (h:ze f = true):f.length = 4:=by unfold ze at h;simp at h;exact h.1
theorem zo {f:List Bk} (h:ze f = true):∀ b ∈ f,b.pages.length = 4∧0 ≤ b.worn∧b.worn ≤ 200:=by
 unfold ze at h;simp at h;intro b hb;have:=(qr h.2 b hb).1;unfold zw at this;simp at this;exact ⟨this.1,this.2.1,this.2.2.1⟩
def xl:List Int->Bool->(List Int->Bool)->List Pg->Bool
 | seen,_,k,[]=>k seen
 | seen,pc,k,p :: ps=>if zn p = false∨(pc = true∧p.state ≠ 0)∨(p.state = 1∧p.rc.seq ∈ seen) then false else xl (if p.state = 1 then p.rc.seq :: seen else seen) (p.state == 0) k ps
def zt:List Int->List Bk->Bool
 | _,[]=>true
 | seen,b :: bs=>if b.pages.length ≠ 4∨b.worn < 0∨200 < b.worn then false else xl seen false (fun s=>zt s bs) b.pages
theorem Z6 {seen:List Int} {pc:Bool} {k:List Int->Bool} {p:Pg} {ps:List Pg} (h1:zn p = true) (h2:pc = true->p.state = 0) (h3:p.state ≠ 1):xl seen pc k (p :: ps) = xl seen (p.state == 0) k ps:=by
 rw [xl,if_neg (fun h=>h.elim (fun h=>absurd h (by simp [h1])) (fun h=>h.elim (fun h=>h.2 (h2 h.1)) (fun h=>h3 h.1))),if_neg h3]
theorem Yx {seen:List Int} {pc:Bool} {k:List Int->Bool} {p:Pg} {ps:List Pg} (h1:zn p = true) (h2:pc = true->p.state = 0) (h3:p.state = 1) (h4:¬ p.rc.seq ∈ seen):xl seen pc k (p :: ps) = xl (p.rc.seq :: seen) (p.state == 0) k ps:=by
 rw [xl,if_neg (fun h=>h.elim (fun h=>absurd h (by simp [h1])) (fun h=>h.elim (fun h=>h.2 (h2 h.1)) (fun h=>h4 h.2))),if_pos h3]
theorem Z7 {seen:List Int} {pc:Bool} {k:List Int->Bool} {p:Pg} {ps:List Pg} (h:zn p = false∨(pc = true∧p.state ≠ 0)∨(p.state = 1∧p.rc.seq ∈ seen)):xl seen pc k (p :: ps) = false:=by
 rw [xl,if_pos h]
theorem Q6 (k:List Int->Bool):∀ (ps:List Pg) (seen:List Int) (pc:Bool),xl seen pc k ps = (j0 pc ps && kz seen k ps)
 | [],seen,pc=>by simp [xl,j0,kz]
 | p :: ps, seen, pc => by
   unfold xl j0 kz;rw [Q6 k ps];by_cases h1:zn p = false
   . simp [h1]
   by_cases h2:pc = true∧p.state ≠ 0
   . simp [h2]
   have h2':¬ (pc && p.state != 0) = true:=by simpa using h2
   rw [if_neg h2',if_neg h1];by_cases h3:p.state = 1
   . by_cases h4:p.rc.seq ∈ seen
     . simp [h1,h2,h3,h4]
     rw [if_neg (by simp [h1,h2,h3,h4];simpa [h3] using h2),if_pos h3,if_neg (by simp [h3]),if_neg h4]
   rw [if_neg (by simp [h1,h3];simpa using h2),if_neg h3,if_pos h3]
theorem Yy:∀ (f:List Bk) (seen:List Int),zt seen f = ka seen f
 | [],_=>rfl
 | b :: bs, seen => by
   unfold zt ka;have e:(fun s=>zt s bs) = (fun s=>ka s bs):=by funext s;exact Yy bs s
   rw [e,Q6];by_cases h:b.pages.length ≠ 4∨b.worn < 0∨200 < b.worn
   . rw [if_pos h,if_pos];unfold zw;rcases h with h | h | h <;> simp [h] <;> omega
   rw [if_neg h];have h1:b.pages.length = 4∧0 ≤ b.worn∧b.worn ≤ 200:=by omega
   have h2:zw b = j0 false b.pages:=by unfold zw;simp [h1.1,h1.2.1,h1.2.2]
   rw [h2];cases j0 false b.pages <;> simp
end
section
open Go.RowKit

theorem Row.pg {w:World} {b o k:Nat} {ps:List Pg} {p:Pg} (h:Row w (some ⟨b,o,none⟩) (pgs ps)) (hk:ps[k]? = some p) :
 w.cell? ⟨b,o + k * 5,none⟩ = some (.int .i64 p.state)∧w.cell? ⟨b,o + k * 5 + 1,none⟩ = some (.int .i64 p.rc.kind)∧w.cell? ⟨b,o + k * 5 + 2,none⟩ = some (.int .i64 p.rc.seq) ∧
  w.cell? ⟨b,o + k * 5 + 3,none⟩ = some (.int .i64 p.rc.addr)∧w.cell? ⟨b,o + k * 5 + 4,none⟩ = some (.int .i64 p.rc.val):=by
 have hlt:=(List.getElem?_eq_some_iff.1 hk).1;obtain ⟨b',o',he,hc⟩:=h (by intro e;have:=qh ps;rw [e] at this;simp at this;omega);cases he;have hg:∀ j u,p.vs[j]? = some u->j < 5->w.cell? ⟨b,o + (k * 5 + j),none⟩ = some u:=fun j u hj hl=>(hc (k * 5 + j) u (by rw [pgs,yn _ 5 (fun _=>rfl) ps k j p hk hl];exact hj)).1;exact ⟨hg 0 _ rfl (by omega),hg 1 _ rfl (by omega),hg 2 _ rfl (by omega),hg 3 _ rfl (by omega),hg 4 _ rfl (by omega)⟩
theorem Row.pgf {w:World} {b o k:Nat} {ps:List Pg} {p:Pg} (h:Row w (some ⟨b,o,none⟩) (pgs ps)) (hk:ps[k]? = some p) :
 w.frozen? ⟨b,o + k * 5,none⟩ = false∧w.frozen? ⟨b,o + k * 5 + 1,none⟩ = false∧w.frozen? ⟨b,o + k * 5 + 2,none⟩ = false ∧
  w.frozen? ⟨b,o + k * 5 + 3,none⟩ = false∧w.frozen? ⟨b,o + k * 5 + 4,none⟩ = false:=by
 have hlt:=(List.getElem?_eq_some_iff.1 hk).1;obtain ⟨b',o',he,hc⟩:=h (by intro e;have:=qh ps;rw [e] at this;simp at this;omega);cases he;have hg:∀ j u,p.vs[j]? = some u->j < 5->w.frozen? ⟨b,o + (k * 5 + j),none⟩ = false:=fun j u hj hl=>(hc (k * 5 + j) u (by rw [pgs,yn _ 5 (fun _=>rfl) ps k j p hk hl];exact hj)).2;exact ⟨hg 0 _ rfl (by omega),hg 1 _ rfl (by omega),hg 2 _ rfl (by omega),hg 3 _ rfl (by omega),hg 4 _ rfl (by omega)⟩
theorem Row.int_ {w:World} {b o k:Nat} {xs:List Int} {x:Int} (h:Row w (some ⟨b,o,none⟩) (ints xs)) (hk:xs[k]? = some x) :
 w.cell? ⟨b,o + k,none⟩ = some (.int .i64 x)∧w.frozen? ⟨b,o + k,none⟩ = false:=by
 have hlt:=(List.getElem?_eq_some_iff.1 hk).1;obtain ⟨b',o',he,hc⟩:=h (by intro e;have:=yj xs;rw [e] at this;simp at this;omega);cases he;exact hc k _ (by simp [ints,hk])
theorem Row.news {w:World} {b o:Nat} {vs:List Value} (h:Row w (some ⟨b,o,none⟩) vs):∀ j u,vs[j]? = some u->w.cell? ((⟨b,o,none⟩:Addr).add j) = some u:=fun j u hj=>by
 obtain ⟨b',o',he,hc⟩:=h (by intro e;rw [e] at hj;cases hj);cases he;rw [Qt];exact (hc j u hj).1
theorem Row.addr {w:World} {A:Option Addr} {vs:List Value} (h:Row w A vs) (hn:vs ≠ []):∃ b o,A = some ⟨b,o,none⟩:=by
 obtain ⟨b,o,rfl,_⟩:=h hn;exact ⟨b,o,rfl⟩
theorem ky {ps:List Pg} (h:ps ≠ []):pgs ps ≠ []:=by
 cases ps with
 | nil=>exact absurd rfl h
 | cons p ps=>simp [pgs,Pg.vs]

def hdrs:List Bk->List (Option Addr × Nat)->List Value
 | b :: f,h :: hs=>.slice h.1 b.pages.length h.2 :: .int .i64 b.worn :: hdrs f hs
 | _,_=>[]
theorem Xc:∀ (f:List Bk) (hs:List (Option Addr × Nat)),hs.length = f.length->(hdrs f hs).length = f.length * 2
 | [],_,_=>by simp [hdrs]
 | b :: f,[],h=>by simp at h
 | b :: f, x :: hs, h => by
   simp only [hdrs,List.length_cons];rw [Xc f hs (by simpa using h)];omega
theorem Qq:∀ (f:List Bk) (hs:List (Option Addr × Nat)) (i:Nat) (b:Bk) (x:Option Addr × Nat),f[i]? = some b->hs[i]? = some x ->
 (hdrs f hs)[i * 2]? = some (.slice x.1 b.pages.length x.2)∧(hdrs f hs)[i * 2 + 1]? = some (.int .i64 b.worn)
 | [],_,_,_,_,h,_=>by simp at h
 | _ :: _,[],_,_,_,_,h=>by simp at h
 | b :: f,x :: hs,0,b',x',h,h'=>by simp at h h';subst h;subst h';simp [hdrs]
 | b :: f, x :: hs, i + 1, b', x', h, h' => by
   have ih:=Qq f hs i b' x' (by simpa using h) (by simpa using h');rw [show (i + 1) * 2 = i * 2 + 1 + 1 by omega]
   simpa [hdrs] using ih
theorem Kz:∀ (f g:List Bk) (hs ks:List (Option Addr × Nat)),hs.length = f.length->hdrs (f ++ g) (hs ++ ks) = hdrs f hs ++ hdrs g ks
 | [],g,[],ks,_=>by simp [hdrs]
 | [],g,_ :: _,ks,h=>by simp at h
 | b :: f,g,[],ks,h=>by simp at h
 | b :: f,g,x :: hs,ks,h=>by simp [hdrs,Kz f g hs ks (by simpa using h)]

structure Bks (w:World) (A:Option Addr) (f:List Bk) (hs:List (Option Addr × Nat)):Prop where
 len:hs.length = f.length
 row:Row w A (hdrs f hs)
 pg:∀ (i:Nat) (b:Bk) (x:Option Addr × Nat),f[i]? = some b->hs[i]? = some x->Row w x.1 (pgs b.pages)∧b.pages.length ≤ x.2
def Fl (w:World) (A:Option Addr) (f:List Bk):Prop:=∃ hs,Bks w A f hs
theorem Bks.keep {w w':World} {A:Option Addr} {f:List Bk} {hs:List (Option Addr × Nat)} (h:Bks w A f hs)
 (hk:∀ b,(blk A b∨∃ x ∈ hs,blk x.1 b)->b < w.heap.size->w'.heap[b]? = w.heap[b]?):Bks w' A f hs :=
 ⟨h.len,h.row.keep fun b hb=>hk b (.inl hb),fun i b x hb hx=>⟨(h.pg i b x hb hx).1.keep fun c hc=>hk c (.inr ⟨x,List.mem_of_getElem? hx,hc⟩),(h.pg i b x hb hx).2⟩⟩
theorem Bks.below {w w':World} {A:Option Addr} {f:List Bk} {hs:List (Option Addr × Nat)} {B:Nat} (h:Bks w A f hs) (hb:Below B w w') (hB:w.heap.size ≤ B):Bks w' A f hs :=
 h.keep fun b _ hl=>hb.block b (by omega)
theorem Bks.alloc {w:World} {A:Option Addr} {f:List Bk} {hs:List (Option Addr × Nat)} (h:Bks w A f hs) (o:Obj):Bks (w.alloc o) A f hs:=h.keep fun b _ hl=>Below.heap_alloc w o b hl
theorem Bks.drew {w:World} {A:Option Addr} {f:List Bk} {hs:List (Option Addr × Nat)} (h:Bks w A f hs):Bks w.drew A f hs:=⟨h.len,h.row,h.pg⟩
theorem Bks.drewN {w:World} {A:Option Addr} {f:List Bk} {hs:List (Option Addr × Nat)} (h:Bks w A f hs) (n:Nat):Bks (w.drewN n) A f hs:=⟨h.len,h.row,h.pg⟩
theorem Fl.below {w w':World} {A:Option Addr} {f:List Bk} {B:Nat} (h:Fl w A f) (hb:Below B w w') (hB:w.heap.size ≤ B):Fl w' A f:=by
 obtain ⟨hs,h⟩:=h;exact ⟨hs,h.below hb hB⟩
theorem Fl.alloc {w:World} {A:Option Addr} {f:List Bk} (h:Fl w A f) (o:Obj):Fl (w.alloc o) A f:=by
 obtain ⟨hs,h⟩:=h;exact ⟨hs,h.alloc o⟩
theorem Bks.addr {w:World} {A:Option Addr} {f:List Bk} {hs:List (Option Addr × Nat)} (h:Bks w A f hs) (hn:f ≠ []):∃ b o,A = some ⟨b,o,none⟩ :=
 h.row.addr (by
  intro e;have hl:=Xc f hs h.len;rw [e] at hl;exact hn (List.eq_nil_of_length_eq_zero (by simp at hl;omega)))
theorem Bks.at_ {w:World} {g o i:Nat} {f:List Bk} {hs:List (Option Addr × Nat)} {b:Bk} (h:Bks w (some ⟨g,o,none⟩) f hs) (hi:f[i]? = some b) :
 ∃ x, hs[i]? = some x ∧ w.cell? ⟨g, o + i * 2, none⟩ = some (.slice x.1 b.pages.length x.2) ∧ w.cell? ⟨g, o + i * 2 + 1, none⟩ = some (.int .i64 b.worn) ∧
   w.frozen? ⟨g,o + i * 2,none⟩ = false∧w.frozen? ⟨g,o + i * 2 + 1,none⟩ = false∧Row w x.1 (pgs b.pages)∧b.pages.length ≤ x.2:=by
 have hlt:=(List.getElem?_eq_some_iff.1 hi).1;obtain ⟨x,hx⟩:=zc (l:=hs) (k:=i) (by rw [h.len];exact hlt);obtain ⟨g1,g2⟩:=Qq f hs i b x hi hx;obtain ⟨b',o',he,hc⟩:=h.row (by intro e;rw [e] at g1;simp at g1);cases he;obtain ⟨h1,h2⟩:=h.pg i b x hi hx;exact ⟨x,hx,(hc _ _ g1).1,(hc _ _ g2).1,(hc _ _ g1).2,(hc _ _ g2).2,h1,h2⟩

structure Apt (lo hi:Nat) (A:Option Addr) (hs:List (Option Addr × Nat)):Prop where
 top:∀ b:Nat,blk A b->lo ≤ b∧b < hi
 in_:∀ (i:Nat) (x:Option Addr × Nat) (b:Nat),hs[i]? = some x->blk x.1 b->lo ≤ b∧b < hi∧¬ blk A b
 two:∀ (i j:Nat) (x y:Option Addr × Nat) (b:Nat),hs[i]? = some x->hs[j]? = some y->blk x.1 b->blk y.1 b->i = j
theorem Apt.mono {lo hi lo' hi':Nat} {A:Option Addr} {hs:List (Option Addr × Nat)} (h:Apt lo hi A hs) (h1:lo' ≤ lo) (h2:hi ≤ hi'):Apt lo' hi' A hs :=
 ⟨fun b hb=>by have:=h.top b hb;omega,fun i x b hx hb=>by have:=h.in_ i x b hx hb;exact ⟨by omega,by omega,this.2.2⟩,h.two⟩
def OFl (w:World) (lo hi:Nat) (A:Option Addr) (f:List Bk):Prop:=∃ hs,Bks w A f hs∧Apt lo hi A hs
theorem OFl.fl {w:World} {lo hi:Nat} {A:Option Addr} {f:List Bk} (h:OFl w lo hi A f):Fl w A f:=by obtain ⟨hs,h,_⟩:=h;exact ⟨hs,h⟩
theorem OFl.mono {w:World} {lo hi lo' hi':Nat} {A:Option Addr} {f:List Bk} (h:OFl w lo hi A f) (h1:lo' ≤ lo) (h2:hi ≤ hi'):OFl w lo' hi' A f:=by
 obtain ⟨hs,h,k⟩:=h;exact ⟨hs,h,k.mono h1 h2⟩
theorem OFl.keep {w w':World} {lo hi:Nat} {A:Option Addr} {f:List Bk} (h:OFl w lo hi A f) (hk:∀ b,lo ≤ b->b < hi->b < w.heap.size->w'.heap[b]? = w.heap[b]?):OFl w' lo hi A f:=by
 obtain ⟨hs,h,k⟩:=h;refine ⟨hs,h.keep fun b hb hl=>?_,k⟩;rcases hb with hb | ⟨x,hx,hb⟩
 . have:=k.top b hb;exact hk b this.1 this.2 hl
 obtain ⟨i,hi'⟩:=List.getElem?_of_mem hx;have:=k.in_ i x b hi' hb;exact hk b this.1 this.2.1 hl
theorem OFl.agr {w w':World} {lo hi:Nat} {A:Option Addr} {f:List Bk} {S:Nat->Prop} (h:OFl w lo hi A f) (hb:Agr S w w') (hS:∀ b,lo ≤ b->b < hi->¬ S b):OFl w' lo hi A f :=
 h.keep fun b h1 h2 hl=>hb.block b hl (hS b h1 h2)
theorem OFl.below {w w':World} {lo hi B:Nat} {A:Option Addr} {f:List Bk} (h:OFl w lo hi A f) (hb:Below B w w') (hB:w.heap.size ≤ B):OFl w' lo hi A f :=
 h.keep fun b _ _ hl=>hb.block b (by omega)
theorem OFl.alloc {w:World} {lo hi:Nat} {A:Option Addr} {f:List Bk} (h:OFl w lo hi A f) (o:Obj):OFl (w.alloc o) lo hi A f:=h.keep fun b _ _ hl=>Below.heap_alloc w o b hl

theorem zdz:∀ (f:List Bk) (hs:List (Option Addr × Nat)) (i:Nat) (b c:Bk) (x:Option Addr × Nat),f[i]? = some b->hs[i]? = some x ->
 hdrs (f.set i c) hs = setL (hdrs f hs) (i * 2) [.slice x.1 c.pages.length x.2, .int .i64 c.worn]
 | [],_,_,_,_,_,h,_=>by simp at h
 | _ :: _,[],_,_,_,_,_,h=>by simp at h
 | b :: f,x :: hs,0,b',c,x',h,h'=>by simp at h';subst h';simp [hdrs,setL]
 | b :: f, x :: hs, i + 1, b', c, x', h, h' => by
   have ih:=zdz f hs i b' c x' (by simpa using h) (by simpa using h');rw [List.set_cons_succ,hdrs,hdrs,ih];exact (by rw [show (i + 1) * 2 = 2 + i * 2 by omega];exact (Zz [_,_] _ _ _).symm)
theorem zg1:∀ (ps:List Pg) (k:Nat) (p:Pg),k < ps.length->pgs (ps.set k p) = setL (pgs ps) (k * 5) p.vs
 | [],_,_,h=>by simp at h
 | q :: ps,0,p,_=>by simp [pgs,Pg.vs,setL]
 | q :: ps, k + 1, p, h => by
   have ih:=zg1 ps k p (by simpa using h);rw [List.set_cons_succ];show q.vs ++ pgs (ps.set k p) = setL (q.vs ++ pgs ps) _ _;rw [ih,show (k + 1) * 5 = q.vs.length + k * 5 by simp [Pg.vs];omega,Zz]
theorem Qp (xs:List Int) (k:Nat) (x:Int):ints (xs.set k x) = setL (ints xs) k [.int .i64 x]:=by simp [ints,setL,List.map_set]

theorem Bks.setHdr {w w':World} {g o i:Nat} {f:List Bk} {hs:List (Option Addr × Nat)} {b:Bk} {x:Option Addr × Nat} {n:Int} {lo hi:Nat} (h:Bks w (some ⟨g,o,none⟩) f hs) (k:Apt lo hi (some ⟨g,o,none⟩) hs)
 (hb:f[i]? = some b) (hx:hs[i]? = some x) (hw:xt w w' g (o + i * 2) [.slice x.1 b.pages.length x.2, .int .i64 n]):Bks w' (some ⟨g,o,none⟩) (f.set i { b with worn:=n }) hs:=by
 have hlt:=(List.getElem?_eq_some_iff.1 hb).1;refine ⟨by simp [h.len], ?_,fun j c y hc hy=>?_⟩
 . rw [zdz f hs i b { b with worn:=n } x hb hx];exact hw.row h.row (by rw [Xc f hs h.len];simp;omega)
 have hfar:¬ blk y.1 g:=fun e=>(k.in_ j y g hy e).2.2 rfl;by_cases hj:j = i
 . subst hj;rw [List.getElem?_set_self hlt] at hc;cases hc;obtain ⟨h1,h2⟩:=h.pg j b y hb hy;exact ⟨hw.far h1 hfar,h2⟩
 rw [List.getElem?_set_ne (by omega)] at hc;obtain ⟨h1,h2⟩:=h.pg j c y hc hy;exact ⟨hw.far h1 hfar,h2⟩
theorem Bks.setPage {w w':World} {A:Option Addr} {i j pb po:Nat} {f:List Bk} {hs:List (Option Addr × Nat)} {b:Bk} {c:Nat} {p:Pg} {lo hi:Nat} (h:Bks w A f hs) (k:Apt lo hi A hs)
 (hb:f[i]? = some b) (hx:hs[i]? = some (some ⟨pb,po,none⟩,c)) (hj:j < b.pages.length) (hw:xt w w' pb (po + j * 5) p.vs):Bks w' A (f.set i { b with pages:=b.pages.set j p }) hs:=by
 have hlt:=(List.getElem?_eq_some_iff.1 hb).1;have htop:¬ blk A pb:=(k.in_ i _ pb hx rfl).2.2;refine ⟨by simp [h.len], ?_,fun m d y hd hy=>?_⟩
 . have e:hdrs (f.set i { b with pages:=b.pages.set j p }) hs = hdrs f hs:=by
    rw [zdz f hs i b _ _ hb hx];obtain ⟨g1,g2⟩:=Qq f hs i b _ hb hx;refine List.ext_getElem? fun m=>?_;rw [zdg _ _ _ _ (by rw [Xc f hs h.len];simp;omega)];split
    . rename_i hm;simp at hm;rcases (by omega:m = i * 2∨m = i * 2 + 1) with rfl | rfl
      . rw [g1];simp
      rw [g2];simp
    rfl
   rw [e];exact hw.far h.row htop
 by_cases hm:m = i
 . subst hm;rw [List.getElem?_set_self hlt] at hd;cases hd;rw [hx] at hy;cases hy;obtain ⟨h1,h2⟩:=h.pg m b _ hb hx;refine ⟨?_,by simpa using h2⟩;show Row w' _ (pgs (b.pages.set j p));rw [zg1 b.pages j p hj];exact hw.row h1 (by rw [qh];simp [Pg.vs];omega)
 rw [List.getElem?_set_ne (by omega)] at hd;obtain ⟨h1,h2⟩:=h.pg m d y hd hy;refine ⟨hw.far h1 fun e=>hm (k.two m i y _ pb hy hx e rfl),h2⟩
theorem Bks.setBlock {w w':World} {g o i:Nat} {f:List Bk} {hs:List (Option Addr × Nat)} {c:Bk} {x:Option Addr × Nat} (h:Bks w (some ⟨g,o,none⟩) f hs) (hi:i < f.length)
 (hg:∀ (j:Nat) (y:Option Addr × Nat),hs[j]? = some y->¬ blk y.1 g) (hx:¬ blk x.1 g) (hr:Row w x.1 (pgs c.pages)) (hc:c.pages.length ≤ x.2)
 (hw:xt w w' g (o + i * 2) [.slice x.1 c.pages.length x.2, .int .i64 c.worn]):Bks w' (some ⟨g,o,none⟩) (f.set i c) (hs.set i x):=by
 refine ⟨by simp [h.len], ?_,fun j d y hd hy=>?_⟩
 . have e:hdrs (f.set i c) (hs.set i x) = setL (hdrs f hs) (i * 2) [.slice x.1 c.pages.length x.2, .int .i64 c.worn]:=by
    have hl:=h.len;clear h hw hg hr
    induction f generalizing i hs with
    | nil=>simp at hi
    | cons a f ih =>
      cases hs with
      | nil=>simp at hl
      | cons z hs =>
        cases i with
        | zero=>simp [hdrs,setL]
        | succ i =>
          rw [List.set_cons_succ,List.set_cons_succ,hdrs,hdrs,ih (hs:=hs) (i:=i) (by simpa using hi) (by simpa using hl)];exact (by rw [show (i + 1) * 2 = 2 + i * 2 by omega];exact (Zz [_,_] _ _ _).symm)
   rw [e];exact hw.row h.row (by rw [Xc f hs h.len];simp;omega)
 by_cases hj:j = i
 . subst hj;rw [List.getElem?_set_self hi] at hd;rw [List.getElem?_set_self (by rw [h.len];exact hi)] at hy;cases hd;cases hy;exact ⟨hw.far hr hx,hc⟩
 rw [List.getElem?_set_ne (by omega)] at hd;rw [List.getElem?_set_ne (by omega)] at hy;obtain ⟨h1,h2⟩:=h.pg j d y hd hy;exact ⟨hw.far h1 (hg j y hy),h2⟩
theorem Apt.set {lo hi hi':Nat} {A:Option Addr} {hs:List (Option Addr × Nat)} (h:Apt lo hi A hs) (i:Nat) (x:Option Addr × Nat) (hx:∀ b,blk x.1 b->hi ≤ b∧b < hi') (hlh:lo ≤ hi) (hh:hi ≤ hi'):Apt lo hi' A (hs.set i x):=by
 have key:∀ (j:Nat) (y:Option Addr × Nat),(hs.set i x)[j]? = some y->(j = i∧y = x)∨(j ≠ i∧hs[j]? = some y):=fun j y hy=>by
  by_cases hj:j = i
  . subst hj;have hl:=(List.getElem?_eq_some_iff.1 hy).1;rw [List.getElem?_set_self (by simpa using hl)] at hy;cases hy;exact .inl ⟨rfl,rfl⟩
  rw [List.getElem?_set_ne (by omega)] at hy;exact .inr ⟨hj,hy⟩
 refine ⟨fun b hb=>by have:=h.top b hb;omega,fun j y b hy hb=>?_,fun j m y z b hy hz hb hc=>?_⟩
 . rcases key j y hy with ⟨rfl,rfl⟩ | ⟨hj,hy⟩
   . have:=hx b hb;exact ⟨by omega,by omega,fun e=>by have:=h.top b e;omega⟩
   have:=h.in_ j y b hy hb;exact ⟨by omega,by omega,this.2.2⟩
 rcases key j y hy with ⟨ej,ey⟩ | ⟨_,hy'⟩ <;> rcases key m z hz with ⟨em,ez⟩ | ⟨_,hz'⟩
 . omega
 . have h1:=hx b (ey ▸ hb);have h2:=h.in_ m z b hz' hc;omega
 . have h1:=hx b (ez ▸ hc);have h2:=h.in_ j y b hy' hb;omega
 exact h.two j m y z b hy' hz' hb hc
theorem Qw {w:World} {g o i:Nat} {f:List Bk} {hs:List (Option Addr × Nat)} {b:Bk} (h:Bks w (some ⟨g,o,none⟩) f hs) (hi:f[i]? = some b) (v u:Value) :
 xt w ((w.setCell ⟨g,o + i * 2,none⟩ v).setCell ⟨g,o + i * 2 + 1,none⟩ u) g (o + i * 2) [v,u]:=by
 obtain ⟨x,_,c0,c1,_⟩:=h.at_ hi;refine zp g [v,u] (o + i * 2) w fun j hj=>?_
 match j,hj with
 | 0,_=>exact ⟨_,c0⟩
 | 1,_=>exact ⟨_,c1⟩
def zbk:Bk:=⟨[],0⟩
theorem Bks.new (w:World) (n:Nat) (t:TypeId) (cs:Array Value) (hc:cs.toList = hdrs (List.replicate n zbk) (List.replicate n (none,0))):Bks (w.alloc (.cells cs t)) (some ⟨w.heap.size,0,none⟩) (List.replicate n zbk) (List.replicate n (none,0)) :=
 ⟨by simp,hc ▸ Row.new w cs t,fun i b x hb hx=>by
  have h1:=List.mem_of_getElem? hb;have h2:=List.mem_of_getElem? hx;rw [List.mem_replicate] at h1 h2;obtain ⟨_,rfl⟩:=h1;obtain ⟨_,rfl⟩:=h2;exact ⟨Row.nil _ _,Nat.le_refl _⟩⟩
theorem Apt.new (g:Nat) (n:Nat):Apt g (g + 1) (some ⟨g,0,none⟩) (List.replicate n ((none:Option Addr),0)) :=
 have key:∀ (i:Nat) (x:Option Addr × Nat) (b:Nat),(List.replicate n ((none:Option Addr),0))[i]? = some x->¬ blk x.1 b:=fun i x b hx hb=>by
  have h2:=List.mem_of_getElem? hx;rw [List.mem_replicate] at h2;obtain ⟨_,rfl⟩:=h2;cases hb
 ⟨fun b hb=>by cases hb;exact ⟨Nat.le_refl _,Nat.lt_succ_self _⟩,fun i x b hx hb=>absurd hb (key i x b hx),fun i j x y b hx hy hb _=>absurd hb (key i x b hx)⟩
theorem zf8 {α:Type} (z:α) (f:List α) (n k:Nat) (x:α) (h:f[k]? = some x) (hn:f.length = n):(f.take k ++ (List.replicate n z).drop k).set k x = f.take (k + 1) ++ (List.replicate n z).drop (k + 1):=by
 obtain ⟨hl,rfl⟩:=List.getElem?_eq_some_iff.1 h;rw [List.set_append_right _ _ (by simp;omega),show k - (f.take k).length = 0 by simp;omega,List.drop_eq_getElem_cons (by simp;omega),List.set_cons_zero,List.take_succ_eq_append_getElem hl,List.append_assoc];rfl
def fblk (A:Option Addr) (hs:List (Option Addr × Nat)) (b:Nat):Prop:=blk A b∨∃ (i:Nat) (x:Option Addr × Nat),hs[i]? = some x∧blk x.1 b
theorem Apt.fblk {lo hi b:Nat} {A:Option Addr} {hs:List (Option Addr × Nat)} (h:Apt lo hi A hs) (hb:fblk A hs b):lo ≤ b∧b < hi:=by
 rcases hb with hb | ⟨i,x,hx,hb⟩
 . exact h.top b hb
 have:=h.in_ i x b hx hb;exact ⟨this.1,this.2.1⟩
end
section
open Go.RowKit Go.Maps
def IMap (P:Program) (K E:TypeId) (w:World) (b n:Nat) (F:Int->Int):Prop :=
 ∃ D:DataW Unit,w.ownsMap P K (plainElem P E) b n D∧IsMap D∧∀ k,(Lit.int .i64 k).wf = true->D.atKey (.int .i64 k) (.lit (.int .i64 0)) = .lit (.int .i64 (F k))
section
variable {P:Program} {t K E:TypeId} {w w':World} {b n:Nat} {F:Int->Int}
theorem IMap.made (P:Program) (K E:TypeId) (w:World):IMap P K E (w.alloc (.map #[] 0)) w.heap.size 0 (fun _=>0):=⟨_,World.ownsMap_made _ _ _ _,isMap_empty,fun k _=>rfl⟩
theorem IMap.mono (h:IMap P K E w b n F) {m:Nat} (hm:n ≤ m):IMap P K E w b m F:=by
 obtain ⟨D,h1,h2⟩:=h;exact ⟨D,h1.mono hm,h2⟩
theorem IMap.lt (h:IMap P K E w b n F):b < w.heap.size:=by obtain ⟨D,h1,_⟩:=h;exact h1.lt
theorem IMap.below {B:Nat} (h:IMap P K E w b n F) (hb:Below B w w') (hB:b < B):IMap P K E w' b n F:=by
 have hl:=h.lt;obtain ⟨D,⟨es,clock,e,r⟩,h2⟩:=h;exact ⟨D,⟨es,clock,(hb.block b hB).trans e,r⟩,h2⟩
theorem IMap.alloc (h:IMap P K E w b n F) (o:Obj):IMap P K E (w.alloc o) b n F:=by
 obtain ⟨D,h1,h2⟩:=h;exact ⟨D,h1.alloc o,h2⟩
theorem IMap.setCell (h:IMap P K E w b n F) {a:Addr} (ha:b ≠ a.block) (u:Value):IMap P K E (w.setCell a u) b n F:=by
 obtain ⟨D,h1,h2⟩:=h;exact ⟨D,h1.setCell ha u,h2⟩
theorem IMap.look (h:IMap P K E w b n F) (ht:P.underlying t = some (.map K E)) (hK:P.underlying K = some (.int .i64)) (hE:P.underlying E = some (.int .i64)) (hz:∀ w:World,(zeroValue E).run P w = .ok (.int .i64 0) w) {k:Int} (hk:(Lit.int .i64 k).wf = true) :
 (Instr.lookup t (.map (some b)) (.int .i64 k) false).run P w = .ok (.int .i64 (F k)) w:=by
 obtain ⟨D,h1,_,h3⟩:=h;obtain ⟨c,hrun,hat,_⟩:=h1.lookup_int (int_keyed hK) ht hE (hz w) (keyOf_int_mk hK hk);rw [h3 k hk] at hat;rw [hrun];injection hat with e1;injection e1 with _ e2;rw [e2]
theorem Xz (k:Int) (hk:(Lit.int .i64 k).wf = true):WideAt.IsKeyLit (.int .i64 k):=by
 simp [WideAt.IsKeyLit]
theorem IMap.put (h:IMap P K E w b n F) (ht:P.underlying t = some (.map K E)) (hK:P.underlying K = some (.int .i64)) (hE:P.underlying E = some (.int .i64)) (hn:n < maxLen) {k v:Int} (hk:(Lit.int .i64 k).wf = true) (hv:(Lit.int .i64 v).wf = true) :
 ∃ w',(Instr.mapUpdate t (.map (some b)) (.int .i64 k) (.int .i64 v)).run P w = .ok () w'∧IMap P K E w' b (n + 1) (fun x=>if x = k then v else F x)∧w.grownBy w' (some b):=by
 obtain ⟨D,h1,h2,h3⟩:=h;obtain ⟨w',hrun,g1,g2⟩:=h1.update (int_keyed hK) ht hn (keyOf_int_mk hK hk) (plainElem_int hE hv);refine ⟨w',hrun,⟨_,g1,h2.put _ _,fun x hx=>?_⟩,g2⟩;dsimp only;by_cases e:x = k
 . subst e;rw [if_pos rfl,atKey_put_same h2 (Xz _ hk)]
 rw [if_neg e,atKey_put_other (by intro e';injection e' with _ e'';exact e e''),h3 x hx]
end
end
section
open Go.RowKit
theorem Xb (a:Int) (w:World):Calls Tryz.prog 74 #[.int .i64 a] w fun e w'=>e = .returned (.bool (jk a))∧w = w':=by
 go_enter Tryz.func74,Tryz.ntmps74
 go_wp2;all_goals (go_ret;exact ⟨zg (by unfold jk;simp [*] <;> omega),rfl⟩)
theorem Kd (a:Int) (w:World):Calls Tryz.prog 34 #[.int .i64 a] w fun e w'=>e = .returned (.bool (valB a))∧w = w':=by
 go_enter Tryz.func34,Tryz.ntmps34
 go_wp2;all_goals (go_ret;exact ⟨zg (by unfold valB;simp [*] <;> omega),rfl⟩)
theorem yf (a:Int) (w:World):Calls Tryz.prog 75 #[.int .i64 a] w fun e w'=>e = .returned (.bool (j9 a))∧w = w':=by
 go_enter Tryz.func75,Tryz.ntmps75
 go_wp2;all_goals (go_ret;exact ⟨zg (by unfold j9;simp [*] <;> omega),rfl⟩)
theorem kw (n lo hi:Int) (w:World):Calls Tryz.prog 69 #[.int .i64 n, .int .i64 lo, .int .i64 hi] w fun e w'=>e = .returned (.bool (decide (lo ≤ n) && decide (n ≤ hi)))∧w = w':=by
 go_enter Tryz.func69,Tryz.ntmps69
 go_wp2;all_goals (go_ret;exact ⟨zg (by simp [*] <;> omega),rfl⟩)

def zm9 (k s a v:Int) (w:World) (e:Ending) (w':World):Prop :=
 ((zdr k = false∧e = .returned .nilIface)∨(zdr k = true∧∃ t,(t = 181∨t = 182)∧e = .returned (.iface t (.agg #[.int .i64 k, .int .i64 s, .int .i64 a, .int .i64 v]))))∧Below w.heap.size w w'
theorem zfk (k s a v:Int) (w:World):Calls Tryz.prog 109 #[.agg #[.int .i64 k, .int .i64 s, .int .i64 a, .int .i64 v]] w (zm9 k s a v w):=by
 have hB:Below w.heap.size w (w.alloc (.cells #[.int .i64 k, .int .i64 s, .int .i64 a, .int .i64 v] 64)):=(Below.refl _ _).alloc nl _;by_cases h1:k = 1
 . subst h1
   go_enter Tryz.func109,Tryz.ntmps109
   go_wp2;go_ret;exact ⟨.inr ⟨rfl,_, .inl rfl,rfl⟩,hB⟩
 by_cases h2:k = 2
 . subst h2
   go_enter Tryz.func109,Tryz.ntmps109
   go_wp2;go_ret;exact ⟨.inr ⟨rfl,_, .inr rfl,rfl⟩,hB⟩
 have hk:Hid (zdr k = false):=by unfold Hid zdr;simp [h1,h2]
 go_enter Tryz.func109,Tryz.ntmps109
 go_wp2;go_ret;exact ⟨.inl ⟨hk.out,rfl⟩,hB⟩

theorem Ke (r:Rc) (w:World):Calls Tryz.prog 62 #[.agg #[.int .i64 r.kind, .int .i64 r.seq, .int .i64 r.addr, .int .i64 r.val]] w fun e w'=>e = .returned (.bool (xj r))∧Below w.heap.size w w':=by
 obtain ⟨k,s,a,v⟩:=r;dsimp only
 go_enter Tryz.func62,Tryz.ntmps62
 go_wp2_with fail
 refine (zfk k s a v _).mono ?_;rintro e w1 ⟨⟨hk,rfl⟩ | ⟨hk,t,ht,rfl⟩,hb⟩
 . go_wp2;go_ret;exact ⟨zg (by simp [xj,hk]),((Below.refl _ _).alloc nl _).trans (hb.mono (by simp))⟩
 have hB:Below w.heap.size w w1:=((Below.refl _ _).alloc nl _).trans (hb.mono (by simp));have c1:w1.cell? ⟨w.heap.size,1,none⟩ = some (.int .i64 s):=(hb.cell (by simp)).trans (by simp);have c2:w1.cell? ⟨w.heap.size,2,none⟩ = some (.int .i64 a):=(hb.cell (by simp)).trans (by simp);have c3:w1.cell? ⟨w.heap.size,3,none⟩ = some (.int .i64 v):=(hb.cell (by simp)).trans (by simp);clear hb;have hq:xj ⟨k,s,a,v⟩ = (decide (1 ≤ s) && (decide (s ≤ 600) && (jk a && valB v))):=by simp [xj,hk]
 have Hq:=Lib.hid hq;clear hk ht hq;go_wp2_with (first | (go_at_call 74;refine (Xb _ _).mono ?_;rintro e w' ⟨rfl,rfl⟩) | (go_at_call 34;refine (Kd _ _).mono ?_;rintro e w' ⟨rfl,rfl⟩))
 all_goals (go_ret;refine ⟨zg ?_,hB⟩;rw [Hq.out];simp [*] <;> omega)
end
section
open Go.Conc Go.ConcN Go.ConcR.Gen Go.RowKit
open Go.ConcR (DC0)
theorem zif {S:Nat->Prop} {H:List (Nat × Obj)} {ob:Obj} (c:Nat) (hS:∀ p ∈ H,S p.1):∀ p ∈ (c,ob) :: H,(fun y=>S y∨y = c) p.1:=by
 intro p hp;rcases List.mem_cons.1 hp with rfl | hp
 . exact .inr rfl
 exact .inl (hS p hp)
theorem zie {S:Nat->Prop} {H:List (Nat × Obj)} {u:Nat} {o:Obj} (o':Obj) (hS:∀ p ∈ (u,o) :: H,S p.1):∀ p ∈ (u,o') :: H,S p.1:=by
 intro p hp;rcases List.mem_cons.1 hp with rfl | hp
 . exact hS (u,o) (List.mem_cons_self ..)
 exact hS p (List.mem_cons_of_mem _ hp)
theorem Ph.KB.cell {Φ:Ph} {H:List (Nat × Obj)} {w:World} (h:Φ.KB H w) {b:Nat} {cs:Array Value} {t:TypeId} (hp:(b,Obj.cells cs t) ∈ H) (j:Nat):w.cell? ⟨b,j,none⟩ = cs[j]?:=by
 have:=h.held _ hp;simp [World.cell?,this]
theorem Ph.KB.thaw {Φ:Ph} {H:List (Nat × Obj)} {w:World} (h:Φ.KB H w) {b:Nat} {cs:Array Value} {t:TypeId} (hp:(b,Obj.cells cs t) ∈ H) (j:Nat):w.frozen? ⟨b,j,none⟩ = false:=by
 have:=h.held _ hp;simp [World.frozen?,this]
theorem yk {w:World} {u j:Nat} {cs:Array Value} {t:TypeId} {v:Value} (h:w.heap[u]? = some (.cells cs t)):(w.setCell ⟨u,j,none⟩ v).heap[u]? = some (.cells (cs.setIfInBounds j v) t):=by
 simp [World.setCell,Array.getElem?_modify,h]
theorem Ph.KB.set {Φ:Ph} (kk:Φ.Ok) {H:List (Nat × Obj)} {w:World} {u j:Nat} {cs:Array Value} {t:TypeId} {v:Value} (h:Φ.KB ((u, .cells cs t) :: H) w) (hne:∀ p ∈ H,p.1 ≠ u):Φ.KB ((u, .cells (cs.setIfInBounds j v) t) :: H) (w.setCell ⟨u,j,none⟩ v):=by
 have kC:=kk.hC;have kW:=kk.hW;have hu:Φ.n0 ≤ u:=h.lo _ (List.mem_cons_self ..);have st:∀ b,b ≠ u->(w.setCell ⟨u,j,none⟩ v).heap[b]? = w.heap[b]?:=fun b hb=>Below.heap_setCell w ⟨u,j,none⟩ v b hb;refine ⟨fun b hb h1 h2=>(st b (by omega)).trans (h.old b hb h1 h2),let ⟨c,h1,h2⟩:=h.pay;⟨c,(st _ (by omega)).trans h1,h2⟩,let ⟨a,b,hl⟩:=h.live;⟨a,b,hl.of_block (st _ (by omega))⟩,by simpa [World.setCell] using h.n0,fun p hp=>?_,fun p hp=>?_⟩
 . rcases List.mem_cons.1 hp with rfl | hp
   . exact yk (h.held _ (List.mem_cons_self ..))
   exact (st _ (hne p hp)).trans (h.held p (List.mem_cons_of_mem _ hp))
 rcases List.mem_cons.1 hp with rfl | hp
 . exact hu
 exact h.lo p (List.mem_cons_of_mem _ hp)
noncomputable def woB:Code:=match Tryz.f56.body with | some (.seq _ (.seq _ (.seq (.seq _ (.block _ (.loop c))) _)))=>c | _=>.skip
noncomputable def woT:Code:=match Tryz.f56.body with | some (.seq _ (.seq _ (.seq _ c)))=>c | _=>.skip
section
variable {Φ:Ph} {i x:Nat} {S:Nat->Prop} {H:List (Nat × Obj)} {w:World} {cs:List Frame}
theorem wo0 (kk:Φ.Ok) (hS:∀ p ∈ H,S p.1) (hF:Φ.KB H w) (A:Option Addr) (n c:Nat) (wn:Int)
 (next:∀ w b r u T,Φ.KB ((u, .cells #[.int .i64 wn, .int .i64 0] 58) :: (r, .cells #[.int .i64 0, .int .i64 0] 58) :: (b, .cells #[.slice A n c, .int .i64 wn] 99) :: H) w ->
  (∀ p ∈ (r,Obj.cells #[.int .i64 0, .int .i64 0] 58) :: (b,Obj.cells #[.slice A n c, .int .i64 wn] 99) :: H,p.1 ≠ u)->(∀ p ∈ (b,Obj.cells #[.slice A n c, .int .i64 wn] 99) :: H,p.1 ≠ r)->T.size = 25->T[2]? = some (.pointer (some ⟨r,0,none⟩))->T[3]? = some (.pointer (some ⟨u,0,none⟩))->T[10]? = some (.slice A n c)->T[11]? = some (.int .i64 n)->T[12]? = some (.int .i64 0) ->
  Φ.Loc Tryz.prog i x (fun y=>((S y∨y = b)∨y = r)∨y = u) 60 (G ((base 56).at ⟨T,[]⟩ [.code woB, .inLoop woB, .inBlock 0, .code woT]) cs) w)
 : Φ.Loc Tryz.prog i (x + 3) S 10 (G ((base 56).at ⟨#[.agg #[.slice A n c, .int .i64 wn],undef,undef,undef,undef,undef,undef,undef,undef,undef,undef,undef,undef,undef,undef,undef,undef,undef,undef,undef,undef,undef,undef,undef,undef],[]⟩ [.code (Tryz.f56.body.getD .skip)]) cs) w:=by
 simp only [Tryz.f56,Option.getD_some];refine z7 rfl (fun w=>stepG_seq) ?_;refine z7 rfl (fun w=>stepG_region) ?_;simp only [sz,Nat.reduceAdd,Nat.zero_add,List.range,List.range.loop];refine zix (n:=120) kk hS hF rfl rfl (by k_ne) (fun b=>.pointer (some ⟨b,0,none⟩)) (.cells #[.slice A n c, .int .i64 wn] 99) (fun w hw=>⟨by go_simp,listed_nil (by simp [go_sem, *])⟩) (fun w b hcb hneb hF=>?_);replace hS:=@zif S _ (.cells #[.slice A n c, .int .i64 wn] 99) b hS;walk_nrm;refine zix (n:=120) kk hS hF rfl rfl (by k_ne) (fun b=>.pointer (some ⟨b,0,none⟩)) (.cells #[.int .i64 0, .int .i64 0] 58) (fun w hw=>⟨by go_simp,listed_nil (by simp [go_sem, *])⟩) (fun w r hcr hner hF=>?_);replace hS:=@zif (fun y=>S y∨y = b) _ (.cells #[.int .i64 0, .int .i64 0] 58) r hS;walk_nrm;refine z7 rfl (fun w=>stepG_region_end) ?_;refine z7 rfl (fun w=>stepG_seq) ?_;refine z7 rfl (fun w=>stepG_region) ?_;simp only [sz,Nat.reduceAdd,Nat.zero_add,List.range,List.range.loop];refine ko hS hF rfl rfl (by k_ne) (fun w hw=>⟨run_eq_of (fun K hK=>by go_simp;exact hK),by rw [listed_nil (by simp [go_sem, *])];simp⟩) ?_;walk_nrm;refine ko hS hF rfl rfl (by k_ne) (fun w hw=>⟨run_eq_of (fun K hK=>by have h0:w.cell? ⟨b,1,none⟩ = some (.int .i64 wn):=(hw.cell (b:=b) (cs:=#[.slice A n c, .int .i64 wn]) (t:=99) (by simp) 1).trans rfl;go_simp;exact hK),by have h0:w.cell? ⟨b,1,none⟩ = some (.int .i64 wn):=(hw.cell (b:=b) (cs:=#[.slice A n c, .int .i64 wn]) (t:=99) (by simp) 1).trans rfl;intro e he;have hm:=mem_listed he;simp [go_sem, *] at hm;rcases hm with rfl <;> exact ⟨_,rfl,hw.lt (p:=(b, .cells #[.slice A n c, .int .i64 wn] 99)) (by simp), .inl (hS (b, .cells #[.slice A n c, .int .i64 wn] 99) (by simp))⟩⟩) ?_
 walk_nrm;refine ko hS hF rfl rfl (by k_ne) (fun w hw=>⟨run_eq_of (fun K hK=>by go_simp;exact hK),by rw [listed_nil (by simp [go_sem, *])];simp⟩) ?_;walk_nrm;refine zix (n:=120) kk hS hF rfl rfl (by k_ne) (fun b=>.pointer (some ⟨b,0,none⟩)) (.cells #[.int .i64 0, .int .i64 0] 58) (fun w hw=>⟨by go_simp,listed_nil (by simp [go_sem, *])⟩) (fun w u hcu hneu hF=>?_);replace hS:=@zif (fun y=>(fun y=>S y∨y = b) y∨y = r) _ (.cells #[.int .i64 0, .int .i64 0] 58) u hS;walk_nrm;have hneu':∀ p ∈ (r,Obj.cells #[.int .i64 0, .int .i64 0] 58) :: (b,Obj.cells #[.slice A n c, .int .i64 wn] 99) :: H,p.1 ≠ u:=hneu;refine ziw hS hF rfl rfl (by k_ne) (fun w=>((w).setCell ⟨u,0,none⟩ (.int .i64 wn)).setCell ⟨u,1,none⟩ (.int .i64 0)) (fun w hw=>⟨by have h0:w.cell? ⟨u,0,none⟩ = some (.int .i64 0):=(hw.cell (b:=u) (cs:=#[.int .i64 0, .int .i64 0]) (t:=58) (by simp) 0).trans rfl;have h1:w.cell? ⟨u,1,none⟩ = some (.int .i64 0):=(hw.cell (b:=u) (cs:=#[.int .i64 0, .int .i64 0]) (t:=58) (by simp) 1).trans rfl;have z0:=hw.thaw (b:=u) (cs:=#[.int .i64 0, .int .i64 0]) (t:=58) (by simp) 0;have z1:=hw.thaw (b:=u) (cs:=#[.int .i64 0, .int .i64 0]) (t:=58) (by simp) 1;go_simp,⟨by simp [World.setCell],fun y hy=>by have hyu:y ≠ u:=fun e=>hy (e ▸ hS (u, .cells #[.int .i64 0, .int .i64 0] 58) (by simp));simp [Below.heap_setCell,hyu],by simp [World.setCell],by simp [World.setCell],by have h0:w.cell? ⟨u,0,none⟩ = some (.int .i64 0):=(hw.cell (b:=u) (cs:=#[.int .i64 0, .int .i64 0]) (t:=58) (by simp) 0).trans rfl;have h1:w.cell? ⟨u,1,none⟩ = some (.int .i64 0):=(hw.cell (b:=u) (cs:=#[.int .i64 0, .int .i64 0]) (t:=58) (by simp) 1).trans rfl;have z0:=hw.thaw (b:=u) (cs:=#[.int .i64 0, .int .i64 0]) (t:=58) (by simp) 0;have z1:=hw.thaw (b:=u) (cs:=#[.int .i64 0, .int .i64 0]) (t:=58) (by simp) 1;intro e he;have hm:=mem_listed he;simp [go_sem, *] at hm;rcases hm with rfl | rfl <;> exact ⟨_,true,rfl,hw.lt (p:=(u, .cells #[.int .i64 0, .int .i64 0] 58)) (by simp), .inl (hS (u, .cells #[.int .i64 0, .int .i64 0] 58) (by simp))⟩⟩,((((hw).set kk (j:=0) (v:=.int .i64 wn) hneu')).set kk (j:=1) (v:=.int .i64 0) hneu')⟩) (fun w hF=>?_)
 walk_nrm;replace hF:Φ.KB ((u, .cells #[.int .i64 wn, .int .i64 0] 58) :: (r, .cells #[.int .i64 0, .int .i64 0] 58) :: (b, .cells #[.slice A n c, .int .i64 wn] 99) :: H) w:=by simpa using hF
 replace hS:=@zie (fun y=>(fun y=>(fun y=>S y∨y = b) y∨y = r) y∨y = u) _ _ _ (.cells #[.int .i64 wn, .int .i64 0] 58) hS;refine z7 rfl (fun w=>stepG_region_end) ?_;refine z7 rfl (fun w=>stepG_seq) ?_;refine z7 rfl (fun w=>stepG_seq) ?_;refine z7 rfl (fun w=>stepG_region) ?_;simp only [sz,Nat.reduceAdd,Nat.zero_add,List.range,List.range.loop];refine ko hS hF rfl rfl (by k_ne) (fun w hw=>⟨run_eq_of (fun K hK=>by go_simp;exact hK),by rw [listed_nil (by simp [go_sem, *])];simp⟩) ?_;walk_nrm;refine ko hS hF rfl rfl (by k_ne) (fun w hw=>⟨run_eq_of (fun K hK=>by have h0:w.cell? ⟨b,0,none⟩ = some (.slice A n c):=(hw.cell (b:=b) (cs:=#[.slice A n c, .int .i64 wn]) (t:=99) (by simp) 0).trans rfl;go_simp;exact hK),by have h0:w.cell? ⟨b,0,none⟩ = some (.slice A n c):=(hw.cell (b:=b) (cs:=#[.slice A n c, .int .i64 wn]) (t:=99) (by simp) 0).trans rfl;intro e he;have hm:=mem_listed he;simp [go_sem, *] at hm;rcases hm with rfl <;> exact ⟨_,rfl,hw.lt (p:=(b, .cells #[.slice A n c, .int .i64 wn] 99)) (by simp), .inl (hS (b, .cells #[.slice A n c, .int .i64 wn] 99) (by simp))⟩⟩) ?_
 walk_nrm;refine ko hS hF rfl rfl (by k_ne) (fun w hw=>⟨run_eq_of (fun K hK=>by go_simp;exact hK),by rw [listed_nil (by simp [go_sem, *])];simp⟩) ?_;walk_nrm;refine ko hS hF rfl rfl (by k_ne) (fun w hw=>⟨run_eq_of (fun K hK=>by go_simp;exact hK),by rw [listed_nil (by simp [go_sem, *])];simp⟩) ?_;walk_nrm;refine z7 rfl (fun w=>stepG_region_end) ?_;refine z7 rfl (fun w=>stepG_block) ?_;refine z7 rfl (fun w=>stepG_loop) ?_

 exact Goes.mono (next _ b r u _ hF hneu' hner rfl rfl rfl rfl rfl rfl) (by omega)
end
end
section
open Go.Conc Go.ConcN Go.ConcR.Gen Go.RowKit
open Go.ConcR (DC0)
theorem zqx (T:Array Value) (h:T.size = 25):∃ v0 v1 v2 v3 v4 v5 v6 v7 v8 v9 v10 v11 v12 v13 v14 v15 v16 v17 v18 v19 v20 v21 v22 v23 v24,T = #[v0,v1,v2,v3,v4,v5,v6,v7,v8,v9,v10,v11,v12,v13,v14,v15,v16,v17,v18,v19,v20,v21,v22,v23,v24]:=by
 obtain ⟨l⟩:=T;simp only [List.size_toArray] at h;rcases l with _ | ⟨v0,l⟩
 . simp at h
 rcases l with _ | ⟨v1,l⟩
 . simp at h
 rcases l with _ | ⟨v2,l⟩
 . simp at h
 rcases l with _ | ⟨v3,l⟩
 . simp at h
 rcases l with _ | ⟨v4,l⟩
 . simp at h
 rcases l with _ | ⟨v5,l⟩
 . simp at h
 rcases l with _ | ⟨v6,l⟩
 . simp at h
 rcases l with _ | ⟨v7,l⟩
 . simp at h
 rcases l with _ | ⟨v8,l⟩
 . simp at h
 rcases l with _ | ⟨v9,l⟩
 . simp at h
 rcases l with _ | ⟨v10,l⟩
 . simp at h
 rcases l with _ | ⟨v11,l⟩
 . simp at h
 rcases l with _ | ⟨v12,l⟩
 . simp at h
 rcases l with _ | ⟨v13,l⟩
 . simp at h
 rcases l with _ | ⟨v14,l⟩
 . simp at h
 rcases l with _ | ⟨v15,l⟩
 . simp at h
 rcases l with _ | ⟨v16,l⟩
 . simp at h
 rcases l with _ | ⟨v17,l⟩
 . simp at h
 rcases l with _ | ⟨v18,l⟩
 . simp at h
 rcases l with _ | ⟨v19,l⟩
 . simp at h
 rcases l with _ | ⟨v20,l⟩
 . simp at h
 rcases l with _ | ⟨v21,l⟩
 . simp at h
 rcases l with _ | ⟨v22,l⟩
 . simp at h
 rcases l with _ | ⟨v23,l⟩
 . simp at h
 rcases l with _ | ⟨v24,l⟩
 . simp at h
 obtain rfl:l = []:=List.eq_nil_of_length_eq_zero (by simpa using h);exact ⟨_,_,_,_,_,_,_,_,_,_,_,_,_,_,_,_,_,_,_,_,_,_,_,_,_,rfl⟩
section
variable {Φ:Ph} {i x:Nat} {S:Nat->Prop} {H:List (Nat × Obj)} {w:World} {cs:List Frame}
theorem Ph.KB.tail {q:Nat × Obj} (h:Φ.KB (q :: H) w):Φ.KB H w:=⟨h.old,h.pay,h.live,h.n0,fun p hp=>h.held p (List.mem_cons_of_mem _ hp),fun p hp=>h.lo p (List.mem_cons_of_mem _ hp)⟩
theorem zo9 (kk:Φ.Ok) {u pb po n c k:Nat} {wn t st p1 p2 p3 p4:Int} {T:Array Value} {items:List Item} (hne:∀ p ∈ H,p.1 ≠ u) (hS:∀ p ∈ (u,Obj.cells #[.int .i64 wn, .int .i64 t] 58) :: H,S p.1) (hF:Φ.KB ((u, .cells #[.int .i64 wn, .int .i64 t] 58) :: H) w)
 (hro:Φ.Ro pb) (hk:k < n) (hn:n < 1000000)
 (hpg:∀ w,Φ.Old w->w.cell? ⟨pb,po + k * 5,none⟩ = some (.int .i64 st)∧w.cell? ⟨pb,po + k * 5 + 1,none⟩ = some (.int .i64 p1)∧w.cell? ⟨pb,po + k * 5 + 2,none⟩ = some (.int .i64 p2)∧w.cell? ⟨pb,po + k * 5 + 3,none⟩ = some (.int .i64 p3)∧w.cell? ⟨pb,po + k * 5 + 4,none⟩ = some (.int .i64 p4))
 (hT:T.size = 25) (h3:T[3]? = some (.pointer (some ⟨u,0,none⟩))) (h10:T[10]? = some (.slice (some ⟨pb,po,none⟩) n c)) (h11:T[11]? = some (.int .i64 n)) (h12:T[12]? = some (.int .i64 k)) (ht:0 ≤ t∧t < 1000000)
 (next:∀ w p T',Φ.KB ((u, .cells #[.int .i64 wn, .int .i64 (if st = 2 then t + 1 else t)] 58) :: H) w->T'.size = 25->T'[2]? = T[2]?->T'[3]? = some (.pointer (some ⟨u,0,none⟩))->T'[10]? = some (.slice (some ⟨pb,po,none⟩) n c)->T'[11]? = some (.int .i64 n)->T'[12]? = some (.int .i64 (k + 1:Nat)) ->
  Φ.Loc Tryz.prog i x (fun y=>S y∨y = p) 60 (G ((base 56).at ⟨T',[]⟩ (.code woB :: .inLoop woB :: items)) cs) w) :
 Φ.Loc Tryz.prog i (x + 1) S 40 (G ((base 56).at ⟨T,[]⟩ (.code woB :: .inLoop woB :: items)) cs) w:=by
 obtain ⟨v0,v1,v2,v3,v4,v5,v6,v7,v8,v9,v10,v11,v12,v13,v14,v15,v16,v17,v18,v19,v20,v21,v22,v23,v24,rfl⟩:=zqx T hT;simp only [List.getElem?_toArray,List.getElem?_cons_succ,List.getElem?_cons_zero,Option.some.injEq] at h3 h10 h11 h12;subst h3 h10 h11 h12;simp only [woB,Tryz.f56];refine z7 rfl (fun w=>stepG_seq) ?_;refine z7 rfl (fun w=>stepG_region) ?_;simp only [sz,Nat.reduceAdd,Nat.zero_add,List.range,List.range.loop];refine ko hS hF rfl rfl (by k_ne) (fun w hw=>⟨run_eq_of (fun K hK=>by go_simp;exact hK),by rw [listed_nil (by simp [go_sem, *])];simp⟩) ?_;walk_nrm;refine z7 rfl (fun w=>stepG_region_end) ?_;refine z7 rfl (fun w=>stepG_seq) ?_;have hkn:decide ((k:Int) < (n:Int)) = true:=decide_eq_true (by omega);refine z7 rfl (fun w=>stepG_cond (t:=true) (by simp [Act.eval,hkn])) ?_;simp only [if_true];refine z7 rfl (fun w=>stepG_skip) ?_;refine z7 rfl (fun w=>stepG_seq) ?_;refine z7 rfl (fun w=>stepG_block) ?_;refine z7 rfl (fun w=>stepG_seq) ?_;refine z7 rfl (fun w=>stepG_region) ?_;simp only [sz,Nat.reduceAdd,Nat.zero_add,List.range,List.range.loop];refine ko hS hF rfl rfl (by k_ne) (fun w hw=>⟨run_eq_of (fun K hK=>by have hkn2:(k:Int) < (n:Int):=(by omega);go_simp;exact hK),by rw [listed_nil (by simp [go_sem, *])];simp⟩) ?_;walk_nrm;refine ko hS hF rfl rfl (by k_ne) (fun w hw=>⟨run_eq_of (fun K hK=>by obtain ⟨g0,g1,g2,g3,g4⟩:=hpg w hw.old;go_simp;exact hK),by obtain ⟨g0,g1,g2,g3,g4⟩:=hpg w hw.old;intro e he;have hm:=mem_listed he;simp [go_sem, *] at hm;rcases hm with rfl | rfl | rfl | rfl | rfl <;> exact ⟨_,rfl,Nat.lt_of_lt_of_le hro.1 hw.n0, .inr hro⟩⟩) ?_
 walk_nrm;refine zix (n:=120) kk hS hF rfl rfl (by k_ne) (fun b=>.pointer (some ⟨b,0,none⟩)) (.cells #[.int .i64 0, .int .i64 0, .int .i64 0, .int .i64 0, .int .i64 0] 76) (fun w hw=>⟨by go_simp,listed_nil (by simp [go_sem, *])⟩) (fun w p hcp hnep hF=>?_);replace hS:=@zif S _ (.cells #[.int .i64 0, .int .i64 0, .int .i64 0, .int .i64 0, .int .i64 0] 76) p hS;walk_nrm;have hnep':∀ q ∈ (u,Obj.cells #[.int .i64 wn, .int .i64 t] 58) :: H,q.1 ≠ p:=hnep;refine ziw hS hF rfl rfl (by k_ne) (fun w=>(((((w).setCell ⟨p,0,none⟩ (.int .i64 st)).setCell ⟨p,1,none⟩ (.int .i64 p1)).setCell ⟨p,2,none⟩ (.int .i64 p2)).setCell ⟨p,3,none⟩ (.int .i64 p3)).setCell ⟨p,4,none⟩ (.int .i64 p4)) (fun w hw=>⟨by have h0:w.cell? ⟨p,0,none⟩ = some (.int .i64 0):=(hw.cell (b:=p) (cs:=#[.int .i64 0, .int .i64 0, .int .i64 0, .int .i64 0, .int .i64 0]) (t:=76) (by simp) 0).trans rfl;have h1:w.cell? ⟨p,1,none⟩ = some (.int .i64 0):=(hw.cell (b:=p) (cs:=#[.int .i64 0, .int .i64 0, .int .i64 0, .int .i64 0, .int .i64 0]) (t:=76) (by simp) 1).trans rfl;have h2:w.cell? ⟨p,2,none⟩ = some (.int .i64 0):=(hw.cell (b:=p) (cs:=#[.int .i64 0, .int .i64 0, .int .i64 0, .int .i64 0, .int .i64 0]) (t:=76) (by simp) 2).trans rfl;have h3:w.cell? ⟨p,3,none⟩ = some (.int .i64 0):=(hw.cell (b:=p) (cs:=#[.int .i64 0, .int .i64 0, .int .i64 0, .int .i64 0, .int .i64 0]) (t:=76) (by simp) 3).trans rfl;have h4:w.cell? ⟨p,4,none⟩ = some (.int .i64 0):=(hw.cell (b:=p) (cs:=#[.int .i64 0, .int .i64 0, .int .i64 0, .int .i64 0, .int .i64 0]) (t:=76) (by simp) 4).trans rfl;have z0:=hw.thaw (b:=p) (cs:=#[.int .i64 0, .int .i64 0, .int .i64 0, .int .i64 0, .int .i64 0]) (t:=76) (by simp) 0;have z1:=hw.thaw (b:=p) (cs:=#[.int .i64 0, .int .i64 0, .int .i64 0, .int .i64 0, .int .i64 0]) (t:=76) (by simp) 1;have z2:=hw.thaw (b:=p) (cs:=#[.int .i64 0, .int .i64 0, .int .i64 0, .int .i64 0, .int .i64 0]) (t:=76) (by simp) 2;have z3:=hw.thaw (b:=p) (cs:=#[.int .i64 0, .int .i64 0, .int .i64 0, .int .i64 0, .int .i64 0]) (t:=76) (by simp) 3;have z4:=hw.thaw (b:=p) (cs:=#[.int .i64 0, .int .i64 0, .int .i64 0, .int .i64 0, .int .i64 0]) (t:=76) (by simp) 4;go_simp,⟨by simp [World.setCell],fun y hy=>by have hyu:y ≠ p:=fun e=>hy (e ▸ hS (p, .cells #[.int .i64 0, .int .i64 0, .int .i64 0, .int .i64 0, .int .i64 0] 76) (by simp));simp [Below.heap_setCell,hyu],by simp [World.setCell],by simp [World.setCell],by have h0:w.cell? ⟨p,0,none⟩ = some (.int .i64 0):=(hw.cell (b:=p) (cs:=#[.int .i64 0, .int .i64 0, .int .i64 0, .int .i64 0, .int .i64 0]) (t:=76) (by simp) 0).trans rfl;have h1:w.cell? ⟨p,1,none⟩ = some (.int .i64 0):=(hw.cell (b:=p) (cs:=#[.int .i64 0, .int .i64 0, .int .i64 0, .int .i64 0, .int .i64 0]) (t:=76) (by simp) 1).trans rfl;have h2:w.cell? ⟨p,2,none⟩ = some (.int .i64 0):=(hw.cell (b:=p) (cs:=#[.int .i64 0, .int .i64 0, .int .i64 0, .int .i64 0, .int .i64 0]) (t:=76) (by simp) 2).trans rfl;have h3:w.cell? ⟨p,3,none⟩ = some (.int .i64 0):=(hw.cell (b:=p) (cs:=#[.int .i64 0, .int .i64 0, .int .i64 0, .int .i64 0, .int .i64 0]) (t:=76) (by simp) 3).trans rfl;have h4:w.cell? ⟨p,4,none⟩ = some (.int .i64 0):=(hw.cell (b:=p) (cs:=#[.int .i64 0, .int .i64 0, .int .i64 0, .int .i64 0, .int .i64 0]) (t:=76) (by simp) 4).trans rfl;have z0:=hw.thaw (b:=p) (cs:=#[.int .i64 0, .int .i64 0, .int .i64 0, .int .i64 0, .int .i64 0]) (t:=76) (by simp) 0;have z1:=hw.thaw (b:=p) (cs:=#[.int .i64 0, .int .i64 0, .int .i64 0, .int .i64 0, .int .i64 0]) (t:=76) (by simp) 1;have z2:=hw.thaw (b:=p) (cs:=#[.int .i64 0, .int .i64 0, .int .i64 0, .int .i64 0, .int .i64 0]) (t:=76) (by simp) 2;have z3:=hw.thaw (b:=p) (cs:=#[.int .i64 0, .int .i64 0, .int .i64 0, .int .i64 0, .int .i64 0]) (t:=76) (by simp) 3;have z4:=hw.thaw (b:=p) (cs:=#[.int .i64 0, .int .i64 0, .int .i64 0, .int .i64 0, .int .i64 0]) (t:=76) (by simp) 4;intro e he;have hm:=mem_listed he;simp [go_sem, *] at hm;rcases hm with rfl | rfl | rfl | rfl | rfl <;> exact ⟨_,true,rfl,hw.lt (p:=(p, .cells #[.int .i64 0, .int .i64 0, .int .i64 0, .int .i64 0, .int .i64 0] 76)) (by simp), .inl (hS (p, .cells #[.int .i64 0, .int .i64 0, .int .i64 0, .int .i64 0, .int .i64 0] 76) (by simp))⟩⟩,((((((((((hw).set kk (j:=0) (v:=.int .i64 st) hnep')).set kk (j:=1) (v:=.int .i64 p1) hnep')).set kk (j:=2) (v:=.int .i64 p2) hnep')).set kk (j:=3) (v:=.int .i64 p3) hnep')).set kk (j:=4) (v:=.int .i64 p4) hnep')⟩) (fun w hF=>?_)
 walk_nrm;replace hF:Φ.KB ((p, .cells #[.int .i64 st, .int .i64 p1, .int .i64 p2, .int .i64 p3, .int .i64 p4] 76) :: (u, .cells #[.int .i64 wn, .int .i64 t] 58) :: H) w:=by simpa using hF
 replace hS:=@zie (fun y=>S y∨y = p) _ _ _ (.cells #[.int .i64 st, .int .i64 p1, .int .i64 p2, .int .i64 p3, .int .i64 p4] 76) hS;refine z7 rfl (fun w=>stepG_region_end) ?_;refine z7 rfl (fun w=>stepG_seq) ?_;refine z7 rfl (fun w=>stepG_region) ?_;simp only [sz,Nat.reduceAdd,Nat.zero_add,List.range,List.range.loop];refine ko hS hF rfl rfl (by k_ne) (fun w hw=>⟨run_eq_of (fun K hK=>by go_simp;exact hK),by rw [listed_nil (by simp [go_sem, *])];simp⟩) ?_;walk_nrm;refine ko hS hF rfl rfl (by k_ne) (fun w hw=>⟨run_eq_of (fun K hK=>by have h0:w.cell? ⟨p,0,none⟩ = some (.int .i64 st):=(hw.cell (b:=p) (cs:=#[.int .i64 st, .int .i64 p1, .int .i64 p2, .int .i64 p3, .int .i64 p4]) (t:=76) (by simp) 0).trans rfl;go_simp;exact hK),by have h0:w.cell? ⟨p,0,none⟩ = some (.int .i64 st):=(hw.cell (b:=p) (cs:=#[.int .i64 st, .int .i64 p1, .int .i64 p2, .int .i64 p3, .int .i64 p4]) (t:=76) (by simp) 0).trans rfl;intro e he;have hm:=mem_listed he;simp [go_sem, *] at hm;rcases hm with rfl <;> exact ⟨_,rfl,hw.lt (p:=(p, .cells #[.int .i64 st, .int .i64 p1, .int .i64 p2, .int .i64 p3, .int .i64 p4] 76)) (by simp), .inl (hS (p, .cells #[.int .i64 st, .int .i64 p1, .int .i64 p2, .int .i64 p3, .int .i64 p4] 76) (by simp))⟩⟩) ?_
 walk_nrm;refine ko hS hF rfl rfl (by k_ne) (fun w hw=>⟨run_eq_of (fun K hK=>by go_simp;exact hK),by rw [listed_nil (by simp [go_sem, *])];simp⟩) ?_;walk_nrm;refine z7 rfl (fun w=>stepG_region_end) ?_;have hk1:IntKind.i64.wrap ((k:Int) + 1) = ((k + 1:Nat):Int):=by rw [IntKind.wrap_i64];omega
 have ht1:IntKind.i64.wrap (t + 1) = t + 1:=by rw [IntKind.wrap_i64];omega
 replace hF:=hF.tail;replace hS:=fun q hq=>hS q (List.mem_cons_of_mem _ hq);by_cases h2:st = 2
 . have e2:(st == 2) = true:=by simp [h2]
   refine z7 rfl (fun w=>stepG_cond (t:=true) (by simp [Act.eval,e2])) ?_;simp only [if_true];refine z7 rfl (fun w=>stepG_region) ?_;simp only [sz,Nat.reduceAdd,Nat.zero_add,List.range,List.range.loop];refine ko hS hF rfl rfl (by k_ne) (fun w hw=>⟨run_eq_of (fun K hK=>by go_simp;exact hK),by rw [listed_nil (by simp [go_sem, *])];simp⟩) ?_;walk_nrm;refine ko hS hF rfl rfl (by k_ne) (fun w hw=>⟨run_eq_of (fun K hK=>by have h0:w.cell? ⟨u,1,none⟩ = some (.int .i64 t):=(hw.cell (b:=u) (cs:=#[.int .i64 wn, .int .i64 t]) (t:=58) (by simp) 1).trans rfl;go_simp;exact hK),by have h0:w.cell? ⟨u,1,none⟩ = some (.int .i64 t):=(hw.cell (b:=u) (cs:=#[.int .i64 wn, .int .i64 t]) (t:=58) (by simp) 1).trans rfl;intro e he;have hm:=mem_listed he;simp [go_sem, *] at hm;rcases hm with rfl <;> exact ⟨_,rfl,hw.lt (p:=(u, .cells #[.int .i64 wn, .int .i64 t] 58)) (by simp), .inl (hS (u, .cells #[.int .i64 wn, .int .i64 t] 58) (by simp))⟩⟩) ?_
   walk_nrm;refine ko hS hF rfl rfl (by k_ne) (fun w hw=>⟨run_eq_of (fun K hK=>by go_simp;exact hK),by rw [listed_nil (by simp [go_sem, *])];simp⟩) ?_;walk_nrm;refine ko hS hF rfl rfl (by k_ne) (fun w hw=>⟨run_eq_of (fun K hK=>by go_simp;exact hK),by rw [listed_nil (by simp [go_sem, *])];simp⟩) ?_;walk_nrm;refine ziw hS hF rfl rfl (by k_ne) (fun w=>(w).setCell ⟨u,1,none⟩ (.int .i64 (t + 1))) (fun w hw=>⟨by have h1:w.cell? ⟨u,1,none⟩ = some (.int .i64 t):=(hw.cell (b:=u) (cs:=#[.int .i64 wn, .int .i64 t]) (t:=58) (by simp) 1).trans rfl;have z1:=hw.thaw (b:=u) (cs:=#[.int .i64 wn, .int .i64 t]) (t:=58) (by simp) 1;go_simp,⟨by simp [World.setCell],fun y hy=>by have hyu:y ≠ u:=fun e=>hy (e ▸ hS (u, .cells #[.int .i64 wn, .int .i64 t] 58) (by simp));simp [Below.heap_setCell,hyu],by simp [World.setCell],by simp [World.setCell],by have h1:w.cell? ⟨u,1,none⟩ = some (.int .i64 t):=(hw.cell (b:=u) (cs:=#[.int .i64 wn, .int .i64 t]) (t:=58) (by simp) 1).trans rfl;have z1:=hw.thaw (b:=u) (cs:=#[.int .i64 wn, .int .i64 t]) (t:=58) (by simp) 1;intro e he;have hm:=mem_listed he;simp [go_sem, *] at hm;rcases hm with rfl <;> exact ⟨_,true,rfl,hw.lt (p:=(u, .cells #[.int .i64 wn, .int .i64 t] 58)) (by simp), .inl (hS (u, .cells #[.int .i64 wn, .int .i64 t] 58) (by simp))⟩⟩,((hw).set kk (j:=1) (v:=.int .i64 (t + 1)) hne)⟩) (fun w hF=>?_)
   walk_nrm;replace hF:Φ.KB ((u, .cells #[.int .i64 wn, .int .i64 (t + 1)] 58) :: H) w:=by simpa using hF
   replace hS:=@zie (fun y=>S y∨y = p) _ _ _ (.cells #[.int .i64 wn, .int .i64 (t + 1)] 58) hS;refine z7 rfl (fun w=>stepG_region_end) ?_;refine z7 rfl (fun w=>stepG_inBlock) ?_;refine z7 rfl (fun w=>stepG_region) ?_;simp only [sz,Nat.reduceAdd,Nat.zero_add,List.range,List.range.loop];refine ko hS hF rfl rfl (by k_ne) (fun w hw=>⟨run_eq_of (fun K hK=>by go_simp;exact hK),by rw [listed_nil (by simp [go_sem, *])];simp⟩) ?_;walk_nrm;refine ko hS hF rfl rfl (by k_ne) (fun w hw=>⟨run_eq_of (fun K hK=>by go_simp;exact hK),by rw [listed_nil (by simp [go_sem, *])];simp⟩) ?_;walk_nrm;refine z7 rfl (fun w=>stepG_region_end) ?_;refine z7 rfl (fun w=>stepG_inLoop) ?_;refine Goes.mono (next w p _ (by simpa [h2] using hF) rfl rfl rfl rfl rfl ?_) (by omega);simp
 have e2:(st == 2) = false:=by simp [h2]
 refine z7 rfl (fun w=>stepG_cond (t:=false) (by simp [Act.eval,e2])) ?_;simp only [Bool.false_eq_true,if_false];refine z7 rfl (fun w=>stepG_skip) ?_;refine z7 rfl (fun w=>stepG_inBlock) ?_;refine z7 rfl (fun w=>stepG_region) ?_;simp only [sz,Nat.reduceAdd,Nat.zero_add,List.range,List.range.loop];refine ko hS hF rfl rfl (by k_ne) (fun w hw=>⟨run_eq_of (fun K hK=>by go_simp;exact hK),by rw [listed_nil (by simp [go_sem, *])];simp⟩) ?_;walk_nrm;refine ko hS hF rfl rfl (by k_ne) (fun w hw=>⟨run_eq_of (fun K hK=>by go_simp;exact hK),by rw [listed_nil (by simp [go_sem, *])];simp⟩) ?_;walk_nrm;refine z7 rfl (fun w=>stepG_region_end) ?_;refine z7 rfl (fun w=>stepG_inLoop) ?_;refine Goes.mono (next w p _ (by simpa [h2] using hF) rfl rfl rfl rfl rfl ?_) (by omega);simp
end
end
section
open Go.Conc Go.ConcN Go.ConcR.Gen
open Go.ConcR (DC0)
section
variable {Φ:Ph} {P:Program} {i x n:Nat} {S:Nat->Prop} {H:List (Nat × Obj)} {w:World} {b:Frame} {a:Act} {cs:List Frame} {v:Value}
theorem zom {c:Frame} {todo:List Item} {fn:Func} (hS:∀ p ∈ H,S p.1) (hF:Φ.KB H w) (hn:b.kind = .normal) (hd:a.defers = []) (hf:P.funcs[b.fn]? = some fn)
 (hrun:∀ w,Φ.KB H w->(results fn a.tmps).run P w = .ok v w∧∀ e ∈ seen P b.fn ((results fn a.tmps).events P w #[]),Φ.EvR S w e)
 (next:Φ.Loc P i x S n (G (c.finish v) cs) w):Φ.Loc P i x S (n + 1) (G { b.at a todo with mode:=.returning } (c :: cs)) w:=by
 refine Goes.step rfl fun w₁ h₁=>?_;obtain ⟨h1,h2⟩:=hrun w₁ (hF.rely hS h₁);have hst:stepG P false (G { b.at a todo with mode:=.returning } (c :: cs)) w₁ = .go (G (c.finish v) cs) w₁ (seen P b.fn ((results fn a.tmps).events P w₁ #[])):=by
  simp [G,stepG,unwind,doReturn,Frame.at,hn,hd,hf,Sem.runT_eq,h1,GStep.after]
 rw [hst];refine ⟨⟨rfl,fun _ _=>rfl,rfl,rfl,fun e he=>?_⟩,Goes.rely Ph.R.trans next h₁⟩;obtain ⟨ad,rfl,h3,h4⟩:=h2 e he;exact ⟨ad,false,rfl,h3,h4.imp id fun h=>⟨h,rfl⟩⟩
theorem Ph.KB.swap {p q:Nat × Obj} (h:Φ.KB (p :: q :: H) w):Φ.KB (q :: p :: H) w :=
 ⟨h.old,h.pay,h.live,h.n0,fun y hy=>h.held y (by simp only [List.mem_cons] at hy ⊢;rcases hy with h | h | h <;> simp [h]),fun y hy=>h.lo y (by simp only [List.mem_cons] at hy ⊢;rcases hy with h | h | h <;> simp [h])⟩
end
end
section
open Go.Conc Go.ConcN Go.ConcR.Gen Go.RowKit
open Go.ConcR (DC0)
section
variable {Φ:Ph} {i x:Nat} {S:Nat->Prop} {H:List (Nat × Obj)} {w:World} {cs:List Frame}
theorem zp7 (kk:Φ.Ok) {u r n:Nat} {wn t:Int} {T:Array Value} {cc:Frame} (hur:u ≠ r) (hner:∀ p ∈ H,p.1 ≠ r) (hS:∀ p ∈ (u,Obj.cells #[.int .i64 wn, .int .i64 t] 58) :: (r,Obj.cells #[.int .i64 0, .int .i64 0] 58) :: H,S p.1)
 (hF:Φ.KB ((u, .cells #[.int .i64 wn, .int .i64 t] 58) :: (r, .cells #[.int .i64 0, .int .i64 0] 58) :: H) w)
 (hT:T.size = 25) (h2:T[2]? = some (.pointer (some ⟨r,0,none⟩))) (h3:T[3]? = some (.pointer (some ⟨u,0,none⟩))) (h11:T[11]? = some (.int .i64 n)) (h12:T[12]? = some (.int .i64 n))
 (next:∀ w,Φ.KB H w->Φ.Loc Tryz.prog i x S 20 (G (cc.finish (.agg #[.int .i64 wn, .int .i64 t])) cs) w) :
 Φ.Loc Tryz.prog i x S 60 (G ((base 56).at ⟨T,[]⟩ [.code woB, .inLoop woB, .inBlock 0, .code woT]) (cc :: cs)) w:=by
 obtain ⟨v0,v1,v2,v3,v4,v5,v6,v7,v8,v9,v10,v11,v12,v13,v14,v15,v16,v17,v18,v19,v20,v21,v22,v23,v24,rfl⟩:=zqx T hT;simp only [List.getElem?_toArray,List.getElem?_cons_succ,List.getElem?_cons_zero,Option.some.injEq] at h2 h3 h11 h12;subst h2 h3 h11 h12;simp only [woB,Tryz.f56];refine z7 rfl (fun w=>stepG_seq) ?_;refine z7 rfl (fun w=>stepG_region) ?_;simp only [sz,Nat.reduceAdd,Nat.zero_add,List.range,List.range.loop];refine ko hS hF rfl rfl (by k_ne) (fun w hw=>⟨run_eq_of (fun K hK=>by go_simp;exact hK),by rw [listed_nil (by simp [go_sem, *])];simp⟩) ?_;walk_nrm;refine z7 rfl (fun w=>stepG_region_end) ?_;refine z7 rfl (fun w=>stepG_seq) ?_;have hkn:decide ((n:Int) < (n:Int)) = false:=decide_eq_false (by omega);refine z7 rfl (fun w=>stepG_cond (t:=false) (by simp [Act.eval,hkn])) ?_;simp only [Bool.false_eq_true,if_false];refine z7 rfl (fun w=>stepG_exit rfl) ?_;simp only [woT,Tryz.f56];refine z7 rfl (fun w=>stepG_seq) ?_;refine z7 rfl (fun w=>stepG_region) ?_;simp only [sz,Nat.reduceAdd,Nat.zero_add,List.range,List.range.loop];refine ko hS hF rfl rfl (by k_ne) (fun w hw=>⟨run_eq_of (fun K hK=>by have h0:w.cell? ⟨u,0,none⟩ = some (.int .i64 wn):=(hw.cell (b:=u) (cs:=#[.int .i64 wn, .int .i64 t]) (t:=58) (by simp) 0).trans rfl;have h1:w.cell? ⟨u,1,none⟩ = some (.int .i64 t):=(hw.cell (b:=u) (cs:=#[.int .i64 wn, .int .i64 t]) (t:=58) (by simp) 1).trans rfl;go_simp;exact hK),by have h0:w.cell? ⟨u,0,none⟩ = some (.int .i64 wn):=(hw.cell (b:=u) (cs:=#[.int .i64 wn, .int .i64 t]) (t:=58) (by simp) 0).trans rfl;have h1:w.cell? ⟨u,1,none⟩ = some (.int .i64 t):=(hw.cell (b:=u) (cs:=#[.int .i64 wn, .int .i64 t]) (t:=58) (by simp) 1).trans rfl;intro e he;have hm:=mem_listed he;simp [go_sem, *] at hm;rcases hm with rfl | rfl <;> exact ⟨_,rfl,hw.lt (p:=(u, .cells #[.int .i64 wn, .int .i64 t] 58)) (by simp), .inl (hS (u, .cells #[.int .i64 wn, .int .i64 t] 58) (by simp))⟩⟩) ?_
 walk_nrm;replace hF:=hF.swap;replace hS:∀ p ∈ (r,Obj.cells #[.int .i64 0, .int .i64 0] 58) :: (u,Obj.cells #[.int .i64 wn, .int .i64 t] 58) :: H,S p.1:=fun p hp=>hS p (by simp only [List.mem_cons] at hp ⊢;rcases hp with h | h | h <;> simp [h])
 have hner':∀ p ∈ (u,Obj.cells #[.int .i64 wn, .int .i64 t] 58) :: H,p.1 ≠ r:=by
  intro p hp;rcases List.mem_cons.1 hp with rfl | hp
  . exact hur
  exact hner p hp
 refine ziw hS hF rfl rfl (by k_ne) (fun w=>((w).setCell ⟨r,0,none⟩ (.int .i64 wn)).setCell ⟨r,1,none⟩ (.int .i64 t)) (fun w hw=>⟨by have h0:w.cell? ⟨r,0,none⟩ = some (.int .i64 0):=(hw.cell (b:=r) (cs:=#[.int .i64 0, .int .i64 0]) (t:=58) (by simp) 0).trans rfl;have h1:w.cell? ⟨r,1,none⟩ = some (.int .i64 0):=(hw.cell (b:=r) (cs:=#[.int .i64 0, .int .i64 0]) (t:=58) (by simp) 1).trans rfl;have z0:=hw.thaw (b:=r) (cs:=#[.int .i64 0, .int .i64 0]) (t:=58) (by simp) 0;have z1:=hw.thaw (b:=r) (cs:=#[.int .i64 0, .int .i64 0]) (t:=58) (by simp) 1;go_simp,⟨by simp [World.setCell],fun y hy=>by have hyu:y ≠ r:=fun e=>hy (e ▸ hS (r, .cells #[.int .i64 0, .int .i64 0] 58) (by simp));simp [Below.heap_setCell,hyu],by simp [World.setCell],by simp [World.setCell],by have h0:w.cell? ⟨r,0,none⟩ = some (.int .i64 0):=(hw.cell (b:=r) (cs:=#[.int .i64 0, .int .i64 0]) (t:=58) (by simp) 0).trans rfl;have h1:w.cell? ⟨r,1,none⟩ = some (.int .i64 0):=(hw.cell (b:=r) (cs:=#[.int .i64 0, .int .i64 0]) (t:=58) (by simp) 1).trans rfl;have z0:=hw.thaw (b:=r) (cs:=#[.int .i64 0, .int .i64 0]) (t:=58) (by simp) 0;have z1:=hw.thaw (b:=r) (cs:=#[.int .i64 0, .int .i64 0]) (t:=58) (by simp) 1;intro e he;have hm:=mem_listed he;simp [go_sem, *] at hm;rcases hm with rfl | rfl <;> exact ⟨_,true,rfl,hw.lt (p:=(r, .cells #[.int .i64 0, .int .i64 0] 58)) (by simp), .inl (hS (r, .cells #[.int .i64 0, .int .i64 0] 58) (by simp))⟩⟩,((((hw).set kk (j:=0) (v:=.int .i64 wn) hner')).set kk (j:=1) (v:=.int .i64 t) hner')⟩) (fun w hF=>?_)
 walk_nrm;replace hF:Φ.KB ((r, .cells #[.int .i64 wn, .int .i64 t] 58) :: (u, .cells #[.int .i64 wn, .int .i64 t] 58) :: H) w:=by simpa using hF
 replace hS:=@zie S _ _ _ (.cells #[.int .i64 wn, .int .i64 t] 58) hS;refine z7 rfl (fun w=>stepG_region_end) ?_;refine z7 rfl (fun w=>stepG_ret') ?_;refine zom hS hF rfl rfl Tryz.func56 (fun w hw=>⟨?_, ?_⟩) (Goes.mono (next w hF.tail.tail) (by omega))
 . exact results_cell_row rfl _ w r 58 #[.int .i64 wn, .int .i64 t] (0,0) _ rfl (hw.held (r, .cells #[.int .i64 wn, .int .i64 t] 58) (by simp)) Tryz.underlying58 rfl (by kernel_rfl)
 intro e he;have h0:=(hw.cell (b:=r) (cs:=#[.int .i64 wn, .int .i64 t]) (t:=58) (by simp) 0).trans rfl;have h1:=(hw.cell (b:=r) (cs:=#[.int .i64 wn, .int .i64 t]) (t:=58) (by simp) 1).trans rfl;have hm:e ∈ (results Tryz.f56 _).events Tryz.prog w #[]:=mem_seen he;simp [results,Tryz.f56,go_sem, *] at hm;rcases hm with rfl | rfl <;> exact ⟨_,rfl,hw.lt (p:=(r, .cells #[.int .i64 wn, .int .i64 t] 58)) (by simp), .inl (hS (r, .cells #[.int .i64 wn, .int .i64 t] 58) (by simp))⟩
end
end
section
open Go.Conc Go.ConcN Go.ConcR.Gen Go.RowKit
open Go.ConcR (DC0)
def tornN (ps:List Pg):Nat:=ps.countP fun p=>decide (p.state = 2)
section
variable {Φ:Ph} {i x:Nat} {H:List (Nat × Obj)} {cs:List Frame}
theorem zp6 (kk:Φ.Ok) {u r pb po n c:Nat} {wn:Int} {ps:List Pg} {cc:Frame} {S0:Nat->Prop} (hur:u ≠ r) (hneu:∀ p ∈ H,p.1 ≠ u) (hner:∀ p ∈ H,p.1 ≠ r) (hlen:ps.length = n) (hn:n < 1000) (hro:Φ.Ro pb)
 (hpg:∀ w,Φ.Old w->∀ j v,(pgs ps)[j]? = some v->w.cell? ⟨pb,po + j,none⟩ = some v)
 (next:∀ w S',(∀ b,S0 b->S' b)->Φ.KB H w->Φ.Loc Tryz.prog i x S' 20 (G (cc.finish (.agg #[.int .i64 wn, .int .i64 (tornN ps)])) cs) w) :
 ∀ (m k : Nat) (S : Nat -> Prop) (w : World) (T : Array Value), k + m = n -> (∀ b, S0 b -> S b) -> (∀ p ∈ (u, Obj.cells #[.int .i64 wn, .int .i64 (tornN (ps.take k))] 58) :: (r, Obj.cells #[.int .i64 0, .int .i64 0] 58) :: H, S p.1) ->
   Φ.KB ((u, .cells #[.int .i64 wn, .int .i64 (tornN (ps.take k))] 58) :: (r, .cells #[.int .i64 0, .int .i64 0] 58) :: H) w->T.size = 25->T[2]? = some (.pointer (some ⟨r,0,none⟩))->T[3]? = some (.pointer (some ⟨u,0,none⟩)) ->
   T[10]? = some (.slice (some ⟨pb,po,none⟩) n c)->T[11]? = some (.int .i64 n)->T[12]? = some (.int .i64 k)->∀ f,Φ.Loc Tryz.prog i (x + m) S (f + 60) (G ((base 56).at ⟨T,[]⟩ [.code woB, .inLoop woB, .inBlock 0, .code woT]) (cc :: cs)) w:=by
 intro m
 induction m with
 | zero =>
   intro k S w T hk hSS hS hF hT h2 h3 h10 h11 h12 f;obtain rfl:k = n:=by omega
   rw [List.take_of_length_le (by omega)] at hS hF;exact Goes.mono (zp7 kk hur hner hS hF hT h2 h3 h11 h12 fun w hw=>next w S hSS hw) (by omega)
 | succ m ih =>
   intro k S w T hk hSS hS hF hT h2 h3 h10 h11 h12 f;obtain ⟨p,hp⟩:=zc (l:=ps) (k:=k) (by omega);have ht:ps.take (k + 1) = ps.take k ++ [p]:=by rw [List.take_add_one,hp];rfl
   have hc:tornN (ps.take k) ≤ k:=Nat.le_trans List.countP_le_length (by rw [List.length_take];omega);have fl:∀ j v,j < 5->p.vs[j]? = some v->(pgs ps)[k * 5 + j]? = some v:=fun j v hj hv=>(yn Pg.vs 5 (fun _=>rfl) ps k j p hp hj).trans hv;refine Goes.mono (zo9 (x:=x + m) kk (st:=p.state) (p1:=p.rc.kind) (p2:=p.rc.seq) (p3:=p.rc.addr) (p4:=p.rc.val) ?_ hS hF hro (by omega) (by omega) (fun w hw=>⟨hpg w hw _ _ (fl 0 _ (by omega) rfl),hpg w hw _ _ (fl 1 _ (by omega) rfl),hpg w hw _ _ (fl 2 _ (by omega) rfl),hpg w hw _ _ (fl 3 _ (by omega) rfl),hpg w hw _ _ (fl 4 _ (by omega) rfl)⟩) hT h3 h10 h11 h12 ⟨by omega,by omega⟩ fun w q T' hF' hT' g2 g3 g10 g11 g12=>?_) (by omega)
   . intro y hy;rcases List.mem_cons.1 hy with rfl | hy
     . exact Ne.symm hur
     exact hneu y hy
   have e:(if p.state = 2 then ((tornN (ps.take k):Nat):Int) + 1 else ((tornN (ps.take k):Nat):Int)) = ((tornN (ps.take (k + 1)):Nat):Int):=by
    rw [ht];unfold tornN;rw [List.countP_append];by_cases h:p.state = 2 <;> simp [h]
   rw [e] at hF';refine ih (k + 1) _ w T' (by omega) (fun b hb=>.inl (hSS b hb)) (fun y hy=>?_) hF' hT' (g2.trans h2) g3 g10 g11 g12 0;rcases List.mem_cons.1 hy with rfl | hy
   . exact .inl (hS (u, .cells #[.int .i64 wn, .int .i64 (tornN (ps.take k))] 58) (List.mem_cons_self ..))
   exact .inl (hS y (List.mem_cons_of_mem _ hy))
end
end
section
open Go.Conc Go.ConcN Go.ConcR.Gen Go.RowKit
open Go.ConcR (DC0)
section
variable {Φ:Ph} {i x:Nat} {S:Nat->Prop} {H:List (Nat × Obj)} {w:World} {cs:List Frame}
theorem znh (kk:Φ.Ok) {pb po n c:Nat} {wn:Int} {ps:List Pg} {cc:Frame} (hS:∀ p ∈ H,S p.1) (hF:Φ.KB H w) (hlen:ps.length = n) (hn:n < 1000) (hro:Φ.Ro pb)
 (hpg:∀ w,Φ.Old w->∀ j v,(pgs ps)[j]? = some v->w.cell? ⟨pb,po + j,none⟩ = some v)
 (next:∀ w S',(∀ b,S b->S' b)->Φ.KB H w->Φ.Loc Tryz.prog i x S' 20 (G (cc.finish (.agg #[.int .i64 wn, .int .i64 (tornN ps)])) cs) w) :
 Φ.Loc Tryz.prog i (x + n + 3) S 10 (G ((base 56).at ⟨#[.agg #[.slice (some ⟨pb,po,none⟩) n c, .int .i64 wn],undef,undef,undef,undef,undef,undef,undef,undef,undef,undef,undef,undef,undef,undef,undef,undef,undef,undef,undef,undef,undef,undef,undef,undef],[]⟩ [.code (Tryz.f56.body.getD .skip)]) (cc :: cs)) w:=by
 refine wo0 (x:=x + n) kk hS hF (some ⟨pb,po,none⟩) n c wn fun w b r u T hF hneu hner hT h2 h3 h10 h11 h12=>?_;have:=zp6 (Φ:=Φ) (i:=i) (x:=x) (cs:=cs) (H:=(b, .cells #[.slice (some ⟨pb,po,none⟩) n c, .int .i64 wn] 99) :: H) (u:=u) (r:=r) (wn:=wn) (cc:=cc) (c:=c) (S0:=fun y=>((S y∨y = b)∨y = r)∨y = u) kk
  (hneu _ (List.mem_cons_self ..)).symm (fun p hp=>hneu p (List.mem_cons_of_mem _ hp)) hner hlen hn hro hpg (fun w S' hs hw=>next w S' (fun y hy=>hs y (.inl (.inl (.inl hy)))) hw.tail)
  n 0 (fun y=>((S y∨y = b)∨y = r)∨y = u) w T (by omega) (fun _ h=>h) (fun p hp=>?_) (by simpa [tornN] using hF) hT h2 h3 h10 h11 (by simpa using h12) 0
 . exact this
 simp only [List.mem_cons] at hp;rcases hp with rfl | rfl | rfl | hp
 . exact .inr rfl
 . exact .inl (.inr rfl)
 . exact .inl (.inl (.inr rfl))
 exact .inl (.inl (.inl (hS p hp)))
end
end
section
open Go.Conc Go.ConcN Go.ConcR.Gen Go.RowKit
open Go.ConcR (DC0)
section
variable {Φ:Ph} {P:Program} {i x n:Nat} {S:Nat->Prop} {w:World} {b:Frame} {a:Act} {k:List Item} {cs:List Frame} {ops:Array Oper} {j:Nat} {rest:List Nat} {o:Oper}
theorem zp0 {f:FuncId} {fn:Func} {c:Go.Code} {args:Array Operand} {ats:Array TypeId} (ho:ops[j]? = some o) (hw:Region.wanted o (yielded ops a.tmps) = true) (hk:b.kind ≠ .early) (hop:o.op = .call { callee:=.value (.func f),args,argTypes:=ats })
 (hf:P.funcs[f]? = some fn) (hname:(fn.name == "runtime.NumGoroutine") = false) (hb:fn.body = some c)
 (next:Φ.Loc P i x S n (G ((base f).at { tmps:=args.map a.eval ++ Array.replicate (fn.ntmps - (args.map a.eval).size) undef,defers:=[] } [.code c]) (b.at a (.inRegion ops (j :: rest) :: k) :: cs)) w) :
 Φ.Loc P i x S (n + 1) (G (b.at a (.inRegion ops (j :: rest) :: k)) cs) w :=
 Goes.step rfl fun w₁ h₁=>goes_call ho hw hk hop hf hname hb ⟨⟨rfl,fun _ _=>rfl,rfl,rfl,by simp⟩,Goes.rely Ph.R.trans next h₁⟩
end
end
section
open Go.Conc
theorem zdo (md:Region.Mode) (ops:Array Oper) (fuel t:Nat) (listed:Array Bool) :
 (Region.ready md ops listed = []∧Region.linearise.go md ops (fuel + 1) t listed [] = [])∨∃ i ∈ Region.ready md ops listed,∃ t',Region.linearise.go md ops (fuel + 1) t listed [] = i :: Region.linearise.go md ops fuel t' (listed.setIfInBounds i true) []:=by
 have e:Region.linearise.go md ops (fuel + 1) t listed [] = match (Region.ready md ops listed)[t % (Region.ready md ops listed).length]? with
  | some i=>Region.linearise.go md ops fuel (t / (Region.ready md ops listed).length) (listed.setIfInBounds i true) [i]
  | none=>[].reverse:=rfl
 cases hi:(Region.ready md ops listed)[t % (Region.ready md ops listed).length]? with
 | none =>
   have hnil:Region.ready md ops listed = []:=by
    cases hr:Region.ready md ops listed with
    | nil=>rfl
    | cons x xs =>
      rw [hr] at hi;have hlt:t % (x :: xs).length < (x :: xs).length:=Nat.mod_lt _ (by simp);simp at hi;simp at hlt;omega
   exact .inl ⟨hnil,by rw [e,hi];rfl⟩
 | some i =>
   refine .inr ⟨i,List.mem_of_getElem? hi,t / (Region.ready md ops listed).length, ?_⟩;rw [e,hi];simp only [];rw [linearise_go_acc,List.reverse_singleton,List.singleton_append]
end
section
open Go.Conc
abbrev link:Go.Conc.Lib.WgLink:={ add:=53,done:=55,wait:=57,relMerge:=88,disable:=89,enable:=90,inBubble:=91,associate:=92,fatal:=93,uOr:=94,uAdd:=95,raceRead:=96,uLoad:=97,uStore:=98,disassociate:=99,semrelease:=100,acquire:=101,isAssociated:=102,uCas:=103,raceWrite:=104,semacquire:=105,orU64:=127,addU64:=128,loadU64:=129,storeU64:=130,casU64:=131,tWgP:=138,tUP:=140,tAssoc:=141,tWg:=113,tAU:=110,tU64:=108,tUint:=145,tU32:=111,tPU32:=146,tPAU:=173,tPU64:=175,tNoCopy:=105,tANoCopy:=106,tAlign64:=107 }
theorem zng:Go.Conc.Lib.WgLib Tryz.prog link :=
 ⟨Tryz.func53,Tryz.func55,Tryz.func57,Tryz.func88,Tryz.func89,Tryz.func90,Tryz.func91,Tryz.func92,Tryz.func93,Tryz.func94,Tryz.func95,Tryz.func96,Tryz.func97,Tryz.func98,Tryz.func99,Tryz.func100,Tryz.func101,Tryz.func102,Tryz.func103,Tryz.func104,Tryz.func105,Tryz.func127,Tryz.func128,Tryz.func129,Tryz.func130,Tryz.func131,Tryz.underlying138,Tryz.runUnderlying138,Tryz.sizeOf138,Tryz.isAgg138,Tryz.zeroValue138,Tryz.underlying140,Tryz.runUnderlying140,Tryz.sizeOf140,Tryz.isAgg140,Tryz.zeroValue140,Tryz.underlying141,Tryz.runUnderlying141,Tryz.sizeOf141,Tryz.isAgg141,Tryz.zeroValue141,Tryz.underlying113,Tryz.runUnderlying113,Tryz.sizeOf113,Tryz.isAgg113,Tryz.zeroValue113,Tryz.underlying110,Tryz.runUnderlying110,Tryz.sizeOf110,Tryz.isAgg110,Tryz.zeroValue110,Tryz.underlying108,Tryz.runUnderlying108,Tryz.sizeOf108,Tryz.isAgg108,Tryz.zeroValue108,Tryz.underlying145,Tryz.runUnderlying145,Tryz.sizeOf145,Tryz.isAgg145,Tryz.zeroValue145,Tryz.underlying111,Tryz.runUnderlying111,Tryz.sizeOf111,Tryz.isAgg111,Tryz.zeroValue111,Tryz.underlying146,Tryz.runUnderlying146,Tryz.sizeOf146,Tryz.isAgg146,Tryz.zeroValue146,Tryz.underlying173,Tryz.runUnderlying173,Tryz.sizeOf173,Tryz.isAgg173,Tryz.zeroValue173,Tryz.underlying175,Tryz.runUnderlying175,Tryz.sizeOf175,Tryz.isAgg175,Tryz.zeroValue175,Tryz.underlying0,Tryz.runUnderlying0,Tryz.sizeOf0,Tryz.isAgg0,Tryz.zeroValue0,Tryz.underlying3,Tryz.runUnderlying3,Tryz.sizeOf3,Tryz.isAgg3,Tryz.zeroValue3,Tryz.underlying4,Tryz.runUnderlying4,Tryz.sizeOf4,Tryz.isAgg4,Tryz.zeroValue4,Tryz.underlying9,Tryz.runUnderlying9,Tryz.sizeOf9,Tryz.isAgg9,Tryz.zeroValue9,Tryz.underlying20,Tryz.runUnderlying20,Tryz.sizeOf20,Tryz.isAgg20,Tryz.zeroValue20,Tryz.underlying21,Tryz.runUnderlying21,Tryz.sizeOf21,Tryz.isAgg21,Tryz.zeroValue21,(by kernel_rfl),(by kernel_rfl)⟩
end
section
open Go.Conc Go.ConcN Go.RowKit Go.Conc.Lib Go.ConcR.Gen Go.ConcN.Gen
open Go.ConcR (KK WgAt stA smA rd wr mk DC0)
variable {L:WgLink}

theorem zp2 {P:Program} (H:WgLib P L) {Wg:Nat} {R:World->World->Prop} (hR:∀ {w w₁:World},WgLive L.tWg Wg w->R w w₁->WgLive L.tWg Wg w₁) {b₀:Frame} {a₀:Act} {ops₀:Array Oper} {i₀:Nat} {rest₀:List Nat} {k₀:List Item} {cs:List Frame} {qt:Nat}
 (hT:QuitsD P qt 0 (G (b₀.at (a₀.put ((ops₀[i₀]?).bind (·.dst)) (.tuple #[])) (.inRegion ops₀ rest₀ :: k₀)) cs)) (w:World) (hK:WgLive L.tWg Wg w) :
 Goes P false R DC0 (VR P L.tWg Wg R) 20 (G ((base L.add).at ⟨#[.pointer (some ⟨Wg,0,none⟩), .int .i64 (-1),undef,undef,undef,undef,undef,undef,undef,undef,undef,undef,undef,undef,undef,undef,undef,undef,undef,undef,undef,undef,undef,undef,undef,undef,undef,undef,undef,undef,undef,undef,undef,undef,undef,undef,undef,undef,undef,undef,undef,undef,undef,undef,undef,undef,undef,undef,undef,undef,undef,undef,undef,undef,undef,undef,undef,undef,undef,undef,undef,undef,undef,undef,undef,undef,undef,undef,undef,undef,undef,undef,undef,undef,undef,undef,undef,undef,undef,undef,undef,undef,undef,undef,undef,undef,undef,undef,undef,undef,undef,undef,undef,undef,undef,undef,undef,undef,undef,undef,undef,undef,undef,undef,undef,undef,undef,undef,undef,undef,undef,undef,undef,undef,undef,undef,undef],[]⟩ [.code (body_add L)]) (b₀.at a₀ (.inRegion ops₀ (i₀ :: rest₀) :: k₀) :: cs)) w:=by
 lib_facts
 simp only [body_add,addFn,Option.getD_some]
 u_c stepG_seq hR hK;u_cond true hR hK;u_c stepG_seq hR hK;u_c stepG_seq hR hK;u_reg hR hK;u_op hR hK;u_op hR hK;u_c stepG_region_end hR hK;u_cond true hR hK;u_reg hR hK;u_op hR hK
 u_conv H.underlying_tWgP H.room_tWg (WgLive.cell0 hK).choose_spec hR hK
 refine Goes.stop (fun w₁ h₁=>?_);replace hK:=hR hK h₁;clear h₁;refine ⟨rfl,fun _=>⟨_,stepG_markAt .releaseMerge (by simp) rfl rfl (by k_ne) rfl H.f_relMerge (x_relMerge_n L) (x_relMerge_b L) (x_relMerge_x L) (x_relMerge_f L) (by simp [Act.eval,stA]),10, ?_⟩⟩;simp only [id];walk_nrm
 u_c stepG_region_end hR hK;u_c stepG_seq hR hK;u_reg hR hK
 refine Goes.stop (fun w₁ h₁=>?_);replace hK:=hR hK h₁;clear h₁;refine ⟨rfl,fun _=>⟨_,stepG_mark0 .disable (by simp) rfl rfl (by k_ne) rfl H.f_disable (x_disable_n L) (x_disable_b L) (x_disable_x L) (x_disable_f L),50, ?_⟩⟩;simp only [id];walk_nrm
 u_c stepG_region_end hR hK;u_reg hR hK;u_defer hR hK;u_c stepG_region_end hR hK;u_c stepG_seq hR hK;u_reg hR hK;u_op hR hK;u_c stepG_region_end hR hK;u_c stepG_seq hR hK;u_c stepG_seq hR hK;u_reg hR hK;u_bub hR hK;u_c stepG_region_end hR hK;u_cond false hR hK;u_c stepG_skip hR hK;u_c stepG_seq hR hK;u_reg hR hK;u_op hR hK;u_op hR hK;u_op hR hK;u_op hR hK;u_op hR hK;u_op hR hK;u_call H.f_uAdd (nm_uAdd L) uAddFn hR hK;u_c stepG_seq hR hK;u_reg hR hK;u_op hR hK;u_c stepG_region_end hR hK;u_c stepG_seq hR hK;u_reg hR hK;u_op hR hK;u_op hR hK;u_op hR hK;u_op hR hK
 refine Goes.stop (fun w₁ h₁=>?_);clear h₁ hK;refine ⟨rfl,fun v wt hwt hv hw=>?_⟩;have e0:IntKind.u64.wrap (KK + 18446744069414584320) = 0:=by decide
 have e1:IntKind.u64.wrap (KK + 1 + 18446744069414584320) = 1:=by decide
 rcases Nat.eq_zero_or_pos v with rfl | hvp <;> (obtain rfl | rfl:wt = 0∨wt = 1:=by omega)
 . replace hw:WgAt L.tWg Wg w₁ KK 0:=by simpa using hw
   have z:((0:Nat):Int) * KK + ((0:Nat):Int) = 0:=by simp
   rw [z];refine ⟨_,(stepG_add_atomic rfl rfl (by k_ne) rfl H.f_addU64 (x_addU64_n L) (x_addU64_b L) (x_addU64_x L) .u64 (x_addU64_f L) rfl rfl hw.cellSt (hw.thaw 0)).trans (by rw [e0];rfl),fun hl=>absurd hl.2 (by decide),fun _=>⟨qt + 89, ?_⟩⟩;clear hw;walk_nrm
   q_val (.int .u64 0);q_c stepG_region_end;q_c stepG_ret';q_leave1 H.f_uAdd;q_val (.int .u64 0);q_c stepG_region_end;q_c stepG_seq;q_c stepG_seq;q_reg;q_val (.int .u64 0);q_val (.int .u64 0);q_val (.bool false);q_val (.bool false);q_skip;q_skip;q_val (.bool false);q_c stepG_region_end;q_cond false;q_c stepG_skip;q_c stepG_seq;q_reg;q_val (.int .u64 0);q_val (.int .u64 0);q_val (.int .i32 0);q_val (.int .i32 0);q_c stepG_region_end;q_c stepG_seq;q_reg;q_val (.int .u64 0);q_val (.int .u64 0);q_val (.int .u32 0);q_val (.int .u32 0);q_c stepG_region_end;q_c stepG_seq;q_c stepG_seq;q_reg;q_val (.bool true);q_val (.int .i64 (-1));q_val (.bool false);q_val (.bool false);q_val (.bool false);q_skip;q_skip;q_skip;q_skip;q_val (.bool false);q_c stepG_region_end;q_cond false;q_c stepG_skip;q_c stepG_seq;q_c stepG_seq;q_reg;q_val (.int .i32 0);q_val (.bool false);q_c stepG_region_end;q_cond false;q_c stepG_skip;q_c stepG_seq;q_c stepG_seq;q_reg;q_val (.int .u32 0);q_val (.bool false);q_val (.bool false);q_skip;q_skip;q_val (.bool false);q_val (.bool false);q_skip;q_skip;q_skip;q_skip;q_val (.bool false);q_c stepG_region_end;q_cond false;q_c stepG_skip;q_c stepG_seq;q_c stepG_seq;q_reg;q_val (.int .i32 0);q_val (.bool false);q_val (.bool false);q_val (.int .u32 0);q_val (.bool true);q_val (.bool true);q_c stepG_region_end;q_cond true;q_c stepG_ret';q_enable;q_leave0 H.f_add
   exact hT
 . replace hw:WgAt L.tWg Wg w₁ (KK + 1) 0:=by simpa using hw
   have z:((0:Nat):Int) * KK + ((1:Nat):Int) = 1:=by simp
   rw [z];refine ⟨_,(stepG_add_atomic rfl rfl (by k_ne) rfl H.f_addU64 (x_addU64_n L) (x_addU64_b L) (x_addU64_x L) .u64 (x_addU64_f L) rfl rfl hw.cellSt (hw.thaw 0)).trans (by rw [e1];rfl),fun _=>⟨120, ?_⟩,fun hl=>absurd ⟨rfl,rfl⟩ hl⟩;have hF:WgLive L.tWg Wg (w₁.setCell (stA Wg) (.int .u64 1)):=⟨_,_,hw.setSt 1⟩;clear hw;walk_nrm
   u_op hR hF;u_c stepG_region_end hR hF;u_c stepG_ret' hR hF;u_leave1 H.f_uAdd hR hF;u_op hR hF;u_c stepG_region_end hR hF;u_c stepG_seq hR hF;u_c stepG_seq hR hF;u_reg hR hF;u_op hR hF;u_op hR hF;u_op hR hF;u_op hR hF;u_skip hR hF;u_skip hR hF;u_op hR hF;u_c stepG_region_end hR hF;u_cond false hR hF;u_c stepG_skip hR hF;u_c stepG_seq hR hF;u_reg hR hF;u_op hR hF;u_op hR hF;u_op hR hF;u_op hR hF;u_c stepG_region_end hR hF;u_c stepG_seq hR hF;u_reg hR hF;u_op hR hF;u_op hR hF;u_op hR hF;u_op hR hF;u_c stepG_region_end hR hF;u_c stepG_seq hR hF;u_c stepG_seq hR hF;u_reg hR hF;u_op hR hF;u_op hR hF;u_op hR hF;u_op hR hF;u_op hR hF;u_skip hR hF;u_skip hR hF;u_skip hR hF;u_skip hR hF;u_op hR hF;u_c stepG_region_end hR hF;u_cond false hR hF;u_c stepG_skip hR hF;u_c stepG_seq hR hF;u_c stepG_seq hR hF;u_reg hR hF;u_op hR hF;u_op hR hF;u_c stepG_region_end hR hF;u_cond false hR hF;u_c stepG_skip hR hF;u_c stepG_seq hR hF;u_c stepG_seq hR hF;u_reg hR hF;u_op hR hF;u_op hR hF;u_op hR hF;u_op hR hF;u_op hR hF;u_op hR hF;u_op hR hF;u_skip hR hF;u_skip hR hF;u_skip hR hF;u_skip hR hF;u_op hR hF;u_c stepG_region_end hR hF;u_cond false hR hF;u_c stepG_skip hR hF;u_c stepG_seq hR hF;u_c stepG_seq hR hF;u_reg hR hF;u_op hR hF;u_op hR hF;u_op hR hF;u_op hR hF;u_op hR hF;u_op hR hF;u_c stepG_region_end hR hF;u_cond false hR hF;u_c stepG_skip hR hF;u_c stepG_seq hR hF;u_c stepG_seq hR hF;u_reg hR hF;u_op hR hF;u_op hR hF;u_op hR hF;u_call H.f_uLoad (nm_uLoad L) uLoadFn hR hF;u_c stepG_seq hR hF;u_reg hR hF;u_op hR hF;u_c stepG_region_end hR hF;u_c stepG_seq hR hF;u_reg hR hF;u_op hR hF;u_op hR hF;u_op hR hF
   refine Goes.stop (fun w₂ h₂=>?_);clear h₂ hF;refine ⟨rfl,fun hw=>⟨_,stepG_load_atomic rfl rfl (by k_ne) rfl H.f_loadU64 (x_loadU64_n L) (x_loadU64_b L) (x_loadU64_x L) .u64 (x_loadU64_f L) rfl hw.cellSt,40, ?_⟩⟩;have hF:WgLive L.tWg Wg w₂:=⟨_,_,hw⟩;clear hw;simp only [id];walk_nrm
   u_op hR hF;u_c stepG_region_end hR hF;u_c stepG_ret' hR hF;u_leave1 H.f_uLoad hR hF;u_op hR hF;u_op hR hF;u_c stepG_region_end hR hF;u_cond false hR hF;u_c stepG_skip hR hF;u_c stepG_seq hR hF;u_reg hR hF;u_op hR hF;u_op hR hF;u_op hR hF;u_call H.f_uStore (nm_uStore L) uStoreFn hR hF;u_reg hR hF;u_op hR hF;u_op hR hF;u_op hR hF;u_op hR hF
   refine Goes.stop (fun w₃ h₃=>?_);clear h₃ hF;refine ⟨rfl,fun hw=>⟨_,stepG_store_atomic rfl rfl (by k_ne) rfl H.f_storeU64 (x_storeU64_n L) (x_storeU64_b L) (x_storeU64_x L) (x_storeU64_f L) rfl rfl hw.cellSt (hw.thaw 0),50, ?_⟩⟩;have hF:WgLive L.tWg Wg (w₃.setCell (stA Wg) (.int .u64 0)):=⟨_,_,hw.setSt 0⟩;clear hw;walk_nrm
   u_c stepG_region_end hR hF;u_c stepG_end hR hF;u_leave0 H.f_uStore hR hF;u_c stepG_region_end hR hF;u_c stepG_seq hR hF;u_c stepG_seq hR hF;u_reg hR hF;u_op hR hF;u_c stepG_region_end hR hF;u_cond false hR hF;u_c stepG_skip hR hF;u_c stepG_block hR hF;u_c stepG_loop hR hF;u_c stepG_seq hR hF;u_c stepG_seq hR hF;u_reg hR hF;u_op hR hF;u_op hR hF;u_c stepG_region_end hR hF;u_cond true hR hF;u_c stepG_skip hR hF;u_c stepG_seq hR hF;u_c stepG_block hR hF;u_reg hR hF;u_op hR hF;u_op hR hF;u_op hR hF
   refine Goes.stop (fun w₄ h₄=>?_);clear h₄ hF;refine ⟨rfl,mayWake_entry rfl rfl H.f_semrelease (x_semrelease_b L),fun hw=>⟨_,(stepG_semrelease rfl rfl (by k_ne) rfl H.f_semrelease (x_semrelease_n L) (x_semrelease_b L) (x_semrelease_x L) (x_semrelease_f L) (by simp [Act.eval,smA]) hw.cellSm (hw.thaw 1)).trans (by rfl),qt + 19, ?_⟩⟩;clear hw;walk_nrm
   q_c stepG_region_end;q_c stepG_inBlock;q_reg;q_val (.int .u32 1);q_val (.int .u32 0);q_val (.int .u32 0);q_c stepG_region_end;q_c stepG_inLoop;q_c stepG_seq;q_c stepG_seq;q_reg;q_val (.int .u32 0);q_val (.bool false);q_c stepG_region_end;q_cond false;q_exit;q_c stepG_end;q_enable;q_leave0 H.f_add
   exact hT
 . replace hw:WgAt L.tWg Wg w₁ (((v:Nat) + 1) * KK + 0) 0:=by simpa using hw
   have z:((v:Nat):Int) * KK + ((0:Nat):Int) = (v:Int) * KK + 0:=by simp
   rw [z];have hv0:0 < v:=by omega
   have eS:IntKind.u64.wrap (((v:Nat) + 1) * KK + 0 + 18446744069414584320) = (v:Int) * KK + 0:=by rw [IntKind.wrap_u64];simp only [KK];omega
   obtain ⟨S,hS⟩:∃ S:Int,S = (v:Int) * KK + 0:=⟨_,rfl⟩;rw [← hS] at eS ⊢;have a1:S / 4294967296 = (v:Int):=by rw [hS];simp only [KK];omega
   have a2:0 ≤ S∧S < 9223372036854775808:=by rw [hS];simp only [KK];omega
   have b1:bits .and .u64 S 2147483648 = 0:=by rw [hS];have:=st_flag v 0 (by omega) (by omega);simpa [KK] using this
   have b2:bits .and .u64 S 2147483647 = 0:=by rw [hS];have:=st_waiters v 0 (by omega) (by omega);simpa [KK] using this
   clear hS z;refine ⟨_,(stepG_add_atomic rfl rfl (by k_ne) rfl H.f_addU64 (x_addU64_n L) (x_addU64_b L) (x_addU64_x L) .u64 (x_addU64_f L) rfl rfl hw.cellSt (hw.thaw 0)).trans (by rw [eS];rfl),fun hl=>absurd hl.1 (by omega),fun _=>⟨qt + 89, ?_⟩⟩;clear hw;walk_nrm
   q_vn (.int .u64 S);q_c stepG_region_end;q_c stepG_ret';q_leave1 H.f_uAdd;q_vn (.int .u64 S);q_c stepG_region_end;q_c stepG_seq;q_c stepG_seq;q_reg;q_vn (.int .u64 S);q_vn (.int .u64 0);q_vn (.bool false);q_vn (.bool false);q_skip;q_skip;q_vn (.bool false);q_c stepG_region_end;q_cond false;q_c stepG_skip;q_c stepG_seq;q_reg;q_vn (.int .u64 S);q_vn (.int .u64 (v:Int));q_vn (.int .i32 (v:Int));q_vn (.int .i32 (v:Int));q_c stepG_region_end;q_c stepG_seq;q_reg;q_vn (.int .u64 S);q_vn (.int .u64 0);q_vn (.int .u32 0);q_vn (.int .u32 0);q_c stepG_region_end;q_c stepG_seq;q_c stepG_seq;q_reg;q_vn (.bool true);q_vn (.int .i64 (-1));q_vn (.bool false);q_vn (.bool false);q_vn (.bool false);q_skip;q_skip;q_skip;q_skip;q_vn (.bool false);q_c stepG_region_end;q_cond false;q_c stepG_skip;q_c stepG_seq;q_c stepG_seq;q_reg;q_vn (.int .i32 (v:Int));q_vn (.bool false);q_c stepG_region_end;q_cond false;q_c stepG_skip;q_c stepG_seq;q_c stepG_seq;q_reg;q_vn (.int .u32 0);q_vn (.bool false);q_vn (.bool false);q_skip;q_skip;q_vn (.bool false);q_vn (.bool false);q_skip;q_skip;q_skip;q_skip;q_vn (.bool false);q_c stepG_region_end;q_cond false;q_c stepG_skip;q_c stepG_seq;q_c stepG_seq;q_reg;q_vn (.int .i32 (v:Int));q_vn (.bool true);q_vn (.bool true);q_skip;q_skip;q_vn (.bool true);q_c stepG_region_end;q_cond true;q_c stepG_ret';q_enable;q_leave0 H.f_add
   exact hT
 replace hw:WgAt L.tWg Wg w₁ (((v:Nat) + 1) * KK + 1) 0:=by simpa using hw
 have z:((v:Nat):Int) * KK + ((1:Nat):Int) = (v:Int) * KK + 1:=by simp
 rw [z];have hv0:0 < v:=by omega
 have eS:IntKind.u64.wrap (((v:Nat) + 1) * KK + 1 + 18446744069414584320) = (v:Int) * KK + 1:=by rw [IntKind.wrap_u64];simp only [KK];omega
 obtain ⟨S,hS⟩:∃ S:Int,S = (v:Int) * KK + 1:=⟨_,rfl⟩;rw [← hS] at eS ⊢;have a1:S / 4294967296 = (v:Int):=by rw [hS];simp only [KK];omega
 have a2:0 ≤ S∧S < 9223372036854775808:=by rw [hS];simp only [KK];omega
 have b1:bits .and .u64 S 2147483648 = 0:=by rw [hS];have:=st_flag v 1 (by omega) (by omega);simpa [KK] using this
 have b2:bits .and .u64 S 2147483647 = 1:=by rw [hS];have:=st_waiters v 1 (by omega) (by omega);simpa [KK] using this
 clear hS z;refine ⟨_,(stepG_add_atomic rfl rfl (by k_ne) rfl H.f_addU64 (x_addU64_n L) (x_addU64_b L) (x_addU64_x L) .u64 (x_addU64_f L) rfl rfl hw.cellSt (hw.thaw 0)).trans (by rw [eS];rfl),fun hl=>absurd hl.1 (by omega),fun _=>⟨qt + 89, ?_⟩⟩;clear hw;walk_nrm
 q_vn (.int .u64 S);q_c stepG_region_end;q_c stepG_ret';q_leave1 H.f_uAdd;q_vn (.int .u64 S);q_c stepG_region_end;q_c stepG_seq;q_c stepG_seq;q_reg;q_vn (.int .u64 S);q_vn (.int .u64 0);q_vn (.bool false);q_vn (.bool false);q_skip;q_skip;q_vn (.bool false);q_c stepG_region_end;q_cond false;q_c stepG_skip;q_c stepG_seq;q_reg;q_vn (.int .u64 S);q_vn (.int .u64 (v:Int));q_vn (.int .i32 (v:Int));q_vn (.int .i32 (v:Int));q_c stepG_region_end;q_c stepG_seq;q_reg;q_vn (.int .u64 S);q_vn (.int .u64 1);q_vn (.int .u32 1);q_vn (.int .u32 1);q_c stepG_region_end;q_c stepG_seq;q_c stepG_seq;q_reg;q_vn (.bool true);q_vn (.int .i64 (-1));q_vn (.bool false);q_vn (.bool false);q_vn (.bool false);q_skip;q_skip;q_skip;q_skip;q_vn (.bool false);q_c stepG_region_end;q_cond false;q_c stepG_skip;q_c stepG_seq;q_c stepG_seq;q_reg;q_vn (.int .i32 (v:Int));q_vn (.bool false);q_c stepG_region_end;q_cond false;q_c stepG_skip;q_c stepG_seq;q_c stepG_seq;q_reg;q_vn (.int .u32 1);q_vn (.bool true);q_vn (.bool true);q_vn (.int .i64 (-1));q_vn (.bool false);q_vn (.bool false);q_vn (.bool false);q_skip;q_skip;q_skip;q_skip;q_vn (.bool false);q_c stepG_region_end;q_cond false;q_c stepG_skip;q_c stepG_seq;q_c stepG_seq;q_reg;q_vn (.int .i32 (v:Int));q_vn (.bool true);q_vn (.bool true);q_skip;q_skip;q_vn (.bool true);q_c stepG_region_end;q_cond true;q_c stepG_ret';q_enable;q_leave0 H.f_add
 exact hT

theorem zog {P:Program} (H:WgLib P L) {Wg:Nat} {R:World->World->Prop} (hR:∀ {w w₁:World},WgLive L.tWg Wg w->R w w₁->WgLive L.tWg Wg w₁) {c:Frame} {cs:List Frame} {qt:Nat}
 (hcm:c.mode = .returning) (hT:QuitsD P qt 0 (G c cs)) (w:World) (hK:WgLive L.tWg Wg w) :
 Goes P false R DC0 (VR P L.tWg Wg R) 23 (G ((baseD L.done).at ⟨#[.pointer (some ⟨Wg,0,none⟩),undef,undef,undef],[]⟩ [.code (body_done L)]) (c :: cs)) w:=by
 lib_facts
 have hA:=@zp2 L P H Wg R hR;simp only [body_done,body_add,doneFn,addFn,Option.getD_some] at hA ⊢
 u_reg hR hK
 u_op hR hK
 u_in hR hK
 refine goes_call rfl rfl (by k_ne) rfl H.f_add (nm_add L) rfl ⟨by u_nil, ?_⟩
 walk_nrmf addFn
 refine hA (qt:=qt + 3) ?_ _ hK
 q_c stepG_region_end
 q_c stepG_end
 exact QuitsD.leaveD rfl rfl H.f_done rfl hcm hT
end
section
open Go.Conc Go.ConcN Go.ConcR.Gen Go.RowKit
open Go.ConcR (DC0)
def zf9 (Wg F I O:Nat):Deferred:={ target:=.fn (.func 54) #[.pointer (some ⟨Wg,0,none⟩), .pointer (some ⟨F,0,none⟩), .pointer (some ⟨I,0,none⟩), .pointer (some ⟨O,0,none⟩)],args:=#[] }
noncomputable def botW:Frame:={ (default:Frame) with fn:=Tryz.prog.funcs.size,defers:=[],mode:=.panicking [goexitEntry] }
noncomputable def zol:Code:=Tryz.f54.body.getD .skip
theorem zm0 (Wg F I O:Nat) (w:World):stepG Tryz.prog false (born Tryz.prog (zf9 Wg F I O)) w =
 .go (G ((baseD 54).at ⟨#[.pointer (some ⟨Wg,0,none⟩), .pointer (some ⟨F,0,none⟩), .pointer (some ⟨I,0,none⟩), .pointer (some ⟨O,0,none⟩),undef,undef,undef,undef,undef,undef,undef,undef],[]⟩ [.code zol]) [botW]) w #[]:=by
 simp [born,zf9,stepG,unwind,callDeferred,invoke,callFunc,Tryz.func54,Tryz.f54,seen,GStep.after,G,Frame.enter,Frame.at,baseD,botW,zol]
theorem zla (T:Array Value):QuitsD Tryz.prog 2 0 (G { (baseD 54).at ⟨T,[]⟩ [] with mode:=.returning } [botW]):=by
 refine QuitsD.ctl (g':=G botW []) rfl (fun w=>?_) ?_
 . simp [G,stepG,unwind,doReturn,results,Frame.at,baseD,botW,Tryz.func54,Tryz.f54,seen,GStep.after,goexitEntry]
 refine QuitsD.ctl (g':={ G botW [] with status:=.finished }) rfl (fun w=>?_) ⟨rfl,rfl⟩;simp [G,stepG,unwind,botW,goexitEntry,Frame.catches];rfl
end
section
open Go.Conc Go.ConcN Go.ConcR.Gen Go.RowKit
open Go.ConcR (DC0)
section
variable {Φ:Ph} {P:Program} {i x n:Nat} {S:Nat->Prop} {w:World} {b:Frame} {a:Act} {k:List Item} {cs:List Frame} {ops:Array Oper} {id:Nat}
theorem zpz (next:∀ t,Φ.Loc P i x S n (G (b.at a (.inRegion ops (Region.schedule (P.follows .mixedOrders) ops t) :: k)) cs) w):Φ.Loc P i x S (n + 1) (G (b.at a (.code (.region id ops true) :: k)) cs) w :=
 Goes.step rfl fun w₁ h₁=>by
  rw [stepG_region_draw];exact ⟨⟨rfl,fun _ _=>rfl,rfl,rfl,by simp⟩,Goes.rely Ph.R.trans (next _) (h₁.trans _ _ _ (.at Φ S w₁ (w₁.drawn + 1)))⟩
end
end
section
open Go.Conc Go.ConcN Go.ConcR.Gen Go.RowKit
noncomputable def opsW:Array Oper:=match zol with | .seq _ (.region _ ops _)=>ops | _=>#[]
theorem ordW (t:Nat):Region.schedule (Tryz.prog.follows .mixedOrders) opsW t = Region.linearise.go .any opsW 9 t #[false,false,false,false,false,false,false,false,false] []:=by
 have h:Tryz.prog.follows .mixedOrders = true:=by kernel_rfl
 rw [h];have h9:opsW.size = 9:=by kernel_rfl
 simp only [Region.schedule,Bool.true_or,if_true,Region.linearise,h9];rfl
end
section
open Go.Conc Go.ConcN Go.ConcR.Gen Go.RowKit
open Go.ConcR (DC0)
theorem ow0:opsW[0]? = some { dst:=some 4,op:=.load 55 (.tmp 3),type:=55,pos := "l13_wear.go:30",after:=#[],guard:=none }:=by kernel_rfl
theorem ow1:opsW[1]? = some { dst:=some 5,op:=.load 3 (.tmp 2),type:=3,pos := "l13_wear.go:30",after:=#[],guard:=none }:=by kernel_rfl
theorem ow2:opsW[2]? = some { dst:=some 6,op:=.load 25 (.tmp 1),type:=25,pos := "l13_wear.go:30",after:=#[],guard:=none }:=by kernel_rfl
theorem ow3:opsW[3]? = some { dst:=some 7,op:=.load 3 (.tmp 2),type:=3,pos := "l13_wear.go:30",after:=#[],guard:=none }:=by kernel_rfl
theorem ow4:opsW[4]? = some { dst:=some 8,op:=.indexAddr 25 (.tmp 6) (.tmp 7),type:=0,pos := "l13_wear.go:30",after:=#[{ on:=2,ground:=.data },{ on:=3,ground:=.data }],guard:=none }:=by kernel_rfl
theorem ow5:opsW[5]? = some { dst:=some 9,op:=.load 99 (.tmp 8),type:=99,pos := "l13_wear.go:30",after:=#[{ on:=4,ground:=.data }],guard:=none }:=by kernel_rfl
theorem ow6:opsW[6]? = some { dst:=some 10,op:=.call { callee:=.value (.func 56),args:=#[.tmp 9],argTypes:=#[99] },type:=58,pos := "l13_wear.go:30",after:=#[{ on:=5,ground:=.data }],guard:=none }:=by kernel_rfl
theorem ow7:opsW[7]? = some { dst:=some 11,op:=.indexAddr 55 (.tmp 4) (.tmp 5),type:=0,pos := "l13_wear.go:30",after:=#[{ on:=0,ground:=.data },{ on:=1,ground:=.data },{ on:=0,ground:=.phase },{ on:=1,ground:=.phase },{ on:=2,ground:=.phase },{ on:=3,ground:=.phase },{ on:=4,ground:=.phase },{ on:=5,ground:=.phase },{ on:=6,ground:=.phase }],guard:=none }:=by kernel_rfl
theorem ow8:opsW[8]? = some { dst:=none,op:=.store 58 (.tmp 11) (.tmp 10),type:=0,pos := "l13_wear.go:30",after:=#[{ on:=7,ground:=.data },{ on:=6,ground:=.data },{ on:=6,ground:=.chain },{ on:=0,ground:=.phase },{ on:=1,ground:=.phase },{ on:=2,ground:=.phase },{ on:=3,ground:=.phase },{ on:=4,ground:=.phase },{ on:=5,ground:=.phase },{ on:=6,ground:=.phase }],guard:=none }:=by kernel_rfl
def rl (l0 l1 l2 l3 l4 l5 l6:Bool):List Nat :=
 (if l0 then [] else [0]) ++ ((if l1 then [] else [1]) ++ ((if l2 then [] else [2]) ++ ((if l3 then [] else [3]) ++ ((if !l4 && (l2 && l3) then [4] else []) ++ ((if !l5 && l4 then [5] else []) ++ ((if !l6 && l5 then [6] else []) ++ (if l0 && (l1 && (l2 && (l3 && (l4 && (l5 && l6))))) then [7] else [])))))))
theorem zh7 (l0 l1 l2 l3 l4 l5 l6:Bool):Region.ready .any opsW #[l0,l1,l2,l3,l4,l5,l6,false,false] = rl l0 l1 l2 l3 l4 l5 l6:=by
 cases l0 <;> cases l1 <;> cases l2 <;> cases l3 <;> cases l4 <;> cases l5 <;> cases l6 <;> kernel_rfl
theorem rdy8:Region.ready .any opsW #[true,true,true,true,true,true,true,true,false] = [8]:=by kernel_rfl
theorem zqc (l0 l1 l2 l3 l4 l5 l6:Bool):rl l0 l1 l2 l3 l4 l5 l6 ≠ []:=by
 cases l0 <;> cases l1 <;> cases l2 <;> cases l3 <;> cases l4 <;> cases l5 <;> cases l6 <;> simp [rl]
theorem zqd {i:Nat} {l0 l1 l2 l3 l4 l5 l6:Bool} (h:i ∈ rl l0 l1 l2 l3 l4 l5 l6):(i = 0∧l0 = false)∨(i = 1∧l1 = false)∨(i = 2∧l2 = false)∨(i = 3∧l3 = false)∨(i = 4∧l4 = false∧l2 = true∧l3 = true)∨(i = 5∧l5 = false∧l4 = true)∨(i = 6∧l6 = false∧l5 = true)∨(i = 7∧l0 = true∧l1 = true∧l2 = true∧l3 = true∧l4 = true∧l5 = true∧l6 = true):=by
 revert h;cases l0 <;> cases l1 <;> cases l2 <;> cases l3 <;> cases l4 <;> cases l5 <;> cases l6 <;> simp [rl]
structure WKn (Φ:Ph) (F I O A ao k n c pb po pc:Nat) (wn:Int) (ps:List Pg):Prop where
 kk:Φ.Ok
 roF:Φ.Ro F
 roO:Φ.Ro O
 roA:Φ.Ro A
 roP:Φ.Ro pb
 fv:∀ w,Φ.Old w->w.cell? ⟨F,0,none⟩ = some (.slice (some ⟨A,ao,none⟩) n c)
 ov:∀ w,Φ.Old w->w.cell? ⟨O,0,none⟩ = some (.slice (some ⟨Φ.C,0,none⟩) n n)
 hv:∀ w,Φ.Old w->w.cell? ⟨A,ao + k * 2,none⟩ = some (.slice (some ⟨pb,po,none⟩) 4 pc)
 wv:∀ w,Φ.Old w->w.cell? ⟨A,ao + k * 2 + 1,none⟩ = some (.int .i64 wn)
 pv:∀ w,Φ.Old w->∀ j v,(pgs ps)[j]? = some v->w.cell? ⟨pb,po + j,none⟩ = some v
 len:ps.length = 4
 kn:k < n
 small:n < 1000000
 sz:Φ.sz = n * 2
 ty:Φ.ty = link.tWg
 res:Φ.res k = [(k * 2, .int .i64 wn),(k * 2 + 1, .int .i64 (tornN ps:Int))]
section
variable {Φ:Ph} {F I O A ao k n c pb po pc:Nat} {wn:Int} {ps:List Pg}
def WSt (Φ:Ph) (F I O A ao k n c pb po pc:Nat) (wn:Int) (ps:List Pg):Prop:=∀ (v11:Value) (S:Nat->Prop) (w:World),S I->Φ.KB [(I, .cells #[.int .i64 (k:Int)] 3)] w ->
 Φ.Loc Tryz.prog k 0 S 9 (G ((baseD 54).at ⟨#[.pointer (some ⟨Φ.Wg,0,none⟩), .pointer (some ⟨F,0,none⟩), .pointer (some ⟨I,0,none⟩), .pointer (some ⟨O,0,none⟩),(.slice (some ⟨Φ.C,0,none⟩) n n),(.int .i64 (k:Int)),(.slice (some ⟨A,ao,none⟩) n c),(.int .i64 (k:Int)),(.pointer (some ⟨A,ao + k * 2,none⟩)),(.agg #[.slice (some ⟨pb,po,none⟩) 4 pc, .int .i64 wn]),(.agg #[.int .i64 wn, .int .i64 (tornN ps:Int)]),v11],[dcall 55 #[.pointer (some ⟨Φ.Wg,0,none⟩)]]⟩ [.inRegion opsW ([7,8])]) [botW]) w
theorem wOrd (kn:WKn Φ F I O A ao k n c pb po pc wn ps) (st:WSt Φ F I O A ao k n c pb po pc wn ps):∀ (m:Nat) (l0 l1 l2 l3 l4 l5 l6:Bool) (v4 v5 v6 v7 v8 v9 v10 v11:Value) (S:Nat->Prop) (w:World) (t:Nat),
 (l0 = true->v4 = .slice (some ⟨Φ.C,0,none⟩) n n)->(l1 = true->v5 = .int .i64 (k:Int))->(l2 = true->v6 = .slice (some ⟨A,ao,none⟩) n c)->(l3 = true->v7 = .int .i64 (k:Int))->(l4 = true->v8 = .pointer (some ⟨A,ao + k * 2,none⟩))->(l5 = true->v9 = .agg #[.slice (some ⟨pb,po,none⟩) 4 pc, .int .i64 wn])->(l6 = true->v10 = .agg #[.int .i64 wn, .int .i64 (tornN ps:Int)])->l0.toNat + l1.toNat + l2.toNat + l3.toNat + l4.toNat + l5.toNat + l6.toNat + m = 7 ->
 (l4 = true->l2 = true∧l3 = true)->(l5 = true->l4 = true)->(l6 = true->l5 = true)->S I->Φ.KB [(I, .cells #[.int .i64 (k:Int)] 3)] w ->
 Φ.Loc Tryz.prog k (if l6 then 0 else 7) S (m + 12) (G ((baseD 54).at ⟨#[.pointer (some ⟨Φ.Wg,0,none⟩), .pointer (some ⟨F,0,none⟩), .pointer (some ⟨I,0,none⟩), .pointer (some ⟨O,0,none⟩),v4,v5,v6,v7,v8,v9,v10,v11],[dcall 55 #[.pointer (some ⟨Φ.Wg,0,none⟩)]]⟩ [.inRegion opsW (Region.linearise.go .any opsW (m + 2) t #[l0,l1,l2,l3,l4,l5,l6,false,false] [])]) [botW]) w:=by
 intro m
 induction m with
 | zero =>
   intro l0 l1 l2 l3 l4 l5 l6 v4 v5 v6 v7 v8 v9 v10 v11 S w t e0 e1 e2 e3 e4 e5 e6 hm g4 g5 g6 hI hF;obtain ⟨rfl,rfl,rfl,rfl,rfl,rfl,rfl⟩:l0 = true∧l1 = true∧l2 = true∧l3 = true∧l4 = true∧l5 = true∧l6 = true:=by
    clear e0 e1 e2 e3 e4 e5 e6 g4 g5 g6;revert hm;cases l0 <;> cases l1 <;> cases l2 <;> cases l3 <;> cases l4 <;> cases l5 <;> cases l6 <;> simp
   obtain rfl:=e0 rfl;obtain rfl:=e1 rfl;obtain rfl:=e2 rfl;obtain rfl:=e3 rfl;obtain rfl:=e4 rfl;obtain rfl:=e5 rfl;obtain rfl:=e6 rfl;have h7:Region.linearise.go .any opsW (0 + 2) t #[true,true,true,true,true,true,true,false,false] [] = [7,8]:=by
    rcases zdo .any opsW 1 t #[true,true,true,true,true,true,true,false,false] with ⟨hn,_⟩ | ⟨i,hi,t',h⟩
    . rw [zh7] at hn;exact absurd hn (zqc _ _ _ _ _ _ _)
    rw [zh7] at hi;obtain rfl:i = 7:=by simpa [rl] using hi
    have e:(#[true,true,true,true,true,true,true,false,false]:Array Bool).setIfInBounds 7 true = #[true,true,true,true,true,true,true,true,false]:=rfl;rw [e] at h;rcases zdo .any opsW 0 t' #[true,true,true,true,true,true,true,true,false] with ⟨hn,_⟩ | ⟨i,hi,t'',h'⟩
    . rw [rdy8] at hn;cases hn
    rw [rdy8] at hi;obtain rfl:i = 8:=by simpa using hi
    rw [h']  at h;exact h
   rw [h7];exact Goes.mono (st v11 S w hI hF) (by omega)
 | succ m ih =>
   intro l0 l1 l2 l3 l4 l5 l6 v4 v5 v6 v7 v8 v9 v10 v11 S w t e0 e1 e2 e3 e4 e5 e6 hm g4 g5 g6 hI hF;have hS:∀ p ∈ [(I,Obj.cells #[.int .i64 (k:Int)] 3)],S p.1:=fun p hp=>by simp at hp;subst hp;exact hI
   have hkn:=kn.kn;have hsm:=kn.small;rcases zdo .any opsW (m + 2) t #[l0,l1,l2,l3,l4,l5,l6,false,false] with ⟨hn,_⟩ | ⟨i,hi,t',h⟩
   . rw [zh7] at hn;exact absurd hn (zqc _ _ _ _ _ _ _)
   rw [zh7] at hi;rw [show m + 1 + 2 = m + 2 + 1 by omega,h];clear h;rcases zqd hi with ⟨rfl,rfl⟩ | ⟨rfl,rfl⟩ | ⟨rfl,rfl⟩ | ⟨rfl,rfl⟩ | ⟨rfl,rfl,h2,h3⟩ | ⟨rfl,rfl,h4⟩ | ⟨rfl,rfl,h5⟩ | ⟨rfl,h0,h1,h2,h3,h4,h5,h6⟩ <;> clear hi
   . rw [show (#[false,l1,l2,l3,l4,l5,l6,false,false]:Array Bool).setIfInBounds 0 true = #[true,l1,l2,l3,l4,l5,l6,false,false] from rfl];refine ko hS hF ow0 rfl (by k_ne) (fun w hw=>⟨run_eq_of (fun K hK=>by have h0:=kn.ov w hw.old;go_simp;exact hK),by have h0:=kn.ov w hw.old;intro e he;have hm:=mem_listed he;simp [go_sem, *] at hm;subst hm;exact ⟨_,rfl,Nat.lt_of_lt_of_le kn.roO.1 hw.n0, .inr kn.roO⟩⟩) ?_;walk_nrm;exact Goes.mono (ih true l1 l2 l3 l4 l5 l6 _ _ _ _ _ _ _ _ S w t' (fun _=>rfl) e1 e2 e3 e4 e5 e6 (by simp at hm ⊢;omega) g4 g5 g6 hI hF) (by omega)
   . rw [show (#[l0,false,l2,l3,l4,l5,l6,false,false]:Array Bool).setIfInBounds 1 true = #[l0,true,l2,l3,l4,l5,l6,false,false] from rfl];refine ko hS hF ow1 rfl (by k_ne) (fun w hw=>⟨run_eq_of (fun K hK=>by have h0:w.cell? ⟨I,0,none⟩ = some (.int .i64 (k:Int)):=(hw.cell (b:=I) (cs:=#[.int .i64 (k:Int)]) (t:=3) (by simp) 0).trans rfl;go_simp;exact hK),by have h0:w.cell? ⟨I,0,none⟩ = some (.int .i64 (k:Int)):=(hw.cell (b:=I) (cs:=#[.int .i64 (k:Int)]) (t:=3) (by simp) 0).trans rfl;intro e he;have hm:=mem_listed he;simp [go_sem, *] at hm;subst hm;exact ⟨_,rfl,hw.lt (p:=(I, .cells #[.int .i64 (k:Int)] 3)) (by simp), .inl hI⟩⟩) ?_;walk_nrm;exact Goes.mono (ih l0 true l2 l3 l4 l5 l6 _ _ _ _ _ _ _ _ S w t' e0 (fun _=>rfl) e2 e3 e4 e5 e6 (by simp at hm ⊢;omega) g4 g5 g6 hI hF) (by omega)
   . rw [show (#[l0,l1,false,l3,l4,l5,l6,false,false]:Array Bool).setIfInBounds 2 true = #[l0,l1,true,l3,l4,l5,l6,false,false] from rfl];refine ko hS hF ow2 rfl (by k_ne) (fun w hw=>⟨run_eq_of (fun K hK=>by have h0:=kn.fv w hw.old;go_simp;exact hK),by have h0:=kn.fv w hw.old;intro e he;have hm:=mem_listed he;simp [go_sem, *] at hm;subst hm;exact ⟨_,rfl,Nat.lt_of_lt_of_le kn.roF.1 hw.n0, .inr kn.roF⟩⟩) ?_;walk_nrm;exact Goes.mono (ih l0 l1 true l3 l4 l5 l6 _ _ _ _ _ _ _ _ S w t' e0 e1 (fun _=>rfl) e3 e4 e5 e6 (by simp at hm ⊢;omega) (fun z=>⟨rfl,(g4 z).2⟩) g5 g6 hI hF) (by omega)
   . rw [show (#[l0,l1,l2,false,l4,l5,l6,false,false]:Array Bool).setIfInBounds 3 true = #[l0,l1,l2,true,l4,l5,l6,false,false] from rfl];refine ko hS hF ow3 rfl (by k_ne) (fun w hw=>⟨run_eq_of (fun K hK=>by have h0:w.cell? ⟨I,0,none⟩ = some (.int .i64 (k:Int)):=(hw.cell (b:=I) (cs:=#[.int .i64 (k:Int)]) (t:=3) (by simp) 0).trans rfl;go_simp;exact hK),by have h0:w.cell? ⟨I,0,none⟩ = some (.int .i64 (k:Int)):=(hw.cell (b:=I) (cs:=#[.int .i64 (k:Int)]) (t:=3) (by simp) 0).trans rfl;intro e he;have hm:=mem_listed he;simp [go_sem, *] at hm;subst hm;exact ⟨_,rfl,hw.lt (p:=(I, .cells #[.int .i64 (k:Int)] 3)) (by simp), .inl hI⟩⟩) ?_;walk_nrm;exact Goes.mono (ih l0 l1 l2 true l4 l5 l6 _ _ _ _ _ _ _ _ S w t' e0 e1 e2 (fun _=>rfl) e4 e5 e6 (by simp at hm ⊢;omega) (fun z=>⟨(g4 z).1,rfl⟩) g5 g6 hI hF) (by omega)
   . rw [show (#[l0,l1,l2,l3,false,l5,l6,false,false]:Array Bool).setIfInBounds 4 true = #[l0,l1,l2,l3,true,l5,l6,false,false] from rfl];obtain rfl:=e2 h2;obtain rfl:=e3 h3;refine ko hS hF ow4 rfl (by k_ne) (fun w hw=>⟨run_eq_of (fun K hK=>by have hk2:(k:Int) < (n:Int):=(by omega);go_simp;exact hK),by rw [listed_nil (by simp [go_sem, *])];simp⟩) ?_;walk_nrm;exact Goes.mono (ih l0 l1 l2 l3 true l5 l6 _ _ _ _ _ _ _ _ S w t' e0 e1 e2 e3 (fun _=>rfl) e5 e6 (by simp at hm ⊢;omega) (fun _=>⟨h2,h3⟩) (fun _=>rfl) g6 hI hF) (by omega)
   . rw [show (#[l0,l1,l2,l3,l4,false,l6,false,false]:Array Bool).setIfInBounds 5 true = #[l0,l1,l2,l3,l4,true,l6,false,false] from rfl];obtain rfl:=e4 h4;refine ko hS hF ow5 rfl (by k_ne) (fun w hw=>⟨run_eq_of (fun K hK=>by have h0:=kn.hv w hw.old;have h1:=kn.wv w hw.old;go_simp;exact hK),by have h0:=kn.hv w hw.old;have h1:=kn.wv w hw.old;intro e he;have hm:=mem_listed he;simp [go_sem, *] at hm;rcases hm with rfl | rfl <;> exact ⟨_,rfl,Nat.lt_of_lt_of_le kn.roA.1 hw.n0, .inr kn.roA⟩⟩) ?_
     walk_nrm;exact Goes.mono (ih l0 l1 l2 l3 l4 true l6 _ _ _ _ _ _ _ _ S w t' e0 e1 e2 e3 e4 (fun _=>rfl) e6 (by simp at hm ⊢;omega) g4 (fun _=>h4) (fun _=>rfl) hI hF) (by omega)
   . rw [show (#[l0,l1,l2,l3,l4,l5,false,false,false]:Array Bool).setIfInBounds 6 true = #[l0,l1,l2,l3,l4,l5,true,false,false] from rfl];obtain rfl:=e5 h5;refine Goes.mono (n:=11) (zp0 (c:=Tryz.f56.body.getD .skip) ow6 rfl (by k_ne) rfl Tryz.func56 rfl rfl ?_) (by omega)
     walk_nrmf Tryz.f56
     have hW:=znh (i:=k) (x:=0) (n:=4) (c:=pc) (wn:=wn) (ps:=ps) (cc:=(baseD 54).at ⟨#[.pointer (some ⟨Φ.Wg,0,none⟩), .pointer (some ⟨F,0,none⟩), .pointer (some ⟨I,0,none⟩), .pointer (some ⟨O,0,none⟩),v4,v5,v6,v7,v8,(.agg #[.slice (some ⟨pb,po,none⟩) 4 pc, .int .i64 wn]),v10,v11],[dcall 55 #[.pointer (some ⟨Φ.Wg,0,none⟩)]]⟩ [.inRegion opsW (6 :: Region.linearise.go .any opsW (m + 2) t' #[l0,l1,l2,l3,l4,l5,true,false,false] [])]) (cs:=[botW]) kn.kk hS hF kn.len (by omega) kn.roP kn.pv (fun w S' hSS hF=>?_)
     . simp only [Tryz.f56,Option.getD_some] at hW;exact hW
     rw [Frame.finish_at,ow6];walk_nrm;refine Goes.mono (ih l0 l1 l2 l3 l4 l5 true _ _ _ _ _ _ _ _ S' w t' e0 e1 e2 e3 e4 e5 (fun _=>rfl) (by simp at hm ⊢;omega) g4 g5 (fun _=>h5) (hSS _ hI) hF) ?_;have:=g5 h5;have h23:=g4 this;obtain ⟨rfl,rfl⟩:=h23;subst this;subst h5;simp at hm;omega
   subst h0 h1 h2 h3 h4 h5 h6;simp at hm
end
end
section
open Go.Conc Go.ConcN Go.ConcR.Gen Go.RowKit Go.Conc.Lib
open Go.ConcR (DC0)
section
variable {Φ:Ph} {F I O A ao k n c pb po pc:Nat} {wn:Int} {ps:List Pg}
theorem set2 {w:World} {C j:Nat} {cs:Array Value} {t:TypeId} {a b:Value} (hc:w.heap[C]? = some (.cells cs t)) :
 ((w.setCell ⟨C,j,none⟩ a).setCell ⟨C,j + 1,none⟩ b).heap[C]? = some (.cells ((cs.setIfInBounds j a).setIfInBounds (j + 1) b) t):=yk (yk hc)
theorem wSt (kn:WKn Φ F I O A ao k n c pb po pc wn ps):WSt Φ F I O A ao k n c pb po pc wn ps:=by
 intro v11 S w hI hF;have hS:∀ p ∈ [(I,Obj.cells #[.int .i64 (k:Int)] 3)],S p.1:=fun p hp=>by simp at hp;subst hp;exact hI
 have hkn:=kn.kn;have hsm:=kn.small;refine ko hS hF ow7 rfl (by k_ne) (fun w hw=>⟨run_eq_of (fun K hK=>by have hk2:(k:Int) < (n:Int):=(by omega);go_simp;exact hK),by rw [listed_nil (by simp [go_sem, *])];simp⟩) ?_;walk_nrm;refine Goes.stop fun w₁ h₁=>?_;replace hF:=hF.rely hS h₁;clear h₁;obtain ⟨cs,hc,hsz⟩:=hF.pay;rw [kn.sz] at hsz;have c0:w₁.cell? ⟨Φ.C,k * 2,none⟩ = some (cs[k * 2]'(by omega)):=by simp [World.cell?,hc,show k * 2 < cs.size by omega]
 have c1:w₁.cell? ⟨Φ.C,k * 2 + 1,none⟩ = some (cs[k * 2 + 1]'(by omega)):=by simp [World.cell?,hc,show k * 2 + 1 < cs.size by omega]
 have z0:w₁.frozen? ⟨Φ.C,k * 2,none⟩ = false:=by simp [World.frozen?,hc]
 have z1:w₁.frozen? ⟨Φ.C,k * 2 + 1,none⟩ = false:=by simp [World.frozen?,hc]
 have hW2:=set2 (j:=k * 2) (a:=.int .i64 wn) (b:=.int .i64 (tornN ps:Int)) hc;refine ⟨rfl,_,(w₁.setCell ⟨Φ.C,k * 2,none⟩ (.int .i64 wn)).setCell ⟨Φ.C,k * 2 + 1,none⟩ (.int .i64 (tornN ps:Int)),_,stepG_none ow8 rfl (by k_ne) ?_,⟨by simp [World.setCell],fun b hb=>?_,⟨_,hW2,by simp [hsz,kn.sz]⟩,fun off ho=>?_,fun p hp=>?_,by simp [World.setCell],by simp [World.setCell]⟩, ?_, ?_⟩
 . go_simp
 . simp [Below.heap_setCell,hb]
 . have h1:off ≠ k * 2:=fun e=>ho ⟨_,by rw [kn.res,e];exact List.mem_cons_self ..⟩;have h2:off ≠ k * 2 + 1:=fun e=>ho ⟨_,by rw [kn.res,e];exact List.mem_cons_of_mem _ (List.mem_cons_self ..)⟩;simp [World.cell?,hW2,hc,Array.getElem?_setIfInBounds,Ne.symm h1,Ne.symm h2]
 . rw [kn.res] at hp;simp only [List.mem_cons,List.not_mem_nil,or_false] at hp;rcases hp with rfl | rfl
   . simp [World.cell?,hW2,Array.getElem?_setIfInBounds,show k * 2 < cs.size by omega]
   simp [World.cell?,hW2,Array.getElem?_setIfInBounds,show k * 2 + 1 < cs.size by omega]
 . intro e he;have hm:=mem_listed he;simp [go_sem, *] at hm;rcases hm with rfl | rfl
   . exact ⟨_,rfl,rfl,_,by rw [kn.res];exact List.mem_cons_self ..⟩
   exact ⟨_,rfl,rfl,_,by rw [kn.res];exact List.mem_cons_of_mem _ (List.mem_cons_self ..)⟩
 have hL:WgLive link.tWg Φ.Wg ((w₁.setCell ⟨Φ.C,k * 2,none⟩ (.int .i64 wn)).setCell ⟨Φ.C,k * 2 + 1,none⟩ (.int .i64 (tornN ps:Int))):=by
  obtain ⟨st,sm,hl⟩:=hF.live;rw [kn.ty] at hl;refine ⟨st,sm,hl.of_block ?_⟩;have:=Ne.symm kn.kk.hCW;simp [Below.heap_setCell,this]
 have hR:∀ {w w₁:World},WgLive link.tWg Φ.Wg w->Φ.R S w w₁->WgLive link.tWg Φ.Wg w₁:=fun h r=>by
  have:=r.live;rw [kn.ty] at this;exact this h
 rw [kn.ty];refine ⟨26, ?_⟩;walk_nrm
 u_c stepG_region_end hR hL
 u_c stepG_end hR hL
 g_unwB hR hL Tryz.func55 (nm_done link) Tryz.f55
 have hA:=@zog link Tryz.prog zng Φ.Wg (Φ.R S) hR;simp only [body_done,doneFn,Option.getD_some] at hA;exact hA rfl (zla _) _ hL
theorem zp5 (kn:WKn Φ F I O A ao k n c pb po pc wn ps) {S:Nat->Prop} {w:World} (hI:S I) (hF:Φ.KB [(I, .cells #[.int .i64 (k:Int)] 3)] w):Φ.Loc Tryz.prog k 7 S 25 (born Tryz.prog (zf9 Φ.Wg F I O)) w:=by
 refine z7 rfl (zm0 Φ.Wg F I O) ?_;have hb:zol = .seq (.region 0 #[{ dst:=none,op:=.defer { callee:=.value (.func 55),args:=#[.tmp 0],argTypes:=#[113] },type:=0,pos := "l13_wear.go:29",after:=#[],guard:=none }] false) (.region 1 opsW true):=by kernel_rfl
 rw [hb];refine z7 rfl (fun w=>stepG_seq) ?_;refine z7 rfl (fun w=>stepG_region) ?_;simp only [sz,Nat.reduceAdd,Nat.zero_add,List.range,List.range.loop];refine z7 rfl (fun w=>stepG_defer rfl rfl (by k_ne) rfl) ?_;walk_nrm;refine z7 rfl (fun w=>stepG_region_end) ?_;refine zpz fun t=>?_;rw [ordW];exact wOrd kn (wSt kn) 7 false false false false false false false _ _ _ _ _ _ _ _ S w t (by simp) (by simp) (by simp) (by simp) (by simp) (by simp) (by simp) (by simp) (by simp) (by simp) (by simp) hI hF
end
end
section
open Go.Conc Go.ConcN Go.RowKit Go.Conc.Lib Go.ConcR.Gen Go.ConcN.Gen
open Go.ConcR (KK WgAt stA smA rd wr mk DC0)
variable {L:WgLink} {P:Program} {Wg:Nat} {R:World->World->Prop} {F:World->Prop} {b₀:Frame} {a₀:Act} {ops₀:Array Oper} {i₀:Nat} {rest₀:List Nat} {k₀:List Item} {cs:List Frame} {mT:Nat}

theorem zq8 (H:WgLib P L) {Go':Goroutine->World->Prop} (hR:∀ {w w₁:World},(F w∧WgLive L.tWg Wg w)->R w w₁->(F w₁∧WgLive L.tWg Wg w₁)) (hS:∀ w v,F w->F (w.setCell (stA Wg) v))
 (hT:∀ w,F w->WgLive L.tWg Wg w->Goes P true R DC0 Go' mT (G (b₀.at (a₀.put ((ops₀[i₀]?).bind (·.dst)) (.tuple #[])) (.inRegion ops₀ rest₀ :: k₀)) cs) w)
 (w:World) (hF:F w∧WgLive L.tWg Wg w) :
 Goes P true R DC0 (T5 P L.tWg Wg R Go') 12
  (G ((base L.add).at ⟨#[.pointer (some ⟨Wg,0,none⟩), .int .i64 1,undef,undef,undef,undef,undef,undef,undef,undef,undef,undef,undef,undef,undef,undef,undef,undef,undef,undef,undef,undef,undef,undef,undef,undef,undef,undef,undef,undef,undef,undef,undef,undef,undef,undef,undef,undef,undef,undef,undef,undef,undef,undef,undef,undef,undef,undef,undef,undef,undef,undef,undef,undef,undef,undef,undef,undef,undef,undef,undef,undef,undef,undef,undef,undef,undef,undef,undef,undef,undef,undef,undef,undef,undef,undef,undef,undef,undef,undef,undef,undef,undef,undef,undef,undef,undef,undef,undef,undef,undef,undef,undef,undef,undef,undef,undef,undef,undef,undef,undef,undef,undef,undef,undef,undef,undef,undef,undef,undef,undef,undef,undef,undef,undef,undef,undef],[]⟩ [.code (body_add L)]) (b₀.at a₀ (.inRegion ops₀ (i₀ :: rest₀) :: k₀) :: cs)) w:=by
 lib_facts
 simp only [body_add,addFn,Option.getD_some]
 u_c stepG_seq hR hF;u_cond true hR hF;u_c stepG_seq hR hF;u_c stepG_seq hR hF;u_reg hR hF;u_op hR hF;u_op hR hF;u_c stepG_region_end hR hF;u_cond false hR hF;u_c stepG_skip hR hF;u_c stepG_seq hR hF;u_reg hR hF
 refine Goes.stop (fun w1 h1=>?_);replace hF:=hR hF h1;clear h1;refine ⟨rfl,fun _=>⟨_,stepG_mark0 .disable (by simp) rfl rfl (by k_ne) rfl H.f_disable (x_disable_n L) (x_disable_b L) (x_disable_x L) (x_disable_f L),40, ?_⟩⟩;simp only [id];walk_nrm
 u_c stepG_region_end hR hF;u_reg hR hF;u_defer hR hF;u_c stepG_region_end hR hF;u_c stepG_seq hR hF;u_reg hR hF;u_op hR hF;u_c stepG_region_end hR hF;u_c stepG_seq hR hF;u_c stepG_seq hR hF;u_reg hR hF;u_bub hR hF;u_c stepG_region_end hR hF;u_cond false hR hF;u_c stepG_skip hR hF;u_c stepG_seq hR hF;u_reg hR hF;u_op hR hF;u_op hR hF;u_op hR hF;u_op hR hF;u_op hR hF;u_op hR hF;u_call H.f_uAdd (nm_uAdd L) uAddFn hR hF;u_c stepG_seq hR hF;u_reg hR hF;u_op hR hF;u_c stepG_region_end hR hF;u_c stepG_seq hR hF;u_reg hR hF;u_op hR hF;u_op hR hF;u_op hR hF;u_op hR hF
 refine Goes.stop (fun w2 h2=>?_);replace hF:=hR hF h2;clear h2;refine ⟨rfl,fun v hv hw=>?_⟩;rcases Nat.eq_zero_or_pos v with rfl | hvp
 . replace hw:WgAt L.tWg Wg w2 0 0:=by simpa using hw
   have z:(((0:Nat):Int) + 1) * KK = KK:=by simp
   rw [z];have e0:IntKind.u64.wrap (0 + 4294967296) = KK:=by decide
   refine ⟨_,(stepG_add_atomic rfl rfl (by k_ne) rfl H.f_addU64 (x_addU64_n L) (x_addU64_b L) (x_addU64_x L) .u64 (x_addU64_f L) rfl rfl hw.cellSt (hw.thaw 0)).trans (by rw [e0];rfl),fun _=>⟨110, ?_⟩,fun h=>absurd rfl h⟩;replace hF:F (w2.setCell (stA Wg) (.int .u64 KK))∧WgLive L.tWg Wg (w2.setCell (stA Wg) (.int .u64 KK)):=⟨hS _ _ hF.1,⟨_,_,hw.setSt _⟩⟩;clear hw;simp only [KK] at hF ⊢;walk_nrm
   u_op hR hF;u_c stepG_region_end hR hF;u_c stepG_ret' hR hF;u_leave1 H.f_uAdd hR hF;u_op hR hF;u_c stepG_region_end hR hF;u_c stepG_seq hR hF;u_c stepG_seq hR hF;u_reg hR hF;u_op hR hF;u_op hR hF;u_op hR hF;u_op hR hF;u_skip hR hF;u_skip hR hF;u_op hR hF;u_c stepG_region_end hR hF;u_cond false hR hF;u_c stepG_skip hR hF;u_c stepG_seq hR hF;u_reg hR hF;u_op hR hF;u_op hR hF;u_op hR hF;u_op hR hF;u_c stepG_region_end hR hF;u_c stepG_seq hR hF;u_reg hR hF;u_op hR hF;u_op hR hF;u_op hR hF;u_op hR hF;u_c stepG_region_end hR hF;u_c stepG_seq hR hF;u_c stepG_seq hR hF;u_reg hR hF;u_op hR hF;u_op hR hF;u_op hR hF;u_op hR hF;u_op hR hF;u_op hR hF;u_op hR hF;u_op hR hF;u_op hR hF;u_op hR hF;u_c stepG_region_end hR hF;u_cond true hR hF;u_reg hR hF;u_op hR hF;u_op hR hF;u_op hR hF;u_conv H.underlying_tPU32 H.room_tU32 (WgLive.cell1 hF.2).choose_spec hR hF
   refine Goes.stop (fun w3 h3=>?_);replace hF:=hR hF h3;clear h3;refine ⟨rfl,fun _=>⟨_,stepG_markAt .read (by simp) rfl rfl (by k_ne) rfl H.f_raceRead (x_raceRead_n L) (x_raceRead_b L) (x_raceRead_x L) (x_raceRead_f L) (ad:=⟨Wg,1,none⟩) (by simp [Act.eval]),50, ?_⟩⟩;simp only [id];walk_nrm
   u_c stepG_region_end hR hF;u_c stepG_seq hR hF;u_c stepG_seq hR hF;u_reg hR hF;u_op hR hF;u_op hR hF;u_c stepG_region_end hR hF;u_cond false hR hF;u_c stepG_skip hR hF;u_c stepG_seq hR hF;u_c stepG_seq hR hF;u_reg hR hF;u_op hR hF;u_op hR hF;u_op hR hF;u_skip hR hF;u_skip hR hF;u_op hR hF;u_op hR hF;u_skip hR hF;u_skip hR hF;u_skip hR hF;u_skip hR hF;u_op hR hF;u_c stepG_region_end hR hF;u_cond false hR hF;u_c stepG_skip hR hF;u_c stepG_seq hR hF;u_c stepG_seq hR hF;u_reg hR hF;u_op hR hF;u_op hR hF;u_op hR hF;u_skip hR hF;u_skip hR hF;u_op hR hF;u_c stepG_region_end hR hF;u_cond true hR hF;u_c stepG_ret' hR hF
   refine Goes.stop (fun w4 h4=>?_);replace hF:=hR hF h4;clear h4;refine ⟨rfl,fun _=>⟨_,stepG_unwind_entry (v:=.tuple #[]) (evs:=#[mk .enable]) rfl H.f_enable (x_enable_n L) (x_enable_b L) (x_enable_x L) (x_enable_f L) (by simp [Extern.Race.none_]) (by simp [Go.ConcR.mk]) (by simp [Go.ConcR.mk]),mT + 1, ?_⟩⟩;simp only [id]
   u_leave0 H.f_add hR hF
   exact hT _ hF.1 hF.2
 obtain ⟨V,hV⟩:∃ V:Int,V = (v:Int) + 1:=⟨_,rfl⟩;obtain ⟨S,hS'⟩:∃ S:Int,S = V * KK:=⟨_,rfl⟩;have eS:IntKind.u64.wrap ((v:Int) * KK + 4294967296) = S:=by rw [IntKind.wrap_u64,hS',hV];simp only [KK];omega
 rw [← hV,← hS'];have a1:S / 4294967296 = V:=by rw [hS'];simp only [KK];omega
 have b1:bits .and .u64 S 2147483648 = 0:=by rw [hS',hV];have:=st_flag (v + 1) 0 (by omega) (by omega);simpa [KK] using this
 have b2:bits .and .u64 S 2147483647 = 0:=by rw [hS',hV];have:=st_waiters (v + 1) 0 (by omega) (by omega);simpa [KK] using this
 have c1:IntKind.i32.wrap V = V:=by rw [IntKind.wrap_i32];omega
 have hV1:1 < V:=by omega
 have hV2:V < 2147483648:=by omega
 have q1:(V == 1) = false:=by simp;omega
 have q2:decide (V = 1) = false:=decide_eq_false (by omega);have q3:decide (V < 0) = false:=decide_eq_false (by omega);have q4:decide (0 < V) = true:=decide_eq_true (by omega);have q5:(V == 0) = false:=by simp;omega
 have q6:decide (V = 0) = false:=decide_eq_false (by omega);refine ⟨_,(stepG_add_atomic rfl rfl (by k_ne) rfl H.f_addU64 (x_addU64_n L) (x_addU64_b L) (x_addU64_x L) .u64 (x_addU64_f L) rfl rfl hw.cellSt (hw.thaw 0)).trans (by rw [eS];rfl),fun h=>absurd h (by omega),fun _=>⟨110, ?_⟩⟩;replace hF:F (w2.setCell (stA Wg) (.int .u64 S))∧WgLive L.tWg Wg (w2.setCell (stA Wg) (.int .u64 S)):=⟨hS _ _ hF.1,⟨_,_,hw.setSt _⟩⟩;clear hw hS' hV eS;walk_nrm
 u_op hR hF;u_c stepG_region_end hR hF;u_c stepG_ret' hR hF;u_leave1 H.f_uAdd hR hF;u_op hR hF;u_c stepG_region_end hR hF;u_c stepG_seq hR hF;u_c stepG_seq hR hF;u_reg hR hF;u_op hR hF;u_op hR hF;u_op hR hF;u_op hR hF;u_skip hR hF;u_skip hR hF;u_op hR hF;u_c stepG_region_end hR hF;u_cnd false hR hF;u_c stepG_skip hR hF;u_c stepG_seq hR hF;u_reg hR hF;u_op hR hF;u_op hR hF;u_op hR hF;u_op hR hF;u_c stepG_region_end hR hF;u_c stepG_seq hR hF;u_reg hR hF;u_op hR hF;u_op hR hF;u_op hR hF;u_op hR hF;u_c stepG_region_end hR hF;u_c stepG_seq hR hF;u_c stepG_seq hR hF;u_reg hR hF;u_op hR hF;u_op hR hF;u_op hR hF;u_op hR hF;u_op hR hF;u_op hR hF;u_op hR hF;u_op hR hF;u_op hR hF;u_op hR hF;u_c stepG_region_end hR hF;u_cnd false hR hF;u_c stepG_skip hR hF;u_c stepG_seq hR hF;u_c stepG_seq hR hF;u_reg hR hF;u_op hR hF;u_op hR hF;u_c stepG_region_end hR hF;u_cnd false hR hF;u_c stepG_skip hR hF;u_c stepG_seq hR hF;u_c stepG_seq hR hF;u_reg hR hF;u_op hR hF;u_op hR hF;u_op hR hF;u_skip hR hF;u_skip hR hF;u_op hR hF;u_op hR hF;u_skip hR hF;u_skip hR hF;u_skip hR hF;u_skip hR hF;u_op hR hF;u_c stepG_region_end hR hF;u_cnd false hR hF;u_c stepG_skip hR hF;u_c stepG_seq hR hF;u_c stepG_seq hR hF;u_reg hR hF;u_op hR hF;u_op hR hF;u_op hR hF;u_skip hR hF;u_skip hR hF;u_op hR hF;u_c stepG_region_end hR hF;u_cnd true hR hF;u_c stepG_ret' hR hF
 refine Goes.stop (fun w4 h4=>?_);replace hF:=hR hF h4;clear h4;refine ⟨rfl,fun _=>⟨_,stepG_unwind_entry (v:=.tuple #[]) (evs:=#[mk .enable]) rfl H.f_enable (x_enable_n L) (x_enable_b L) (x_enable_x L) (x_enable_f L) (by simp [Extern.Race.none_]) (by simp [Go.ConcR.mk]) (by simp [Go.ConcR.mk]),mT + 1, ?_⟩⟩;simp only [id]
 u_leave0 H.f_add hR hF
 exact hT _ hF.1 hF.2
end
section
open Go.Conc Go.ConcN Go.RowKit Go.Conc.Lib Go.ConcR.Gen Go.ConcN.Gen
open Go.ConcR (KK WgAt stA smA rd wr mk DC0)
variable {L:WgLink} {P:Program} {Wg:Nat} {R:World->World->Prop} {F:World->Prop} {b₀:Frame} {a₀:Act} {ops₀:Array Oper} {i₀:Nat} {rest₀:List Nat} {k₀:List Item} {cs:List Frame} {mT:Nat}

def Back (P:Program) (ty:TypeId) (Wg:Nat) (R:World->World->Prop) (F:World->Prop) (gE:Goroutine) (g:Goroutine):Prop:=∃ m,∀ w,(F w∧WgLive ty Wg w)->Goes P true R DC0 (fun g _=>g = gE) m g w

theorem zkn (H:WgLib P L) (hR:∀ {w w₁:World},(F w∧WgLive L.tWg Wg w)->R w w₁->(F w₁∧WgLive L.tWg Wg w₁)) (hS:∀ w v,F w->F (w.setCell (stA Wg) v)) (hS':∀ w v,F w->F (w.setCell (smA Wg) v))
 (g:Goroutine) (w:World) (h:AnchWN L F Wg (b₀.at a₀ (.inRegion ops₀ (i₀ :: rest₀) :: k₀)) cs g w) :
 ∃ m,Goes P true R DC0 (S3 P L.tWg Wg R (Back P L.tWg Wg R F (G (b₀.at (a₀.put ((ops₀[i₀]?).bind (·.dst)) (.tuple #[])) (.inRegion ops₀ rest₀ :: k₀)) cs)) (AnchWN L F Wg (b₀.at a₀ (.inRegion ops₀ (i₀ :: rest₀) :: k₀)) cs)) m g w:=by
 lib_facts
 obtain ⟨T,rfl,hT84,t0,hF⟩:=h;obtain ⟨v0,v1,v2,v3,v4,v5,v6,v7,v8,v9,v10,v11,v12,v13,v14,v15,v16,v17,v18,v19,v20,v21,v22,v23,v24,v25,v26,v27,v28,v29,v30,v31,v32,v33,v34,v35,v36,v37,v38,v39,v40,v41,v42,v43,v44,v45,v46,v47,v48,v49,v50,v51,v52,v53,v54,v55,v56,v57,v58,v59,v60,v61,v62,v63,v64,v65,v66,v67,v68,v69,v70,v71,v72,v73,v74,v75,v76,v77,v78,v79,v80,v81,v82,v83,rfl⟩:=array84 T hT84;simp only [List.getElem?_toArray,List.getElem?_cons_zero,Option.some.injEq] at t0;subst t0;refine ⟨30, ?_⟩;simp only [L7,body_wait,waitFn,Option.getD_some]
 u_c stepG_block hR hF;u_c stepG_seq hR hF;u_reg hR hF;u_op hR hF;u_op hR hF;u_op hR hF;u_call H.f_uLoad (nm_uLoad L) uLoadFn hR hF;u_c stepG_seq hR hF;u_reg hR hF;u_op hR hF;u_c stepG_region_end hR hF;u_c stepG_seq hR hF;u_reg hR hF;u_op hR hF;u_op hR hF;u_op hR hF
 refine Goes.stop (fun w1 h1=>?_);replace hF:=hR hF h1;clear h1;refine ⟨rfl,fun v hv hw=>?_⟩;rcases Nat.eq_zero_or_pos v with rfl | hvp
 . replace hw:WgAt L.tWg Wg w1 0 0:=by simpa using hw
   refine ⟨_,stepG_load_atomic (v:=0) rfl rfl (by k_ne) rfl H.f_loadU64 (x_loadU64_n L) (x_loadU64_b L) (x_loadU64_x L) .u64 (x_loadU64_f L) rfl hw.cellSt,fun _=>⟨50, ?_⟩,fun h=>absurd rfl h⟩;clear hw;walk_nrm
   u_op hR hF;u_c stepG_region_end hR hF;u_c stepG_ret' hR hF;u_leave1 H.f_uLoad hR hF;u_op hR hF;u_c stepG_region_end hR hF;u_c stepG_seq hR hF;u_reg hR hF;u_op hR hF;u_op hR hF;u_op hR hF;u_op hR hF;u_c stepG_region_end hR hF;u_c stepG_seq hR hF;u_reg hR hF;u_op hR hF;u_op hR hF;u_op hR hF;u_op hR hF;u_c stepG_region_end hR hF;u_c stepG_seq hR hF;u_c stepG_seq hR hF;u_reg hR hF;u_op hR hF;u_op hR hF;u_c stepG_region_end hR hF;u_cond true hR hF;u_c stepG_seq hR hF;u_cond true hR hF;u_c stepG_seq hR hF;u_reg hR hF
   refine Goes.stop (fun w5 h5=>?_);replace hF:=hR hF h5;clear h5;refine ⟨rfl,fun _=>⟨_,stepG_mark0 .enable (by simp) rfl rfl (by k_ne) rfl H.f_enable (x_enable_n L) (x_enable_b L) (x_enable_x L) (x_enable_f L),12, ?_⟩⟩;simp only [id];walk_nrm
   u_c stepG_region_end hR hF;u_reg hR hF;u_op hR hF;u_conv H.underlying_tWgP H.room_tWg (WgLive.cell0 hF.2).choose_spec hR hF
   refine Goes.stop (fun w6 h6=>?_);replace hF:=hR hF h6;clear h6;refine ⟨rfl,_,stepG_markAt .acquire (by simp) rfl rfl (by k_ne) rfl H.f_acquire (x_acquire_n L) (x_acquire_b L) (x_acquire_x L) (x_acquire_f L) (by simp [Act.eval,stA]),60,fun w hF=>?_⟩;walk_nrm
   u_c stepG_region_end hR hF;u_c stepG_seq hR hF;u_c stepG_seq hR hF;u_reg hR hF;u_op hR hF;u_op hR hF;u_op hR hF;u_op hR hF;u_op hR hF;u_op hR hF;u_op hR hF;u_op hR hF;u_skip hR hF;u_skip hR hF;u_op hR hF;u_c stepG_region_end hR hF;u_cond false hR hF;u_c stepG_skip hR hF;u_c stepG_ret' hR hF;u_leave0 H.f_wait hR hF
   exact Goes.stop fun _ _=>rfl
 obtain ⟨S,hS1⟩:∃ S:Int,(v:Int) * KK = S:=⟨_,rfl⟩;have a1:S / 4294967296 = (v:Int):=by rw [← hS1];simp only [KK];omega
 have b1:bits .and .u64 S 2147483648 = 0:=by rw [← hS1];have:=st_flag v 0 (by omega) (by omega);simpa [KK] using this
 have b2:bits .and .u64 S 2147483647 = 0:=by rw [← hS1];have:=st_waiters v 0 (by omega) (by omega);simpa [KK] using this
 have c1:IntKind.i32.wrap (v:Int) = (v:Int):=by rw [IntKind.wrap_i32];omega
 have w1':IntKind.u64.wrap (S + 1) = S + 1:=by rw [IntKind.wrap_u64,← hS1];simp only [KK];omega
 have q3:decide ((v:Int) < 0) = false:=decide_eq_false (by omega);have q4:decide (0 < (v:Int)) = true:=decide_eq_true (by omega);have q5:((v:Int) == 0) = false:=by simp;omega
 have q6:decide ((v:Int) = 0) = false:=decide_eq_false (by omega);rw [hS1] at hw;refine ⟨_,stepG_load_atomic (v:=S) rfl rfl (by k_ne) rfl H.f_loadU64 (x_loadU64_n L) (x_loadU64_b L) (x_loadU64_x L) .u64 (x_loadU64_f L) rfl hw.cellSt,fun h0=>absurd h0 (by omega),fun _=>⟨60, ?_⟩⟩;clear hw;walk_nrm
 u_op hR hF;u_c stepG_region_end hR hF;u_c stepG_ret' hR hF;u_leave1 H.f_uLoad hR hF;u_op hR hF;u_c stepG_region_end hR hF;u_c stepG_seq hR hF;u_reg hR hF;u_op hR hF;u_op hR hF;u_op hR hF;u_op hR hF;u_c stepG_region_end hR hF;u_c stepG_seq hR hF;u_reg hR hF;u_op hR hF;u_op hR hF;u_op hR hF;u_op hR hF;u_c stepG_region_end hR hF;u_c stepG_seq hR hF;u_c stepG_seq hR hF;u_reg hR hF;u_op hR hF;u_op hR hF;u_c stepG_region_end hR hF;u_cnd false hR hF;u_c stepG_skip hR hF;u_c stepG_seq hR hF;u_reg hR hF;u_op hR hF;u_op hR hF;u_op hR hF;u_op hR hF;u_op hR hF;u_op hR hF;u_call H.f_uCas (nm_uCas L) uCasFn hR hF;u_c stepG_seq hR hF;u_reg hR hF;u_op hR hF;u_c stepG_region_end hR hF;u_c stepG_seq hR hF;u_reg hR hF;u_op hR hF;u_op hR hF;u_op hR hF;u_op hR hF;u_op hR hF
 refine Goes.stop (fun w2 h2=>?_);replace hF:=hR hF h2;clear h2;refine ⟨rfl,fun v' hv' hw=>⟨fun e=>?_,fun e=>?_⟩⟩
 . subst e;rw [hS1] at hw ⊢;refine ⟨_,(stepG_cas_hit (v:=S) (n:=S + 1) rfl rfl (by k_ne) rfl H.f_casU64 (x_casU64_n L) (x_casU64_b L) (x_casU64_x L) .u64 (x_casU64_f L) rfl rfl rfl hw.cellSt (hw.thaw 0)).trans (by rfl),70, ?_⟩;replace hF:F (w2.setCell (stA Wg) (.int .u64 (S + 1)))∧WgLive L.tWg Wg (w2.setCell (stA Wg) (.int .u64 (S + 1))):=⟨hS _ _ hF.1,⟨_,_,hw.setSt _⟩⟩;clear hw;walk_nrm
   u_op hR hF;u_c stepG_region_end hR hF;u_c stepG_ret' hR hF;u_leave1 H.f_uCas hR hF;u_c stepG_region_end hR hF;u_cond true hR hF;u_c stepG_seq hR hF;u_c stepG_seq hR hF;u_reg hR hF;u_op hR hF;u_op hR hF;u_op hR hF;u_op hR hF;u_c stepG_region_end hR hF;u_cond true hR hF;u_reg hR hF;u_op hR hF;u_op hR hF;u_op hR hF;u_conv H.underlying_tPU32 H.room_tU32 (WgLive.cell1 hF.2).choose_spec hR hF
   refine Goes.stop (fun w3 h3=>?_);replace hF:=hR hF h3;clear h3;refine ⟨rfl,fun _=>⟨_,stepG_markAt .write (by simp) rfl rfl (by k_ne) rfl H.f_raceWrite (x_raceWrite_n L) (x_raceWrite_b L) (x_raceWrite_x L) (x_raceWrite_f L) (ad:=⟨Wg,1,none⟩) (by simp [Act.eval]),50, ?_⟩⟩;simp only [id];walk_nrm
   u_c stepG_region_end hR hF;u_c stepG_seq hR hF;u_reg hR hF;u_op hR hF;u_c stepG_region_end hR hF;u_c stepG_seq hR hF;u_c stepG_seq hR hF;u_reg hR hF;u_op hR hF;u_op hR hF;u_op hR hF;u_op hR hF;u_skip hR hF;u_op hR hF;u_c stepG_region_end hR hF;u_cond false hR hF;u_c stepG_skip hR hF;u_c stepG_seq hR hF;u_reg hR hF;u_op hR hF;u_op hR hF;u_op hR hF;u_op hR hF
   refine Goes.stop (fun w3 h3=>?_);replace hF:=hR hF h3;clear h3;refine ⟨rfl,rfl,fun ⟨st,hw⟩=>stepG_semacquire_wait rfl rfl rfl H.f_semacquire (x_semacquire_n L) (x_semacquire_b L) (x_semacquire_x L) (x_semacquire_f L) (by simp [Act.eval,smA]) hw.cellSm,fun hf=>?_⟩;refine ⟨_,(stepG_semacquire (n:=1) rfl rfl (by k_ne) rfl H.f_semacquire (x_semacquire_n L) (x_semacquire_b L) (x_semacquire_x L) (x_semacquire_f L) (by simp [Act.eval,smA]) hf.cellSm (by k_ne) (hf.thaw 1)).trans (by rfl),30, ?_⟩;replace hF:F (w3.setCell (smA Wg) (.int .u32 0))∧WgLive L.tWg Wg (w3.setCell (smA Wg) (.int .u32 0)):=⟨hS' _ _ hF.1,⟨_,_,hf.setSm 0⟩⟩;clear hf;walk_nrm
   u_c stepG_region_end hR hF;u_c stepG_seq hR hF;u_reg hR hF;u_op hR hF;u_op hR hF;u_op hR hF;u_call H.f_uLoad (nm_uLoad L) uLoadFn hR hF;u_c stepG_seq hR hF;u_reg hR hF;u_op hR hF;u_c stepG_region_end hR hF;u_c stepG_seq hR hF;u_reg hR hF;u_op hR hF;u_op hR hF;u_op hR hF
   refine Goes.stop (fun w4 h4=>?_);replace hF:=hR hF h4;clear h4;refine ⟨rfl,fun hw=>⟨_,stepG_load_atomic (v:=0) rfl rfl (by k_ne) rfl H.f_loadU64 (x_loadU64_n L) (x_loadU64_b L) (x_loadU64_x L) .u64 (x_loadU64_f L) rfl hw.cellSt,30, ?_⟩⟩;clear hw;simp only [id];walk_nrm
   u_op hR hF;u_c stepG_region_end hR hF;u_c stepG_ret' hR hF;u_leave1 H.f_uLoad hR hF;u_op hR hF;u_op hR hF;u_c stepG_region_end hR hF;u_c stepG_seq hR hF;u_cond true hR hF;u_c stepG_seq hR hF;u_reg hR hF
   refine Goes.stop (fun w5 h5=>?_);replace hF:=hR hF h5;clear h5;refine ⟨rfl,fun _=>⟨_,stepG_mark0 .enable (by simp) rfl rfl (by k_ne) rfl H.f_enable (x_enable_n L) (x_enable_b L) (x_enable_x L) (x_enable_f L),12, ?_⟩⟩;simp only [id];walk_nrm
   u_c stepG_region_end hR hF;u_reg hR hF;u_op hR hF;u_conv H.underlying_tWgP H.room_tWg (WgLive.cell0 hF.2).choose_spec hR hF
   refine Goes.stop (fun w6 h6=>?_);replace hF:=hR hF h6;clear h6;refine ⟨rfl,_,stepG_markAt .acquire (by simp) rfl rfl (by k_ne) rfl H.f_acquire (x_acquire_n L) (x_acquire_b L) (x_acquire_x L) (x_acquire_f L) (by simp [Act.eval,stA]),60,fun w hF=>?_⟩;walk_nrm
   u_c stepG_region_end hR hF;u_c stepG_seq hR hF;u_c stepG_seq hR hF;u_reg hR hF;u_op hR hF;u_c stepG_region_end hR hF;u_cond false hR hF;u_c stepG_skip hR hF;u_c stepG_ret' hR hF;u_leave0 H.f_wait hR hF
   exact Goes.stop fun _ _=>rfl
 refine ⟨_,stepG_cas_miss (v:=(v':Int) * KK) (old:=S) (n:=S + 1) rfl rfl (by k_ne) rfl H.f_casU64 (x_casU64_n L) (x_casU64_b L) (x_casU64_x L) .u64 (x_casU64_f L) rfl rfl rfl hw.cellSt (hw.thaw 0) (by rw [← hS1];simp only [KK];omega),20, ?_⟩;clear hw;walk_nrm
 u_op hR hF;u_c stepG_region_end hR hF;u_c stepG_ret' hR hF;u_leave1 H.f_uCas hR hF;u_c stepG_region_end hR hF;u_cond false hR hF;u_c stepG_skip hR hF;u_c stepG_inBlock hR hF;u_c stepG_inLoop hR hF
 refine Goes.stop (fun w3 h3=>?_);replace hF:=hR hF h3;exact ⟨_,rfl,by simp,by simp,hF⟩

theorem zkm (H:WgLib P L) (hR:∀ {w w₁:World},(F w∧WgLive L.tWg Wg w)->R w w₁->(F w₁∧WgLive L.tWg Wg w₁)) (w:World) (hF:F w∧WgLive L.tWg Wg w) :
 Goes P true R DC0 (S1 P R (AnchWN L F Wg (b₀.at a₀ (.inRegion ops₀ (i₀ :: rest₀) :: k₀)) cs)) 3
  (G ((base L.wait).at ⟨#[.pointer (some ⟨Wg,0,none⟩),undef,undef,undef,undef,undef,undef,undef,undef,undef,undef,undef,undef,undef,undef,undef,undef,undef,undef,undef,undef,undef,undef,undef,undef,undef,undef,undef,undef,undef,undef,undef,undef,undef,undef,undef,undef,undef,undef,undef,undef,undef,undef,undef,undef,undef,undef,undef,undef,undef,undef,undef,undef,undef,undef,undef,undef,undef,undef,undef,undef,undef,undef,undef,undef,undef,undef,undef,undef,undef,undef,undef,undef,undef,undef,undef,undef,undef,undef,undef,undef,undef,undef,undef],[]⟩ [.code (body_wait L)]) (b₀.at a₀ (.inRegion ops₀ (i₀ :: rest₀) :: k₀) :: cs)) w:=by
 lib_facts
 simp only [body_wait,waitFn,Option.getD_some]
 u_c stepG_seq hR hF;u_cond true hR hF;u_reg hR hF
 refine Goes.stop (fun w1 h1=>?_);replace hF:=hR hF h1;clear h1;refine ⟨rfl,fun _=>⟨_,stepG_mark0 .disable (by simp) rfl rfl (by k_ne) rfl H.f_disable (x_disable_n L) (x_disable_b L) (x_disable_x L) (x_disable_f L),3, ?_⟩⟩;simp only [id];walk_nrm
 u_c stepG_region_end hR hF;u_c stepG_block hR hF;u_c stepG_loop hR hF
 exact Goes.stop (fun w2 h2=>⟨_,rfl,by simp,by simp,hR hF h2⟩)
end
section
open Go.Conc Go.ConcN Go.ConcR.Gen Go.ConcN.Gen Go.RowKit Go.Conc.Lib
open Go.ConcR (KK WgAt stA smA rd wr mk DC0)
structure Ph.FS (Φ:Ph) (H:List (Nat × Obj)) (w:World):Prop where
 old:Φ.Old w
 pay:Φ.Pay w
 n0:Φ.n0 ≤ w.heap.size
 held:∀ p ∈ H,w.heap[p.1]? = some p.2
 lo:∀ p ∈ H,Φ.n0 ≤ p.1
section
variable {Φ:Ph} {P:Program} {S:Nat->Prop} {H:List (Nat × Obj)} {w w₁:World}
theorem Ph.FS.rely {ty:TypeId} (ht:Φ.ty = ty) (hS:∀ p ∈ H,S p.1) (h:Φ.FS H w∧WgLive ty Φ.Wg w) (r:Φ.R S w w₁):Φ.FS H w₁∧WgLive ty Φ.Wg w₁:=by
 subst ht;obtain ⟨h,l⟩:=h;exact ⟨⟨r.old h.old,r.pay h.pay,r.n0 h.n0,fun p hp=>(r.own _ (hS p hp)).trans (h.held p hp),h.lo⟩,r.live l⟩
theorem Ph.FS.kb {ty:TypeId} (ht:Φ.ty = ty) (h:Φ.FS H w∧WgLive ty Φ.Wg w):Φ.KB H w:=by
 subst ht;exact ⟨h.1.old,h.1.pay,h.2,h.1.n0,h.1.held,h.1.lo⟩
theorem Ph.KB.fs {ty:TypeId} (ht:Φ.ty = ty) (h:Φ.KB H w):Φ.FS H w∧WgLive ty Φ.Wg w:=by
 subst ht;exact ⟨⟨h.old,h.pay,h.n0,h.held,h.lo⟩,h.live⟩
theorem Ph.FS.less (h:Φ.FS H w):Φ.FS [] w:=⟨h.old,h.pay,h.n0,by simp,by simp⟩
theorem Ph.FS.wg (kk:Φ.Ok) (h:Φ.FS H w) (j:Nat) (v:Value):Φ.FS H (w.setCell ⟨Φ.Wg,j,none⟩ v):=by
 have kC:=kk.hCW;have kW:=kk.hW;have st:∀ b,b ≠ Φ.Wg->(w.setCell ⟨Φ.Wg,j,none⟩ v).heap[b]? = w.heap[b]?:=fun b hb=>Below.heap_setCell w ⟨Φ.Wg,j,none⟩ v b hb;exact ⟨fun b hb h1 h2=>(st b h2).trans (h.old b hb h1 h2),let ⟨c,h1,h2⟩:=h.pay;⟨c,(st _ kC).trans h1,h2⟩,by simpa [World.setCell] using h.n0,fun p hp=>(st _ (by have:=h.lo p hp;omega)).trans (h.held p hp),h.lo⟩

variable {main:Bool} {R:World->World->Prop} {ty:TypeId} {Wg:Nat} {K K':Goroutine->Prop} {An An':Goroutine->World->Prop} {g:Goroutine}
theorem Act1.mono {b:Bool} {pre:World->Prop} {f:World->World} {es:Array Event} {Nx Nx':Goroutine->World->Prop} (h:∀ g w,Nx g w->Nx' g w) (x:Act1 P b R pre f es Nx g w):Act1 P b R pre f es Nx' g w :=
 ⟨x.1,fun hp=>let ⟨g',e,m,hm⟩:=x.2 hp;⟨g',e,m,goes_mono h hm⟩⟩
theorem S9.mono (hK:∀ g,K g->K' g) (x:S9 P Wg K g w):S9 P Wg K' g w:=⟨x.1,let ⟨g',e,h⟩:=x.2;⟨g',e,hK _ h⟩⟩
theorem S8.mono (hK:∀ g,K g->K' g) (x:S8 P Wg R K g w):S8 P Wg R K' g w:=Act1.mono (fun _ _=>S9.mono hK) x
theorem S7.mono (hK:∀ g,K g->K' g) (x:S7 P ty Wg R K g w):S7 P ty Wg R K' g w:=Act1.mono (fun _ _=>S8.mono hK) x
theorem S6.mono (hK:∀ g,K g->K' g) (x:S6 P ty Wg R K g w):S6 P ty Wg R K' g w :=
 ⟨x.1,x.2.1,x.2.2.1,fun hw=>let ⟨g',e,m,h⟩:=x.2.2.2 hw;⟨g',e,m,goes_mono (fun _ _=>S7.mono hK) h⟩⟩
theorem S5.mono (hK:∀ g,K g->K' g) (x:S5 P ty Wg R K g w):S5 P ty Wg R K' g w:=Act1.mono (fun _ _=>S6.mono hK) x
theorem S4.mono (hK:∀ g,K g->K' g) (hA:∀ g w,An g w->An' g w) {vs:Nat} (x:S4 P ty Wg R K An vs g w):S4 P ty Wg R K' An' vs g w :=
 ⟨x.1,fun v hv hw=>⟨fun e=>let ⟨g',e1,m,h⟩:=(x.2 v hv hw).1 e;⟨g',e1,m,goes_mono (fun _ _=>S5.mono hK) h⟩,fun e=>let ⟨g',e1,m,h⟩:=(x.2 v hv hw).2 e;⟨g',e1,m,goes_mono hA h⟩⟩⟩
theorem S3.mono (hK:∀ g,K g->K' g) (hA:∀ g w,An g w->An' g w) (x:S3 P ty Wg R K An g w):S3 P ty Wg R K' An' g w :=
 ⟨x.1,fun v hv hw=>let ⟨g',e,h1,h2⟩:=x.2 v hv hw;⟨g',e,fun e1=>let ⟨m,h⟩:=h1 e1;⟨m,goes_mono (fun _ _=>S8.mono hK) h⟩,fun e1=>let ⟨m,h⟩:=h2 e1;⟨m,goes_mono (fun _ _=>S4.mono hK hA) h⟩⟩⟩
theorem S1.mono (hA:∀ g w,An g w->An' g w) (x:S1 P R An g w):S1 P R An' g w:=Act1.mono hA x
end
end
section
open Go.Conc Go.ConcN Go.ConcR.Gen Go.ConcN.Gen Go.RowKit Go.Conc.Lib
open Go.ConcR (KK WgAt stA smA rd wr mk DC0)
theorem zp1 (T:Array Value) (h:T.size = 19):∃ v0 v1 v2 v3 v4 v5 v6 v7 v8 v9 v10 v11 v12 v13 v14 v15 v16 v17 v18,T = #[v0,v1,v2,v3,v4,v5,v6,v7,v8,v9,v10,v11,v12,v13,v14,v15,v16,v17,v18]:=by
 obtain ⟨l⟩:=T;simp only [List.size_toArray] at h;rcases l with _ | ⟨v0,l⟩
 . simp at h
 rcases l with _ | ⟨v1,l⟩
 . simp at h
 rcases l with _ | ⟨v2,l⟩
 . simp at h
 rcases l with _ | ⟨v3,l⟩
 . simp at h
 rcases l with _ | ⟨v4,l⟩
 . simp at h
 rcases l with _ | ⟨v5,l⟩
 . simp at h
 rcases l with _ | ⟨v6,l⟩
 . simp at h
 rcases l with _ | ⟨v7,l⟩
 . simp at h
 rcases l with _ | ⟨v8,l⟩
 . simp at h
 rcases l with _ | ⟨v9,l⟩
 . simp at h
 rcases l with _ | ⟨v10,l⟩
 . simp at h
 rcases l with _ | ⟨v11,l⟩
 . simp at h
 rcases l with _ | ⟨v12,l⟩
 . simp at h
 rcases l with _ | ⟨v13,l⟩
 . simp at h
 rcases l with _ | ⟨v14,l⟩
 . simp at h
 rcases l with _ | ⟨v15,l⟩
 . simp at h
 rcases l with _ | ⟨v16,l⟩
 . simp at h
 rcases l with _ | ⟨v17,l⟩
 . simp at h
 rcases l with _ | ⟨v18,l⟩
 . simp at h
 obtain rfl:l = []:=List.eq_nil_of_length_eq_zero (by simpa using h);exact ⟨_,_,_,_,_,_,_,_,_,_,_,_,_,_,_,_,_,_,_,rfl⟩
noncomputable def weB:Code:=match Tryz.f30.body with | some (.seq _ (.seq _ (.seq _ (.seq (.seq _ (.block _ (.loop c))) _))))=>c | _=>.skip
noncomputable def weT:Code:=match Tryz.f30.body with | some (.seq _ (.seq _ (.seq _ (.seq _ c))))=>c | _=>.skip
noncomputable def weE:Code:=match weT with | .seq _ c=>c | _=>.skip
noncomputable def opsX:Array Oper:=match weT with | .seq (.region _ ops _) _=>ops | _=>#[]
theorem zp8:weT = .seq (.region 9 opsX false) weE:=by kernel_rfl
theorem ox0:opsX = #[{ dst:=some 17,op:=.call { callee:=.value (.func 57),args:=#[.tmp 4],argTypes:=#[113] },type:=0,pos := "l13_wear.go:33",after:=#[],guard:=none }]:=by kernel_rfl
section
variable {Φ:Ph} {F O n:Nat} {cs:List Frame}
def AnX (Φ:Ph) (O:Nat) (cs:List Frame) (g:Goroutine) (w:World):Prop:=∃ T:Array Value,T.size = 19∧T[3]? = some (.pointer (some ⟨O,0,none⟩))∧AnchWN link (Φ.FS []) Φ.Wg ((base 30).at ⟨T,[]⟩ (.inRegion opsX [0] :: [.code weE])) cs g w
def KX (Φ:Ph) (O:Nat) (cs:List Frame) (g:Goroutine):Prop:=∃ T:Array Value,T.size = 19∧T[3]? = some (.pointer (some ⟨O,0,none⟩))∧Back Tryz.prog link.tWg Φ.Wg (Φ.R xv) (Φ.FS []) (G ((base 30).at ⟨T,[]⟩ (.inRegion opsX [] :: [.code weE])) cs) g
theorem AnX.run {g:Goroutine} {w:World} (h:AnX Φ O cs g w):g.status = .running:=by
 obtain ⟨T,_,_,T',hg,_⟩:=h;rw [hg];rfl
theorem AnX.round (kk:Φ.Ok) (ht:Φ.ty = link.tWg) {g:Goroutine} {w:World} (h:AnX Φ O cs g w):∃ m,Goes Tryz.prog true (Φ.R xv) DC0 (S3 Tryz.prog Φ.ty Φ.Wg (Φ.R xv) (KX Φ O cs) (AnX Φ O cs)) m g w:=by
 obtain ⟨T,h1,h2,h⟩:=h;rw [ht];obtain ⟨m,hm⟩:=zkn zng (R:=Φ.R xv) (F:=Φ.FS []) (Wg:=Φ.Wg) (fun hF r=>Ph.FS.rely ht (by simp) hF r) (fun w v hF=>hF.wg kk _ _) (fun w v hF=>hF.wg kk _ _) g w h;refine ⟨m,goes_mono (fun g w=>S3.mono (fun g hg=>?_) (fun g w hg=>⟨T,h1,h2,hg⟩)) hm⟩;refine ⟨(Act.put ⟨T,[]⟩ (some 17) (.tuple #[])).tmps,by simp [Act.put,h1], ?_, ?_⟩
 . simp [Act.put,h2,Array.getElem?_setIfInBounds]
 have e:(opsX[0]?).bind (·.dst) = some 17:=by rw [ox0];rfl
 rw [e] at hg;exact hg
def zcy (Φ:Ph) (O:Nat) (cs:List Frame):Nat->Goroutine->World->Prop
 | 0=>S1 Tryz.prog (Φ.R xv) (AnX Φ O cs)
 | r + 1=>Φ.T7 Tryz.prog (Φ.nw - (r + 1)) (Φ.Spawn Tryz.prog (AnX Φ O cs) r)
theorem zcy.spawn {r m:Nat} {g:Goroutine} {w:World} (h:Goes Tryz.prog true (Φ.R xv) DC0 (zcy Φ O cs r) m g w):Φ.Spawn Tryz.prog (AnX Φ O cs) r g w:=by
 cases r with
 | zero=>exact ⟨m,h⟩
 | succ r=>exact ⟨m,h⟩
theorem zqb (kk:Φ.Ok) (ht:Φ.ty = link.tWg) (hnw:Φ.nw = n) (hn:n < 1000) (hw:∀ k,k < n->∀ I (S:Nat->Prop) w,S I->Φ.KB [(I, .cells #[.int .i64 (k:Int)] 3)] w->Φ.Loc Tryz.prog k 7 S 25 (born Tryz.prog (zf9 Φ.Wg F I O)) w) :
 ∀ r k : Nat, k + r = n -> ∀ (T : Array Value) (w : World), T.size = 19 -> T[1]? = some (.pointer (some ⟨F, 0, none⟩)) -> T[3]? = some (.pointer (some ⟨O, 0, none⟩)) -> T[4]? = some (.pointer (some ⟨Φ.Wg, 0, none⟩)) -> T[10]? = some (.int .i64 (n : Int)) -> T[11]? = some (.int .i64 (k : Int)) ->
   Φ.FS [] w∧WgLive link.tWg Φ.Wg w->Goes Tryz.prog true (Φ.R xv) DC0 (zcy Φ O cs r) 16 (G ((base 30).at ⟨T,[]⟩ [.code weB, .inLoop weB, .inBlock 0, .code weT]) cs) w:=by
 have hR:∀ {w w₁:World},(Φ.FS [] w∧WgLive link.tWg Φ.Wg w)->Φ.R xv w w₁->(Φ.FS [] w₁∧WgLive link.tWg Φ.Wg w₁):=fun hF r=>Ph.FS.rely ht (by simp) hF r;intro r
 induction r with
 | zero =>
   intro k hk T w hT t1 t3 t4 t10 t11 hF;obtain rfl:k = n:=by omega
   obtain ⟨v0,v1,v2,v3,v4,v5,v6,v7,v8,v9,v10,v11,v12,v13,v14,v15,v16,v17,v18,rfl⟩:=zp1 T hT;simp only [List.getElem?_toArray,List.getElem?_cons_succ,List.getElem?_cons_zero,Option.some.injEq] at t1 t3 t4 t10 t11;subst t1 t3 t4 t10 t11;simp only [weB,Tryz.f30];have hlt:¬ ((k:Int) < (k:Int)):=by omega
   u_c stepG_seq hR hF
   u_reg hR hF
   u_op hR hF
   u_c stepG_region_end hR hF
   u_c stepG_seq hR hF
   u_cond false hR hF
   u_exit hR hF
   rw [zp8,ox0]
   u_c stepG_seq hR hF
   u_reg hR hF
   u_in hR hF
   refine goes_call rfl rfl (by k_ne) rfl Tryz.func57 (nm_wait link) rfl ⟨by u_nil, ?_⟩
   walk_nrmf Tryz.f57
   have hA:=fun T=>@zkm link Tryz.prog Φ.Wg (Φ.R xv) (Φ.FS []) (base 30) ⟨T,[]⟩ opsX 0 [] [.code weE] cs zng hR _ hF;simp only [body_wait,waitFn,Option.getD_some,ox0] at hA;refine Goes.mono (goes_mono (fun g w=>S1.mono fun g w h=>?_) (hA _)) (by omega);rw [← ox0] at h;exact ⟨_,by simp,by simp,h⟩
 | succ r ih =>
   intro k hk T w hT t1 t3 t4 t10 t11 hF;obtain ⟨v0,v1,v2,v3,v4,v5,v6,v7,v8,v9,v10,v11,v12,v13,v14,v15,v16,v17,v18,rfl⟩:=zp1 T hT;simp only [List.getElem?_toArray,List.getElem?_cons_succ,List.getElem?_cons_zero,Option.some.injEq] at t1 t3 t4 t10 t11;subst t1 t3 t4 t10 t11;have ek:Φ.nw - (r + 1) = k:=by omega
   simp only [zcy,ek];simp only [weB,Tryz.f30];have hlt:(k:Int) < (n:Int):=by omega
   u_c stepG_seq hR hF
   u_reg hR hF
   u_op hR hF
   u_c stepG_region_end hR hF
   u_c stepG_seq hR hF
   u_cond true hR hF
   u_c stepG_skip hR hF
   u_c stepG_seq hR hF
   u_c stepG_block hR hF
   u_c stepG_seq hR hF
   u_reg hR hF
   u_op hR hF
   refine Goes.stop fun w₁ h₁=>?_;replace hF:=hR hF h₁;clear h₁;have hKB:=(Ph.FS.kb ht hF).push kk (.cells #[.int .i64 0] 3);have hsz:(w₁.heap.push (.cells #[.int .i64 0] 3)).size = w₁.heap.size + 1:=by simp
   refine ⟨rfl,_, .cells #[.int .i64 0] 3,(stepG_value (v:=.pointer (some ⟨w₁.heap.size,0,none⟩)) (w':={ w₁ with heap:=w₁.heap.push (.cells #[.int .i64 0] 3) }) rfl rfl (by k_ne) (by go_simp)).trans (by rw [listed_nil (by simp [go_sem, *])]),3, ?_⟩;walk_nrm;generalize hI:w₁.heap.size = I at *;clear hF;refine Goes.stop fun w₂ h₂=>?_;replace hKB:=hKB.rely (S:=fun b=>b = I) (by simp) h₂;clear h₂;have c0:w₂.cell? ⟨I,0,none⟩ = some (.int .i64 0):=(hKB.cell (b:=I) (cs:=#[.int .i64 0]) (t:=3) (by simp) 0).trans rfl;have z0:=hKB.thaw (b:=I) (cs:=#[.int .i64 0]) (t:=3) (by simp) 0;have hlo:=hKB.lo (I, .cells #[.int .i64 0] 3) (by simp);have hlt2:=hKB.lt (p:=(I, .cells #[.int .i64 0] 3)) (by simp);refine ⟨rfl,_,w₂.setCell ⟨I,0,none⟩ (.int .i64 (k:Int)),_,stepG_none rfl rfl (by k_ne) (by go_simp),⟨by simp [World.setCell],fun b hb=>by simp [Below.heap_setCell,hb],by simp [World.setCell],by simp [World.setCell],fun e he=>?_⟩,20, ?_⟩
   . have hm:=mem_listed he;simp [go_sem, *] at hm;subst hm;exact ⟨_,_,rfl,hlt2, .inl rfl⟩
   replace hKB:Φ.KB [(I, .cells #[.int .i64 (k:Int)] 3)] (w₂.setCell ⟨I,0,none⟩ (.int .i64 (k:Int))):=by simpa using hKB.set kk (j:=0) (v:=.int .i64 (k:Int)) (by simp)
   have hG:=hKB.fs ht;have hRI:∀ {w w₁:World},(Φ.FS [(I, .cells #[.int .i64 (k:Int)] 3)] w∧WgLive link.tWg Φ.Wg w)->Φ.R (fun b=>b = I) w w₁->(Φ.FS [(I, .cells #[.int .i64 (k:Int)] 3)] w₁∧WgLive link.tWg Φ.Wg w₁):=fun hF r=>Ph.FS.rely ht (by simp) hF r;clear c0 z0 hlt2 hKB;rw [ht];walk_nrm
   u_c stepG_region_end hRI hG
   u_c stepG_seq hRI hG
   u_reg hRI hG
   u_in hRI hG
   refine goes_call rfl rfl (by k_ne) rfl Tryz.func53 (nm_add link) rfl ⟨by u_nil, ?_⟩
   walk_nrmf Tryz.f53
   have hA:=@zq8 link Tryz.prog Φ.Wg (Φ.R fun b=>b = I) (Φ.FS [(I, .cells #[.int .i64 (k:Int)] 3)]);simp only [body_add,addFn,Option.getD_some] at hA;refine Goes.mono (n:=12) (hA (mT:=5) zng (fun hF r=>hRI hF r) (fun w v hF=>hF.wg kk _ _) (fun w hF hL=>?_) _ hG) (by omega);have hG:_∧_:=⟨hF,hL⟩;walk_nrm
   u_c stepG_region_end hRI hG
   u_reg hRI hG
   u_op hRI hG
   refine Goes.stop fun w₃ h₃=>?_;replace hG:=hRI hG h₃;clear h₃;have hsp:=fun (b:Frame) (a:Act) (k1:List Item) (cs:List Frame) (ops:Array Oper) (i:Nat) (rest:List Nat) (o:Oper) ho hw hk hr=>stepG_spawn (P:=Tryz.prog) (main:=true) (w:=w₃) (b:=b) (a:=a) (k:=k1) (cs:=cs) (ops:=ops) (i:=i) (rest:=rest) (o:=o) (d:=zf9 Φ.Wg F I O) (w':=w₃) (f:=.func 54) (c:=#[.pointer (some ⟨Φ.Wg,0,none⟩), .pointer (some ⟨F,0,none⟩), .pointer (some ⟨I,0,none⟩), .pointer (some ⟨O,0,none⟩)]) ho hw hk hr rfl;refine ⟨rfl,_,born Tryz.prog (zf9 Φ.Wg F I O),(hsp _ _ _ _ _ _ _ _ rfl rfl (by k_ne) ?_).trans (by rw [listed_nil (by simp [go_sem, *])]),⟨25,7,by omega,hw k (by omega) I _ w₃ rfl (Ph.FS.kb ht hG)⟩, ?_⟩
   . simp [go_sem,zf9,Deferred.ofValue]
   have hF':Φ.FS [] w₃∧WgLive link.tWg Φ.Wg w₃:=⟨hG.1.less,hG.2⟩;walk_nrm;refine zcy.spawn (m:=24) ?_;have hi64:IntKind.i64.wrap ((k:Int) + 1) = ((k + 1:Nat):Int):=by rw [IntKind.wrap_i64];omega
   u_c stepG_region_end hR hF'
   u_c stepG_inBlock hR hF'
   u_reg hR hF'
   u_op hR hF'
   u_op hR hF'
   u_c stepG_region_end hR hF'
   u_c stepG_inLoop hR hF'
   have ih2:=fun T=>ih (k + 1) (by omega) T;simp only [weB,Tryz.f30] at ih2;refine Goes.mono (ih2 _ _ ?_ ?_ ?_ ?_ ?_ ?_ hF') (by omega) <;> rfl
end
end
section
open Go.Conc Go.ConcN Go.ConcR.Gen Go.RowKit
open Go.ConcR (DC0)
section
variable {P:Program} {Post:Value->World->Prop} {SB:Nat->Prop} {B B':Nat} {g g':Goroutine} {w:World}
theorem k9.mono (h:k9 P Post SB B' g w) (hB:B ≤ B'):k9 P Post SB B g w:=fun T d gs sl t q Shun hS h0 hL hP=>h T d gs sl t q Shun hS h0 hL (hP.mono hB)
theorem k9.tp (h:k9 P Post SB B g w) (T:Nat->Question->Nat) (d:Nat):k9 P Post SB B g (tp0 w T d):=fun T' d'=>h T' d'
theorem k9.less {SB':Nat->Prop} (h:k9 P Post SB' B g w) (hs:∀ b,SB b->SB' b):k9 P Post SB B g w:=fun T d gs sl t q Shun hS h0 hL hP=>h T d gs sl t q Shun (fun l hl=>let ⟨a,e,hb⟩:=hS l hl;⟨a,e,hs _ hb⟩) h0 hL hP
theorem jz (hr:g.status = .running) (h:∀ w,stepG P true g w = .go g' w #[]) (next:k9 P Post SB B g' w):k9 P Post SB B g w :=
 k9.step hr fun T d=>⟨g',tp0 w T d,#[],B,h _,Nat.le_refl _,by simp,next.tp T d⟩
theorem k9.goes {R:World->World->Prop} {gE:Goroutine} (hR:∀ w T d,R w (tp0 w T d)):∀ (m:Nat) (g:Goroutine) (w:World),Goes P true R DC0 (fun g _=>g = gE) m g w->k9 P Post SB B gE w->k9 P Post SB B g w
 | 0, g, w, h, next => by
   have:g = gE:=h w (hR w w.tape w.drawn)
   rwa [this]
 | m + 1, g, w, h, next => by
   rcases h with h | ⟨hr,h⟩
   . have:g = gE:=h w (hR w w.tape w.drawn)
     rwa [this]
   refine k9.step hr fun T d=>?_;obtain ⟨g',w',es,e,⟨h1,h2⟩,hm⟩:=goes_elim (h _ (hR w T d));subst h1 h2;exact ⟨g',_,_,B,e,Nat.le_refl _,by simp,k9.goes hR m g' _ hm (next.tp T d)⟩

structure PH (w0:World) (H:List (Nat × Obj)) (w:World):Prop where
 size:w.heap.size = w0.heap.size + H.length
 old:∀ b,b < w0.heap.size->w.heap[b]? = w0.heap[b]?
 held:∀ p ∈ H,w.heap[p.1]? = some p.2
 lo:∀ p ∈ H,w0.heap.size ≤ p.1
 os:w.os = w0.os
 output:w.output = w0.output
variable {w0:World} {H:List (Nat × Obj)}
theorem PH.refl (w:World):PH w [] w:=⟨rfl,fun _ _=>rfl,by simp,by simp,rfl,rfl⟩
theorem PH.tp (h:PH w0 H w) (T:Nat->Question->Nat) (d:Nat):PH w0 H (tp0 w T d):=⟨h.size,h.old,h.held,h.lo,h.os,h.output⟩
theorem PH.lt (h:PH w0 H w) {p:Nat × Obj} (hp:p ∈ H):p.1 < w.heap.size:=by
 have:=h.held p hp;rcases Nat.lt_or_ge p.1 w.heap.size with hlt | hge
 . exact hlt
 rw [Array.getElem?_eq_none hge] at this;cases this
theorem PH.push (h:PH w0 H w) (o:Obj):PH w0 ((w0.heap.size + H.length,o) :: H) { w with heap:=w.heap.push o }:=by
 have hs:=h.size;have old:∀ b,b < w.heap.size->(w.heap.push o)[b]? = w.heap[b]?:=fun b hb=>by rw [Array.getElem?_push_lt hb,← Array.getElem?_eq_getElem]
 refine ⟨by simp [hs];omega,fun b hb=>(old b (by omega)).trans (h.old b hb),fun p hp=>?_,fun p hp=>?_,h.os,h.output⟩
 . rcases List.mem_cons.1 hp with rfl | hp
   . show (w.heap.push o)[w0.heap.size + H.length]? = _;rw [← hs];simp
   exact (old _ (h.lt hp)).trans (h.held p hp)
 rcases List.mem_cons.1 hp with rfl | hp
 . show w0.heap.size ≤ w0.heap.size + H.length;omega
 exact h.lo p hp
theorem PH.cell (h:PH w0 H w) {b:Nat} {cs:Array Value} {t:TypeId} (hp:(b,Obj.cells cs t) ∈ H) (j:Nat):w.cell? ⟨b,j,none⟩ = cs[j]?:=by
 have:=h.held _ hp;simp [World.cell?,this]
theorem PH.thaw (h:PH w0 H w) {b:Nat} {cs:Array Value} {t:TypeId} (hp:(b,Obj.cells cs t) ∈ H) (j:Nat):w.frozen? ⟨b,j,none⟩ = false:=by
 have:=h.held _ hp;simp [World.frozen?,this]
theorem PH.set {u j:Nat} {cs:Array Value} {t:TypeId} {v:Value} (h:PH w0 ((u, .cells cs t) :: H) w) (hne:∀ p ∈ H,p.1 ≠ u):PH w0 ((u, .cells (cs.setIfInBounds j v) t) :: H) (w.setCell ⟨u,j,none⟩ v):=by
 have hu:w0.heap.size ≤ u:=h.lo _ (List.mem_cons_self ..);have st:∀ b,b ≠ u->(w.setCell ⟨u,j,none⟩ v).heap[b]? = w.heap[b]?:=fun b hb=>Below.heap_setCell w ⟨u,j,none⟩ v b hb;refine ⟨by have:=h.size;simpa [World.setCell] using this,fun b hb=>(st b (by omega)).trans (h.old b hb),fun p hp=>?_,fun p hp=>?_,h.os,h.output⟩
 . rcases List.mem_cons.1 hp with rfl | hp
   . exact yk (h.held _ (List.mem_cons_self ..))
   exact (st _ (hne p hp)).trans (h.held p (List.mem_cons_of_mem _ hp))
 rcases List.mem_cons.1 hp with rfl | hp
 . exact hu
 exact h.lo p (List.mem_cons_of_mem _ hp)

variable {b:Frame} {a:Act} {k:List Item} {cs:List Frame} {ops:Array Oper} {j:Nat} {rest:List Nat} {o:Oper} {v:Value}
theorem Y6 (hF:PH w0 H w) (ho:ops[j]? = some o) (hw:Region.wanted o (yielded ops a.tmps) = true) (hk:b.kind ≠ .early)
 (hrun:∀ w,PH w0 H w->(execOp a.eval o).run P w = .ok (.value v) w∧∀ e ∈ listed P b.fn a o w,EvF SB B e)
 (next:k9 P Post SB B (G (b.at (a.put o.dst v) (.inRegion ops rest :: k)) cs) w):k9 P Post SB B (G (b.at a (.inRegion ops (j :: rest) :: k)) cs) w :=
 k9.step rfl fun T d=>⟨_,tp0 w T d,_,B,stepG_value ho hw hk (hrun _ (hF.tp T d)).1,Nat.le_refl _,(hrun _ (hF.tp T d)).2,next.tp T d⟩
theorem zim (hF:PH w0 H w) (ho:ops[j]? = some o) (hw:Region.wanted o (yielded ops a.tmps) = true) (hk:b.kind ≠ .early) (ob:Obj)
 (hrun:∀ w,PH w0 H w->w.heap.size = w0.heap.size + H.length->(execOp a.eval o).run P w = .ok (.value v) { w with heap:=w.heap.push ob }∧listed P b.fn a o w = #[])
 (next:∀ w,PH w0 ((w0.heap.size + H.length,ob) :: H) w->k9 P Post SB B (G (b.at (a.put o.dst v) (.inRegion ops rest :: k)) cs) w):k9 P Post SB B (G (b.at a (.inRegion ops (j :: rest) :: k)) cs) w :=
 k9.step rfl fun T d=>by
  have hF':=hF.tp T d;obtain ⟨h1,h2⟩:=hrun _ hF' hF'.size;exact ⟨_,_,#[],B,(stepG_value ho hw hk h1).trans (by rw [h2]),Nat.le_refl _,by simp,next _ (hF'.push ob)⟩
theorem zqu {H':List (Nat × Obj)} (hF:PH w0 H w) (ho:ops[j]? = some o) (hw:Region.wanted o (yielded ops a.tmps) = true) (hk:b.kind ≠ .early) (f:World->World)
 (hrun:∀ w,PH w0 H w->(execOp a.eval o).run P w = .ok .skip (f w)∧(∀ e ∈ listed P b.fn a o w,EvF SB B e)∧PH w0 H' (f w))
 (next:∀ w,PH w0 H' w->k9 P Post SB B (G (b.at (a.put o.dst undef) (.inRegion ops rest :: k)) cs) w):k9 P Post SB B (G (b.at a (.inRegion ops (j :: rest) :: k)) cs) w :=
 k9.step rfl fun T d=>by
  obtain ⟨h1,h2,h3⟩:=hrun _ (hF.tp T d);exact ⟨_,_,_,B,stepG_none ho hw hk h1,Nat.le_refl _,h2,next _ h3⟩
theorem zin {c:Frame} {todo:List Item} {fn:Func} (hn:b.kind = .normal) (hd:a.defers = []) (hf:P.funcs[b.fn]? = some fn)
 (hrun:∀ w,(results fn a.tmps).run P w = .ok v w∧seen P b.fn ((results fn a.tmps).events P w #[]) = #[])
 (next:k9 P Post SB B (G (c.finish v) cs) w):k9 P Post SB B (G { b.at a todo with mode:=.returning } (c :: cs)) w :=
 jz rfl (fun w₁=>by
  obtain ⟨h1,h2⟩:=hrun w₁;have hst:stepG P true (G { b.at a todo with mode:=.returning } (c :: cs)) w₁ = .go (G (c.finish v) cs) w₁ (seen P b.fn ((results fn a.tmps).events P w₁ #[])):=by
   simp [G,stepG,unwind,doReturn,Frame.at,hn,hd,hf,Sem.runT_eq,h1,GStep.after]
  rw [hst,h2]) next
end
end
section
open Go.Conc Go.ConcN Go.ConcR.Gen Go.RowKit Go.Conc.Lib
open Go.ConcR (KK WgAt DC0)
def Xo (f:List Bk):List Value:=f.flatMap fun b=>[.int .i64 b.worn, .int .i64 (tornN b.pages:Int)]
def wres (f:List Bk) (k:Nat):List (Nat × Value):=match f[k]? with
 | some b=>[(k * 2, .int .i64 b.worn),(k * 2 + 1, .int .i64 (tornN b.pages:Int))]
 | none=>[]
theorem zeg {f:List Bk} {k:Nat} {b:Bk} (h:f[k]? = some b):wres f k = [(k * 2, .int .i64 b.worn),(k * 2 + 1, .int .i64 (tornN b.pages:Int))]:=by simp [wres,h]
theorem zhz {f:List Bk} {k off:Nat} {v:Value} (h:(off,v) ∈ wres f k):off / 2 = k:=by
 unfold wres at h;split at h
 . simp at h;omega
 simp at h
theorem zjs (w:World):(Instr.makeSlice 55 (.int .i64 4) (.int .i64 4)).run Tryz.prog w = .ok (.slice (some ⟨w.heap.size,0,none⟩) 4 4) (w.alloc (.cells #[.int .i64 0, .int .i64 0, .int .i64 0, .int .i64 0, .int .i64 0, .int .i64 0, .int .i64 0, .int .i64 0] 58)):=by kernel_rfl
theorem zhd (w:World):(Instr.makeSlice 55 (.int .i64 4) (.int .i64 4)).events Tryz.prog w #[] = #[]:=by kernel_rfl
section
variable {Post:Value->World->Prop} {SB:Nat->Prop} {w0:World} {A ao c:Nat} {f:List Bk} {hs:List (Option Addr × Nat)} {cc:Frame} {cs:List Frame}
theorem we0 (hSB:∀ b,SB b->b < w0.heap.size)
 (next:∀ w T,PH w0 [(w0.heap.size + 3, .cells #[.int .u64 0, .int .u32 0] 113),(w0.heap.size + 2, .cells #[.slice (some ⟨w0.heap.size + 1,0,none⟩) 4 4] 55),(w0.heap.size + 1, .cells #[.int .i64 0, .int .i64 0, .int .i64 0, .int .i64 0, .int .i64 0, .int .i64 0, .int .i64 0, .int .i64 0] 58),(w0.heap.size, .cells #[.slice (some ⟨A,ao,none⟩) 4 c] 25)] w->T.size = 19->T[1]? = some (.pointer (some ⟨w0.heap.size,0,none⟩))->T[3]? = some (.pointer (some ⟨w0.heap.size + 2,0,none⟩))->T[4]? = some (.pointer (some ⟨w0.heap.size + 3,0,none⟩))->T[10]? = some (.int .i64 4)->T[11]? = some (.int .i64 0) ->
  k9 Tryz.prog Post SB (w0.heap.size + 3) (G ((base 30).at ⟨T,[]⟩ [.code weB, .inLoop weB, .inBlock 0, .code weT]) (cc :: cs)) w) :
 Fine Tryz.prog Post SB (G (Frame.enter Tryz.prog 30 #[.slice (some ⟨A,ao,none⟩) 4 c] .normal) (cc :: cs)) w0:=by
 unfold Fine;refine k9.mono (B':=w0.heap.size + 3) ?_ (by omega);have hF:=PH.refl w0;rw [enter_at _ Tryz.func30 rfl]
 walk_nrmf Tryz.f30
 refine jz rfl (fun w=>stepG_seq) ?_;refine jz rfl (fun w=>stepG_region) ?_;simp only [sz,Nat.reduceAdd,Nat.zero_add,List.range,List.range.loop];refine zim (v:=.pointer (some ⟨w0.heap.size,0,none⟩)) hF rfl rfl (by k_ne) (.cells #[.slice (some ⟨A,ao,none⟩) 4 c] 25) (fun w hw hz=>⟨by simp only [List.length_cons,List.length_nil,Nat.reduceAdd,Nat.add_zero,Nat.zero_add] at hz;rw [← hz];go_simp,listed_nil (by simp [go_sem, *])⟩) (fun w hF=>?_);replace hF:PH w0 [(w0.heap.size, .cells #[.slice (some ⟨A,ao,none⟩) 4 c] 25)] w:=hF;walk_nrm;refine Y6 hF rfl rfl (by k_ne) (fun w hw=>⟨run_eq_of (fun K hK=>by go_simp;exact hK),by rw [listed_nil (by simp [go_sem, *])];simp⟩) ?_;walk_nrm;refine jz rfl (fun w=>stepG_region_end) ?_;refine jz rfl (fun w=>stepG_seq) ?_;refine jz rfl (fun w=>stepG_region) ?_;simp only [sz,Nat.reduceAdd,Nat.zero_add,List.range,List.range.loop];refine Y6 hF rfl rfl (by k_ne) (fun w hw=>⟨run_eq_of (fun K hK=>by have h0:w.cell? ⟨w0.heap.size,0,none⟩ = some (.slice (some ⟨A,ao,none⟩) 4 c):=(hw.cell (b:=w0.heap.size) (cs:=#[.slice (some ⟨A,ao,none⟩) 4 c]) (t:=25) (by simp) 0).trans rfl;go_simp;exact hK),by have h0:w.cell? ⟨w0.heap.size,0,none⟩ = some (.slice (some ⟨A,ao,none⟩) 4 c):=(hw.cell (b:=w0.heap.size) (cs:=#[.slice (some ⟨A,ao,none⟩) 4 c]) (t:=25) (by simp) 0).trans rfl;intro e he;have hm:=mem_listed he;simp [go_sem, *] at hm;subst hm;exact ⟨fun hs=>by have h:=hSB _ hs;dsimp only at h;omega,by dsimp only;omega⟩⟩) ?_;walk_nrm;refine Y6 hF rfl rfl (by k_ne) (fun w hw=>⟨run_eq_of (fun K hK=>by go_simp;exact hK),by rw [listed_nil (by simp [go_sem, *])];simp⟩) ?_;walk_nrm;refine zim (v:=.slice (some ⟨w0.heap.size + 1,0,none⟩) 4 4) hF rfl rfl (by k_ne) (.cells #[.int .i64 0, .int .i64 0, .int .i64 0, .int .i64 0, .int .i64 0, .int .i64 0, .int .i64 0, .int .i64 0] 58) (fun w hw hz=>⟨by simp only [List.length_cons,List.length_nil,Nat.reduceAdd,Nat.add_zero,Nat.zero_add] at hz;rw [← hz];have mk:=zjs w;go_simp,listed_nil (by have mk:=zhd w;simp [go_sem, *])⟩) (fun w hF=>?_);replace hF:PH w0 [(w0.heap.size + 1, .cells #[.int .i64 0, .int .i64 0, .int .i64 0, .int .i64 0, .int .i64 0, .int .i64 0, .int .i64 0, .int .i64 0] 58),(w0.heap.size, .cells #[.slice (some ⟨A,ao,none⟩) 4 c] 25)] w:=hF;walk_nrm;refine zim (v:=.pointer (some ⟨w0.heap.size + 2,0,none⟩)) hF rfl rfl (by k_ne) (.cells #[.slice none 0 0] 55) (fun w hw hz=>⟨by simp only [List.length_cons,List.length_nil,Nat.reduceAdd,Nat.add_zero,Nat.zero_add] at hz;rw [← hz];go_simp,listed_nil (by simp [go_sem, *])⟩) (fun w hF=>?_);replace hF:PH w0 [(w0.heap.size + 2, .cells #[.slice none 0 0] 55),(w0.heap.size + 1, .cells #[.int .i64 0, .int .i64 0, .int .i64 0, .int .i64 0, .int .i64 0, .int .i64 0, .int .i64 0, .int .i64 0] 58),(w0.heap.size, .cells #[.slice (some ⟨A,ao,none⟩) 4 c] 25)] w:=hF;walk_nrm;refine zqu hF rfl rfl (by k_ne) (fun w=>w.setCell ⟨w0.heap.size + 2,0,none⟩ (.slice (some ⟨w0.heap.size + 1,0,none⟩) 4 4)) (fun w hw=>⟨by have h0:w.cell? ⟨w0.heap.size + 2,0,none⟩ = some (.slice none 0 0):=(hw.cell (b:=w0.heap.size + 2) (cs:=#[.slice none 0 0]) (t:=55) (by simp) 0).trans rfl;have z0:=hw.thaw (b:=w0.heap.size + 2) (cs:=#[.slice none 0 0]) (t:=55) (by simp) 0;go_simp,by have h0:w.cell? ⟨w0.heap.size + 2,0,none⟩ = some (.slice none 0 0):=(hw.cell (b:=w0.heap.size + 2) (cs:=#[.slice none 0 0]) (t:=55) (by simp) 0).trans rfl;have z0:=hw.thaw (b:=w0.heap.size + 2) (cs:=#[.slice none 0 0]) (t:=55) (by simp) 0;intro e he;have hm:=mem_listed he;simp [go_sem, *] at hm;subst hm;exact ⟨fun hs=>by have h:=hSB _ hs;dsimp only at h;omega,by dsimp only;omega⟩,hw.set (j:=0) (v:=.slice (some ⟨w0.heap.size + 1,0,none⟩) 4 4) (by simp)⟩) (fun w hF=>?_);replace hF:PH w0 [(w0.heap.size + 2, .cells #[.slice (some ⟨w0.heap.size + 1,0,none⟩) 4 4] 55),(w0.heap.size + 1, .cells #[.int .i64 0, .int .i64 0, .int .i64 0, .int .i64 0, .int .i64 0, .int .i64 0, .int .i64 0, .int .i64 0] 58),(w0.heap.size, .cells #[.slice (some ⟨A,ao,none⟩) 4 c] 25)] w:=by simpa using hF
 walk_nrm;refine jz rfl (fun w=>stepG_region_end) ?_;refine jz rfl (fun w=>stepG_seq) ?_;refine jz rfl (fun w=>stepG_region) ?_;simp only [sz,Nat.reduceAdd,Nat.zero_add,List.range,List.range.loop];refine zim (v:=.pointer (some ⟨w0.heap.size + 3,0,none⟩)) hF rfl rfl (by k_ne) (.cells #[.int .u64 0, .int .u32 0] 113) (fun w hw hz=>⟨by simp only [List.length_cons,List.length_nil,Nat.reduceAdd,Nat.add_zero,Nat.zero_add] at hz;rw [← hz];go_simp,listed_nil (by simp [go_sem, *])⟩) (fun w hF=>?_);replace hF:PH w0 [(w0.heap.size + 3, .cells #[.int .u64 0, .int .u32 0] 113),(w0.heap.size + 2, .cells #[.slice (some ⟨w0.heap.size + 1,0,none⟩) 4 4] 55),(w0.heap.size + 1, .cells #[.int .i64 0, .int .i64 0, .int .i64 0, .int .i64 0, .int .i64 0, .int .i64 0, .int .i64 0, .int .i64 0] 58),(w0.heap.size, .cells #[.slice (some ⟨A,ao,none⟩) 4 c] 25)] w:=hF;walk_nrm;refine jz rfl (fun w=>stepG_region_end) ?_;refine jz rfl (fun w=>stepG_seq) ?_;refine jz rfl (fun w=>stepG_seq) ?_;refine jz rfl (fun w=>stepG_region) ?_;simp only [sz,Nat.reduceAdd,Nat.zero_add,List.range,List.range.loop];refine Y6 hF rfl rfl (by k_ne) (fun w hw=>⟨run_eq_of (fun K hK=>by have h0:w.cell? ⟨w0.heap.size,0,none⟩ = some (.slice (some ⟨A,ao,none⟩) 4 c):=(hw.cell (b:=w0.heap.size) (cs:=#[.slice (some ⟨A,ao,none⟩) 4 c]) (t:=25) (by simp) 0).trans rfl;go_simp;exact hK),by have h0:w.cell? ⟨w0.heap.size,0,none⟩ = some (.slice (some ⟨A,ao,none⟩) 4 c):=(hw.cell (b:=w0.heap.size) (cs:=#[.slice (some ⟨A,ao,none⟩) 4 c]) (t:=25) (by simp) 0).trans rfl;intro e he;have hm:=mem_listed he;simp [go_sem, *] at hm;subst hm;exact ⟨fun hs=>by have h:=hSB _ hs;dsimp only at h;omega,by dsimp only;omega⟩⟩) ?_;walk_nrm;refine Y6 hF rfl rfl (by k_ne) (fun w hw=>⟨run_eq_of (fun K hK=>by go_simp;exact hK),by rw [listed_nil (by simp [go_sem, *])];simp⟩) ?_;walk_nrm;refine Y6 hF rfl rfl (by k_ne) (fun w hw=>⟨run_eq_of (fun K hK=>by go_simp;exact hK),by rw [listed_nil (by simp [go_sem, *])];simp⟩) ?_;walk_nrm;refine jz rfl (fun w=>stepG_region_end) ?_;refine jz rfl (fun w=>stepG_block) ?_;refine jz rfl (fun w=>stepG_loop) ?_;have hh:=fun T=>next w T hF;simp only [weB,weT,Tryz.f30] at hh;exact hh _ rfl rfl rfl rfl rfl rfl
end
end
end Go.Proofs.YtclnogfmmekooaaGreat
