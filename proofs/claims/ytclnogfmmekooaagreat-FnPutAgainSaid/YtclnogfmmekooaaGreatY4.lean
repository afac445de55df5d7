/- What the laws' walks share: words, plain laws, and the walks of functions, part 4. -/
import Derived.Test.YtclnogfmmekooaaGreatProg
import Derived.KernelRfl
import Derived.Orders
import Derived.Lib.Hide
import Derived.Laws.MakeOwn
import Derived.BigQuiet
import Derived.Laws.Bits64
import Derived.Deep.Slices
import Derived.Deep.RegionHeld3
import Derived.StillTailTactics
import Derived.Deep.RegionLaw
import Derived.Deep.RegionWith
import Derived.WalkKit
import Derived.Deep.AppendLies
import Derived.Test.YtclnogfmmekooaaGreatY3
set_option linter.unusedVariables false
set_option linter.unusedSimpArgs false
set_option maxHeartbeats 16000000
set_option maxRecDepth 100000
namespace Go.Proofs.YtclnogfmmekooaaGreat
section
open Go.Conc Go.ConcN Go.ConcR.Gen Go.RowKit Go.Conc.Lib
open Go.ConcR (KK WgAt DC0)
theorem zp9:weE = .seq (.region 10 #[{ dst:=some 18,op:=.load 55 (.tmp 3),type:=55,pos := "l13_wear.go:34",after:=#[],guard:=none },{ dst:=some 2,op:=.assign (.tmp 18),type:=55,pos := "l13_wear.go:34",after:=#[{ on:=0,ground:=.data },{ on:=0,ground:=.phase }],guard:=none }] false) .ret:=by kernel_rfl
section
variable {Post:Value->World->Prop} {SB:Nat->Prop} {w0:World} {A ao c:Nat} {f:List Bk} {hs:List (Option Addr × Nat)} {cc:Frame} {cs:List Frame}
theorem we1 {w:World} {s C:Nat} {T:Array Value} (hT:T.size = 19) (t3:T[3]? = some (.pointer (some ⟨s,0,none⟩))) (hs:s < w.heap.size) (hn:¬ SB s) (hc:w.cell? ⟨s,0,none⟩ = some (.slice (some ⟨C,0,none⟩) 4 4))
 (next:Fine Tryz.prog Post SB (G (cc.finish (.slice (some ⟨C,0,none⟩) 4 4)) cs) w):Fine Tryz.prog Post SB (G ((base 30).at ⟨T,[]⟩ (.inRegion opsX [] :: [.code weE])) (cc :: cs)) w:=by
 unfold Fine;have hF:=PH.refl w;refine jz rfl (fun w=>stepG_region_end) ?_;rw [zp9];refine jz rfl (fun w=>stepG_seq) ?_;refine jz rfl (fun w=>stepG_region) ?_;simp only [sz,Nat.reduceAdd,Nat.zero_add,List.range,List.range.loop];obtain ⟨v0,v1,v2,v3,v4,v5,v6,v7,v8,v9,v10,v11,v12,v13,v14,v15,v16,v17,v18,rfl⟩:=zp1 T hT;simp only [List.getElem?_toArray,List.getElem?_cons_succ,List.getElem?_cons_zero,Option.some.injEq] at t3;subst t3;have hc':∀ w',PH w [] w'->w'.cell? ⟨s,0,none⟩ = some (.slice (some ⟨C,0,none⟩) 4 4):=fun w' hw=>(World.cell?_of_block (a:=⟨s,0,none⟩) (hw.old s hs)).trans hc;refine Y6 hF rfl rfl (by k_ne) (fun w' hw=>⟨run_eq_of (fun K hK=>by have h0:=hc' w' hw;go_simp;exact hK),by have h0:=hc' w' hw;intro e he;have hm:=mem_listed he;simp [go_sem, *] at hm;subst hm;exact ⟨hn,hs⟩⟩) ?_;walk_nrm;refine Y6 hF rfl rfl (by k_ne) (fun w hw=>⟨run_eq_of (fun K hK=>by go_simp;exact hK),by rw [listed_nil (by simp [go_sem, *])];simp⟩) ?_;walk_nrm;refine jz rfl (fun w=>stepG_region_end) ?_;refine jz rfl (fun w=>stepG_ret') ?_;refine zin rfl rfl Tryz.func30 (fun w=>⟨?_, ?_⟩) next
 . simp [results,Tryz.f30,go_sem]
 rw [show (results Tryz.f30 _).events Tryz.prog w #[] = #[] by simp [results,Tryz.f30,go_sem]];rfl
theorem Fine.wearEach (hf:Bks w0 (some ⟨A,ao,none⟩) f hs) (h4:f.length = 4) (hp4:∀ b ∈ f,b.pages.length = 4) (hSB:∀ b,SB b->b < w0.heap.size) (hN:∀ b,fblk (some ⟨A,ao,none⟩) hs b->¬ SB b)
 (next:∀ w',w0.heap.size + 4 ≤ w'.heap.size->(∀ b,b < w0.heap.size->w'.heap[b]? = w0.heap[b]?)->w'.heap[w0.heap.size + 1]? = some (.cells (Xo f).toArray 58)->w'.os = w0.os->w'.output = w0.output ->
  Fine Tryz.prog Post (fun b=>SB b∨b = w0.heap.size + 3) (G (cc.finish (.slice (some ⟨w0.heap.size + 1,0,none⟩) 4 4)) cs) w') :
 Fine Tryz.prog Post SB (G (Frame.enter Tryz.prog 30 #[.slice (some ⟨A,ao,none⟩) 4 c] .normal) (cc :: cs)) w0:=by
 refine we0 hSB fun w T hF hT t1 t3 t4 t10 t11=>?_;have hsz:w.heap.size = w0.heap.size + 4:=hF.size;obtain ⟨s,es⟩:∃ s,w0.heap.size = s:=⟨_,rfl⟩;have hold:∀ b,b < s->w.heap[b]? = w0.heap[b]?:=by rw [← es];exact hF.old
 have hF0:=hF.held (w0.heap.size, .cells #[.slice (some ⟨A,ao,none⟩) 4 c] 25) (by simp);have hF1:=hF.held (w0.heap.size + 1, .cells #[.int .i64 0, .int .i64 0, .int .i64 0, .int .i64 0, .int .i64 0, .int .i64 0, .int .i64 0, .int .i64 0] 58) (by simp);have hF2:=hF.held (w0.heap.size + 2, .cells #[.slice (some ⟨w0.heap.size + 1,0,none⟩) 4 4] 55) (by simp);have hF3:=hF.held (w0.heap.size + 3, .cells #[.int .u64 0, .int .u32 0] 113) (by simp);have hos:=hF.os;have hout:=hF.output;clear hF;simp only [es] at hF0 hF1 hF2 hF3 hsz t1 t3 t4 hSB next ⊢;let Φ:Ph:={ ty:=link.tWg,Wg:=s + 3,C:=s + 1,n0:=s + 4,ety:=58,sz:=8,h0:=w.heap,SB:=SB,nw:=4,res:=wres f }
 have kk:Φ.Ok:=⟨by show s + 1 < s + 4;omega,by show s + 3 < s + 4;omega,by show s + 1 ≠ s + 3;omega,fun b hb=>by
  have h:b < s:=hSB b hb;refine ⟨?_, ?_, ?_⟩
  . show b < s + 4;omega
  . show b ≠ s + 1;omega
  show b ≠ s + 3;omega,fun i i' off v v' h1 h2=>(zhz h1).symm.trans (zhz h2),by show 4 < 1000000;omega⟩
 have blt:∀ b,fblk (some ⟨A,ao,none⟩) hs b->b < s:=by
  intro b hb;rw [← es];rcases hb with hb | ⟨i,x,hx,hb⟩
  . exact hf.row.lt (by
     intro e;have hl:=Xc f hs hf.len;rw [e,h4] at hl;simp at hl) hb
  have hi:i < f.length:=by rw [← hf.len];exact (List.getElem?_eq_some_iff.1 hx).1
  obtain ⟨bk,hbk⟩:=zc (l:=f) (k:=i) hi;have hl:=hp4 bk (List.mem_of_getElem? hbk);exact (hf.pg i bk x hbk hx).1.lt (ky (by intro e;rw [e] at hl;simp at hl)) hb
 have hro:∀ b,fblk (some ⟨A,ao,none⟩) hs b->Φ.Ro b:=fun b hb=>by
  have:=blt b hb;refine ⟨?_, ?_, ?_,hN b hb⟩
  . show b < s + 4;omega
  . show b ≠ s + 1;omega
  show b ≠ s + 3;omega
 have nSB:∀ b,s ≤ b->¬ SB b:=fun b hb h=>by have:=hSB b h;omega
 have oldc:∀ w',Φ.Old w'->∀ b,fblk (some ⟨A,ao,none⟩) hs b->∀ j,w'.cell? ⟨b,j,none⟩ = w0.cell? ⟨b,j,none⟩:=fun w' ho b hb j=>by
  obtain ⟨h1,h2,h3,_⟩:=hro b hb;exact World.cell?_of_block (a:=⟨b,j,none⟩) ((ho b h1 h2 h3).trans (hold b (blt b hb)))
 have hwk:∀ k:Nat,k < 4->∀ I (S:Nat->Prop) w,S I->Φ.KB [(I, .cells #[.int .i64 (k:Int)] 3)] w->Φ.Loc Tryz.prog k 7 S 25 (born Tryz.prog (zf9 Φ.Wg s I (s + 2))) w:=by
  intro k hk I S w' hI hKB;obtain ⟨bk,hbk⟩:=zc (l:=f) (k:=k) (by omega);have hl:=hp4 bk (List.mem_of_getElem? hbk);obtain ⟨x,hx,c1,c2,_,_,hrow,_⟩:=hf.at_ hbk;have hne:pgs bk.pages ≠ []:=ky (by intro e;rw [e] at hl;simp at hl);obtain ⟨pb,po,hxe,hcell⟩:=hrow hne;obtain ⟨xa,xc⟩:=x;simp only at hxe;subst hxe;rw [hl] at c1;have bA:fblk (some ⟨A,ao,none⟩) hs A:=.inl rfl;have bP:fblk (some ⟨A,ao,none⟩) hs pb:=.inr ⟨k,_,hx,rfl⟩;refine zp5 (Φ:=Φ) (F:=s) (I:=I) (O:=s + 2) (A:=A) (ao:=ao) (k:=k) (n:=4) (c:=c) (pb:=pb) (po:=po) (pc:=xc) (wn:=bk.worn) (ps:=bk.pages) ⟨kk, ?_, ?_,hro A bA,hro pb bP, ?_, ?_, ?_, ?_, ?_,hl,hk,by omega,rfl,rfl,zeg hbk⟩ hI hKB
  . exact ⟨by show s < s + 4;omega,by show s ≠ s + 1;omega,by show s ≠ s + 3;omega,nSB s nl⟩
  . exact ⟨by show s + 2 < s + 4;omega,by show s + 2 ≠ s + 1;omega,by show s + 2 ≠ s + 3;omega,nSB _ (by omega)⟩
  . intro w' ho;have:=ho s (by show s < s + 4;omega) (by show s ≠ s + 1;omega) (by show s ≠ s + 3;omega);have e:Φ.h0[s]? = some (.cells #[.slice (some ⟨A,ao,none⟩) 4 c] 25):=hF0;rw [e] at this;simp [World.cell?,this]
  . intro w' ho;have:=ho (s + 2) (by show s + 2 < s + 4;omega) (by show s + 2 ≠ s + 1;omega) (by show s + 2 ≠ s + 3;omega);have e:Φ.h0[s + 2]? = some (.cells #[.slice (some ⟨s + 1,0,none⟩) 4 4] 55):=hF2;rw [e] at this;simp [World.cell?,this,Φ]
  . exact fun w' ho=>(oldc w' ho A bA _).trans c1
  . exact fun w' ho=>(oldc w' ho A bA _).trans c2
  exact fun w' ho j v hv=>(oldc w' ho pb bP _).trans (hcell j v hv).1
 have hwg:WgAt link.tWg (s + 3) w 0 0:=hF3;have hpay:Φ.Pay w:=⟨_,hF1,rfl⟩;refine k9.phase (Φ:=Φ) (K:=KX Φ (s + 2) (cc :: cs)) (An:=AnX Φ (s + 2) (cc :: cs)) kk (fun g w h=>AnX.run h) (fun g w h=>AnX.round kk rfl h) nl (by show 0 < 4;omega) ?_ hwg hpay (fun b h1 h2 h3=>rfl) (by show s + 4 ≤ w.heap.size;omega) ?_
 . intro T' d';exact zcy.spawn (zqb (n:=4) (F:=s) kk rfl rfl (by omega) hwk 4 0 rfl T (tp0 w T' d') hT t1 t3 t4 t10 t11 ⟨⟨fun b h1 h2 h3=>rfl,hpay,by show s + 4 ≤ w.heap.size;omega,by simp,by simp⟩,⟨0,0,hwg⟩⟩)
 rintro g' w' ⟨T',hT',t3',m,hm⟩ ⟨ca,hca,hcs⟩ hold' hwg' hn0' hhas hos' hout';have hn0:s + 4 ≤ w'.heap.size:=hn0';refine k9.goes (R:=Φ.R xv) (fun w T d=>⟨fun _ _=>rfl,id,id,id,id⟩) m g' w' (hm w' ⟨⟨hold',⟨ca,hca,hcs⟩,hn0',by simp,by simp⟩,⟨0,0,hwg'⟩⟩) ?_;have hO:=hold' (s + 2) (by show s + 2 < s + 4;omega) (by show s + 2 ≠ s + 1;omega) (by show s + 2 ≠ s + 3;omega);have e:Φ.h0[s + 2]? = some (.cells #[.slice (some ⟨s + 1,0,none⟩) 4 4] 55):=hF2;rw [e] at hO;refine we1 (s:=s + 2) (C:=s + 1) hT' t3' (by omega) (fun h=>h.elim (nSB _ (by omega)) (fun h=>by have h:s + 2 = s + 3:=h;omega)) (by simp [World.cell?,hO]) ?_;refine next w' hn0 (fun b hb=>?_) ?_ (hos'.trans hos) (hout'.trans hout)
 . exact (hold' b (by show b < s + 4;omega) (by show b ≠ s + 1;omega) (by show b ≠ s + 3;omega)).trans (hold b hb)
 show w'.heap[Φ.C]? = _;have hca':w'.heap[Φ.C]? = some (.cells ca 58):=hca;rw [hca'];have hcs8:ca.size = 8:=hcs;have hlen:(Xo f).length = 8:=by
  have:=Kh (fun b:Bk=>[.int .i64 b.worn, .int .i64 (tornN b.pages:Int)]) 2 (fun _=>rfl) f;rw [h4] at this;exact this
 have:ca = (Xo f).toArray:=by
  apply Array.ext_getElem?;intro i;rcases Nat.lt_or_ge i 8 with hlt | hge
  . obtain ⟨bk,hbk⟩:=zc (l:=f) (k:=i / 2) (by omega);have h1:=hhas (i / 2) (by show i / 2 < 4;omega);have e2:Φ.res (i / 2) = _:=zeg hbk;unfold Ph.Has at h1;rw [e2] at h1;have cellC:∀ j,w'.cell? ⟨Φ.C,j,none⟩ = ca[j]?:=fun j=>by simp [World.cell?,hca']
    have g0:=yn (fun b:Bk=>[Value.int .i64 b.worn, .int .i64 (tornN b.pages:Int)]) 2 (fun _=>rfl) f (i / 2) (i % 2) bk hbk (by omega);rw [show i / 2 * 2 + i % 2 = i by omega] at g0;show ca[i]? = (Xo f).toArray[i]?;have gw:(Xo f).toArray[i]? = _:=(List.getElem?_toArray ..).trans g0;rw [gw];rcases (by omega:i % 2 = 0∨i % 2 = 1) with h | h
    . have:=h1 (i / 2 * 2, .int .i64 bk.worn) (List.mem_cons_self ..);simp only [cellC] at this;rw [show i / 2 * 2 = i by omega] at this;rw [this,h];rfl
    have:=h1 (i / 2 * 2 + 1, .int .i64 (tornN bk.pages:Int)) (List.mem_cons_of_mem _ (List.mem_cons_self ..));simp only [cellC] at this;rw [show i / 2 * 2 + 1 = i by omega] at this;rw [this,h];rfl
  rw [Array.getElem?_eq_none (by omega),Array.getElem?_eq_none (by simp;omega)]
 rw [this]
end
end
section
open Go.Conc
def zqo:List Nat:=[5,6,7,8,11,12,13,14,15,17,18,19,20,21,22,23,24,25,26,27,28,29,31,32,33,34,35,36,37,38,39,40,41,42,43,44,45,46,47,48,49,50,51,52,56,58,59,60,61,62,63,64,65,66,67,68,69,70,71,72,73,74,75,76,77,78,79,80,81,82,83,84,85,86,87,106,107,108,109,110,111,112,113,114,115,116,117,118,119,120,121,122,123,124,125,126,132,133,134,135]
def zl4 (f:Nat):Bool:=zqo.contains f
def good (d:Nat->Option (Nat × Nat)):Cfg:=⟨zl4,d⟩
def zm7 (f:Nat):Prop:=∃ fn c,Tryz.prog.funcs[f]? = some fn∧fn.body = some c∧xn Tryz.prog zl4 c = true∧(fn.name == "runtime.NumGoroutine") = false
theorem mkG {f:Nat} {fn:Func} {c:Go.Code} (h:Tryz.prog.funcs[f]? = some fn) (hb:fn.body = some c:=by rfl) (hc:xn Tryz.prog zl4 c = true:=by kernel_rfl) (hn:(fn.name == "runtime.NumGoroutine") = false:=by decide):zm7 f:=⟨fn,c,h,hb,hc,hn⟩
def zbf:List Nat->Prop
 | []=>True
 | f :: l=>zm7 f∧zbf l
theorem zbf.mem:∀ {l:List Nat} {f:Nat},zbf l->f ∈ l->zm7 f
 | [],_,_,h=>by cases h
 | g :: l,f,h,hm=>(List.mem_cons.1 hm).elim (fun e=>e ▸ h.1) fun hm=>zbf.mem h.2 hm
theorem zmz (d:Nat->Option (Nat × Nat)):jc Tryz.prog (good d):=by
 refine ⟨fun f hf=>zbf.mem (l:=zqo) ⟨mkG Tryz.func5,mkG Tryz.func6,mkG Tryz.func7,mkG Tryz.func8,mkG Tryz.func11,mkG Tryz.func12,mkG Tryz.func13,mkG Tryz.func14,mkG Tryz.func15,mkG Tryz.func17,mkG Tryz.func18,mkG Tryz.func19,mkG Tryz.func20,mkG Tryz.func21,mkG Tryz.func22,mkG Tryz.func23,mkG Tryz.func24,mkG Tryz.func25,mkG Tryz.func26,mkG Tryz.func27,mkG Tryz.func28,mkG Tryz.func29,mkG Tryz.func31,mkG Tryz.func32,mkG Tryz.func33,mkG Tryz.func34,mkG Tryz.func35,mkG Tryz.func36,mkG Tryz.func37,mkG Tryz.func38,mkG Tryz.func39,mkG Tryz.func40,mkG Tryz.func41,mkG Tryz.func42,mkG Tryz.func43,mkG Tryz.func44,mkG Tryz.func45,mkG Tryz.func46,mkG Tryz.func47,mkG Tryz.func48,mkG Tryz.func49,mkG Tryz.func50,mkG Tryz.func51,mkG Tryz.func52,mkG Tryz.func56,mkG Tryz.func58,mkG Tryz.func59,mkG Tryz.func60,mkG Tryz.func61,mkG Tryz.func62,mkG Tryz.func63,mkG Tryz.func64,mkG Tryz.func65,mkG Tryz.func66,mkG Tryz.func67,mkG Tryz.func68,mkG Tryz.func69,mkG Tryz.func70,mkG Tryz.func71,mkG Tryz.func72,mkG Tryz.func73,mkG Tryz.func74,mkG Tryz.func75,mkG Tryz.func76,mkG Tryz.func77,mkG Tryz.func78,mkG Tryz.func79,mkG Tryz.func80,mkG Tryz.func81,mkG Tryz.func82,mkG Tryz.func83,mkG Tryz.func84,mkG Tryz.func85,mkG Tryz.func86,mkG Tryz.func87,mkG Tryz.func106,mkG Tryz.func107,mkG Tryz.func108,mkG Tryz.func109,mkG Tryz.func110,mkG Tryz.func111,mkG Tryz.func112,mkG Tryz.func113,mkG Tryz.func114,mkG Tryz.func115,mkG Tryz.func116,mkG Tryz.func117,mkG Tryz.func118,mkG Tryz.func119,mkG Tryz.func120,mkG Tryz.func121,mkG Tryz.func122,mkG Tryz.func123,mkG Tryz.func124,mkG Tryz.func125,mkG Tryz.func126,mkG Tryz.func132,mkG Tryz.func133,mkG Tryz.func134,mkG Tryz.func135,trivial⟩ (by simpa [good,zl4] using hf),fun t i v ht hi hv=>?_⟩;have h:(Tryz.prog.types.toList.all fun i=>match i.zero with | some v=>zia v | none=>true) = true:=by kernel_rfl
 rw [List.all_eq_true] at h;have:=h i (Array.mem_toList_iff.2 (Array.mem_of_getElem? hi));rw [hv] at this;exact this
end
section
open Go.Conc Go.ConcN Go.ConcR.Gen Go.RowKit
structure Bel (w w':World):Prop where
 os:w'.os = w.os
 output:w'.output = w.output
 size:w.heap.size ≤ w'.heap.size
 block:∀ b,b < w.heap.size->w'.heap[b]? = w.heap[b]?
theorem Bel.refl (w:World):Bel w w:=⟨rfl,rfl,Nat.le_refl _,fun _ _=>rfl⟩
theorem Bel.trans {a b c:World} (h:Bel a b) (k:Bel b c):Bel a c:=⟨k.os.trans h.os,k.output.trans h.output,Nat.le_trans h.size k.size,fun x hx=>(k.block x (Nat.lt_of_lt_of_le hx h.size)).trans (h.block x hx)⟩
theorem Bel.of_below {B:Nat} {w w1 w':World} (h:Below B w w') (hB:w1.heap.size ≤ B) (hh:w.heap = w1.heap) (ho:w.os = w1.os) (hp:w.output = w1.output) (hs:w1.heap.size ≤ w'.heap.size):Bel w1 w':=⟨h.os.trans ho,h.output.trans hp,hs,fun b hb=>by rw [← hh];exact h.block b (by omega)⟩
theorem Bel.more {a w w':World} (h:Bel a w) (hs:w'.heap.size = w.heap.size) (ho:w'.os = w.os) (hp:w'.output = w.output) (hb:∀ b,b < a.heap.size->w'.heap[b]? = w.heap[b]?):Bel a w':=⟨ho.trans h.os,hp.trans h.output,by rw [hs];exact h.size,fun b x=>(hb b x).trans (h.block b x)⟩
theorem Bel.bl {w w':World} (h:Bel w w'):Below w.heap.size w { w' with tape:=w.tape }:=⟨h.os,rfl,h.output,h.size,h.block⟩
theorem Bel.cell {w w':World} (h:Bel w w') {b:Nat} (hb:b < w.heap.size) (j:Nat):w'.cell? ⟨b,j,none⟩ = w.cell? ⟨b,j,none⟩:=World.cell?_of_block (a:=⟨b,j,none⟩) (h.block b hb)
theorem Fl.bel {w w':World} {A:Option Addr} {f:List Bk} (h:Fl w A f) (k:Bel w w'):Fl w' A f:=by
 obtain ⟨hs,h⟩:=h;exact ⟨hs,h.keep fun b _ hl=>k.block b hl⟩
theorem Bel.tp (w:World) (T:Nat->Question->Nat) (d:Nat):Bel w (tp0 w T d):=⟨rfl,rfl,Nat.le_refl _,fun _ _=>rfl⟩
theorem Bel.pt (w:World) (T:Nat->Question->Nat) (d:Nat):Bel (tp0 w T d) w:=⟨rfl,rfl,Nat.le_refl _,fun _ _=>rfl⟩
structure Co (G:Cfg) (SB A:Nat->Prop) (w0 w:World):Prop where
 hin:HIn Tryz.prog G A (cutW G w)
 away:Away SB A (cutW G w)
 bel:Bel w0 w
section
variable {G:Cfg} {SB A:Nat->Prop} {w0 w:World} {Post:Value->World->Prop}
theorem Co.tp (h:Co G SB A w0 w) (T:Nat->Question->Nat) (d:Nat):Co G SB A w0 (tp0 w T d):=by
 have e:cutW G (tp0 w T d) = tp0 (cutW G w) T d:=zmt G w T d;exact ⟨by rw [e];exact h.hin.tp T d,by rw [e];exact h.away,⟨h.bel.os,h.bel.output,h.bel.size,h.bel.block⟩⟩
theorem Co.dead (h:Co G SB A w0 w):∀ c l hi,G.dead c = some (l,hi)->c < w.heap.size:=zf6 h.hin.there
theorem Co.lt (h:Co G SB A w0 w) {b:Nat} (hb:A b):b < w.heap.size:=by have:=h.hin.lt hb;rwa [zy] at this
theorem Co.shun (h:Co G SB A w0 w) {b:Nat} (hb:SB b):b < w.heap.size:=by have:=(h.away b hb).2;rwa [zy] at this
theorem Co.push (h:Co G SB A w0 w) (o:Obj):Co G SB A w0 { w with heap:=w.heap.push o }:=by
 have e:=zd9 h.dead o;have hs:(cutW G { w with heap:=w.heap.push o }).heap.size = (cutW G w).heap.size + 1:=by rw [zy,zy];simp
 refine ⟨⟨fun r hr=>?_,fun c l hi x=>by rw [hs];have:=h.hin.there c l hi x;omega⟩,fun b hb=>⟨(h.away b hb).1,by rw [hs];have:=(h.away b hb).2;omega⟩,h.bel.trans ⟨rfl,rfl,by simp,fun b hb=>getElem?_push_old _ _ hb⟩⟩;obtain ⟨x,hx,hin⟩:=h.hin.obj r hr;refine ⟨x, ?_,hin⟩;rw [e];show ((cutW G w).heap.push o)[r]? = _;rw [getElem?_push_old _ _ (h.hin.lt hr)];exact hx
theorem Co.setCell (h:Co G SB A w0 w) {b:Nat} (j:Nat) (v:Value) (hA:¬ A b) (hb:w0.heap.size ≤ b):Co G SB A w0 (w.setCell ⟨b,j,none⟩ v):=by
 have e:=Xi (G:=G) (w:=w) ⟨b,j,none⟩ v;have hs:(cutW G (w.setCell ⟨b,j,none⟩ v)).heap.size = (cutW G w).heap.size:=by rw [zy,zy];simp [World.setCell]
 refine ⟨⟨fun r hr=>?_,fun c l hi x=>by rw [hs];exact h.hin.there c l hi x⟩,fun b hb=>⟨(h.away b hb).1,by rw [hs];exact (h.away b hb).2⟩,h.bel.more (by simp [World.setCell]) rfl rfl fun x hx=>?_⟩
 . obtain ⟨x,hx,hin⟩:=h.hin.obj r hr;refine ⟨x, ?_,hin⟩;rw [e];exact (Below.heap_setCell _ ⟨b,j,none⟩ v r (fun x=>hA (by rw [show b = r from x.symm];exact hr))).trans hx
 exact Below.heap_setCell _ ⟨b,j,none⟩ v x (by show x ≠ b;omega)
theorem Co.keep {w':World} (h:Co G SB A w0 w) (k:Bel w w'):Co G SB A w0 w':=by
 have hs:(cutW G w).heap.size ≤ (cutW G w').heap.size:=by rw [zy,zy];exact k.size
 refine ⟨⟨fun r hr=>?_,fun c l hi x=>Nat.lt_of_lt_of_le (h.hin.there c l hi x) hs⟩,fun b hb=>⟨(h.away b hb).1,Nat.lt_of_lt_of_le (h.away b hb).2 hs⟩,h.bel.trans k⟩;obtain ⟨x,hx,hin⟩:=h.hin.obj r hr;refine ⟨x, ?_,hin⟩;rw [← hx,X8,X8,k.block r (h.lt hr)]
theorem Bel.cut {w':World} (k:Bel w w'):Bel (cutW G w) (cutW G w'):=by
 refine ⟨by rw [zis,zis,k.os],by rw [Kj,Kj,k.output],by rw [zy,zy];exact k.size,fun b hb=>?_⟩;rw [zy] at hb;rw [X8,X8,k.block b hb]
theorem Bel.uncut {w':World} (k:Bel (cutW G w) (cutW G w')) (ht:Tail G w w'):Bel w w':=by
 refine ⟨by have:=k.os;rwa [zis,zis] at this,by have:=k.output;rwa [Kj,Kj] at this,by have:=k.size;rwa [zy,zy] at this,fun b hb=>ht.same (k.block b (by rw [zy];exact hb))⟩
end
section
variable {SB A:Nat->Prop} {w0 w:World} {Post:Value->World->Prop}
variable {g g':Goroutine} {b:Frame} {a:Act} {k:List Item} {cs:List Frame} {ops:Array Oper} {j:Nat} {rest:List Nat} {o:Oper} {v:Value} {P:Program} {F F':World->Prop}
theorem Fine.tp (h:Fine P Post SB g w) (T:Nat->Question->Nat) (d:Nat):Fine P Post SB g (tp0 w T d):=fun T' d'=>h T' d'
theorem xf (hr:g.status = .running) (h:∀ w,stepG P true g w = .go g' w #[]) (next:Fine P Post SB g' w):Fine P Post SB g w:=jz hr h next
theorem zmm (hT:∀ w T d,F w->F (tp0 w T d)) (hF:F w) (ho:ops[j]? = some o) (hw:Region.wanted o (yielded ops a.tmps) = true) (hk:b.kind ≠ .early)
 (hrun:∀ w,F w->(execOp a.eval o).run P w = .ok (.value v) w∧∀ e ∈ listed P b.fn a o w,EvF SB w.heap.size e)
 (next:Fine P Post SB (G (b.at (a.put o.dst v) (.inRegion ops rest :: k)) cs) w):Fine P Post SB (G (b.at a (.inRegion ops (j :: rest) :: k)) cs) w :=
 Fine.step rfl fun T d=>⟨_,tp0 w T d,_,stepG_value ho hw hk (hrun _ (hT w T d hF)).1,Nat.le_refl _,(hrun _ (hT w T d hF)).2,next.tp T d⟩
theorem Ze (ho:ops[j]? = some o) (hw:Region.wanted o (yielded ops a.tmps) = false)
 (next:Fine P Post SB (G (b.at (a.put o.dst undef) (.inRegion ops rest :: k)) cs) w):Fine P Post SB (G (b.at a (.inRegion ops (j :: rest) :: k)) cs) w :=
 xf rfl (fun w=>by rw [stepG_unwanted ho hw]) next
theorem zq7 (hT:∀ w T d,F w->F (tp0 w T d)) (hF:F w) (ho:ops[j]? = some o) (hw:Region.wanted o (yielded ops a.tmps) = true) (hk:b.kind ≠ .early) (v:Nat->Value) (ob:Obj)
 (hrun:∀ w,F w->(execOp a.eval o).run P w = .ok (.value (v w.heap.size)) { w with heap:=w.heap.push ob }∧listed P b.fn a o w = #[])
 (next:∀ w,F w->Fine P Post SB (G (b.at (a.put o.dst (v w.heap.size)) (.inRegion ops rest :: k)) cs) { w with heap:=w.heap.push ob }):Fine P Post SB (G (b.at a (.inRegion ops (j :: rest) :: k)) cs) w :=
 Fine.step rfl fun T d=>by
  have hF':=hT w T d hF;obtain ⟨h1,h2⟩:=hrun _ hF';exact ⟨_,_,#[],(stepG_value ho hw hk h1).trans (by rw [h2]),by simp only [Array.size_push];exact Nat.le_succ _,by simp,next _ hF'⟩
theorem zq6 (hT:∀ w T d,F w->F (tp0 w T d)) (hF:F w) (ho:ops[j]? = some o) (hw:Region.wanted o (yielded ops a.tmps) = true) (hk:b.kind ≠ .early) (f:World->World)
 (hrun:∀ w,F w->(execOp a.eval o).run P w = .ok .skip (f w)∧(f w).heap.size = w.heap.size∧(∀ e ∈ listed P b.fn a o w,EvF SB w.heap.size e)∧F' (f w))
 (next:∀ w,F' w->Fine P Post SB (G (b.at (a.put o.dst undef) (.inRegion ops rest :: k)) cs) w):Fine P Post SB (G (b.at a (.inRegion ops (j :: rest) :: k)) cs) w :=
 Fine.step rfl fun T d=>by
  obtain ⟨h1,h2,h3,h4⟩:=hrun _ (hT w T d hF);exact ⟨_,_,_,stepG_none ho hw hk h1,by rw [h2];exact Nat.le_refl _,by rw [h2];exact h3,next _ h4⟩
theorem K6 {f:FuncId} {fn:Func} {c:Go.Code} {args:Array Operand} {ats:Array TypeId} (ho:ops[j]? = some o) (hw:Region.wanted o (yielded ops a.tmps) = true) (hk:b.kind ≠ .early) (hop:o.op = .call { callee:=.value (.func f),args,argTypes:=ats })
 (hf:P.funcs[f]? = some fn) (hname:(fn.name == "runtime.NumGoroutine") = false) (hb:fn.body = some c)
 (next:Fine P Post SB (G (Frame.enter P f (args.map a.eval) .normal) (b.at a (.inRegion ops (j :: rest) :: k) :: cs)) w):Fine P Post SB (G (b.at a (.inRegion ops (j :: rest) :: k)) cs) w :=
 xf rfl (fun w=>by
  obtain ⟨g',w',es,e,rfl,rfl,rfl⟩:=goes_elim (goes_call (P:=P) (main:=true) (cs:=cs) (k:=k) (b:=b) (a:=a) (w:=w) (rest:=rest) (K:=fun g' w' es=>g' = G (Frame.enter P f (args.map a.eval) .normal) (b.at a (.inRegion ops (j :: rest) :: k) :: cs)∧w' = w∧es = #[]) ho hw hk hop hf hname hb ⟨by rw [enter_at _ hf hb],rfl,rfl⟩);exact e) next
theorem zmn {c:Frame} {todo:List Item} {fn:Func} (hn:b.kind = .normal) (hd:a.defers = []) (hf:P.funcs[b.fn]? = some fn)
 (hrun:∀ w,(results fn a.tmps).run P w = .ok v w∧seen P b.fn ((results fn a.tmps).events P w #[]) = #[])
 (next:Fine P Post SB (G (c.finish v) cs) w):Fine P Post SB (G { b.at a todo with mode:=.returning } (c :: cs)) w:=zin hn hd hf hrun next
theorem Co.call {Gd:Nat->Option (Nat × Nat)} {f:FuncId} {args:Array Value} {R:Value->World->Prop} {c:Frame} {rest:List Frame} (co:Co (good Gd) SB A w0 w) (hR:∀ v w T d,R v (tp0 w T d)->R v w) (hf:zl4 f = true) (ha:∀ v ∈ args,VIn (good Gd) A v)
 (hc:∀ T d,Calls Tryz.prog f args (tp0 (cutW (good Gd) w) T d) fun e w'=>∃ v,e = .returned v∧R v w'∧Below (cutW (good Gd) w).heap.size (tp0 (cutW (good Gd) w) T d) w')
 (next:∀ A' v w',(∀ b,A b->A' b)->Co (good Gd) SB A' w0 w'->Bel w w'->VIn (good Gd) A' v->R v (cutW (good Gd) w')->Fine Tryz.prog Post SB (G (c.finish v) rest) w'):Fine Tryz.prog Post SB (G (Frame.enter Tryz.prog f args .normal) (c :: rest)) w:=by
 refine Fine.call (P:=Tryz.prog) (G:=good Gd) (A:=A) (wR:=w) (zmz Gd) (Q:=fun v w'=>R v w'∧Bel (cutW (good Gd) w) w') hf ha co.hin co.away (fun v w T d h=>⟨hR v w T d h.1,⟨h.2.os,h.2.output,h.2.size,h.2.block⟩⟩) (fun T d=>(hc T d).mono fun e w' ⟨v,h1,h2,h3⟩=>⟨v,h1,h2,⟨h3.os,h3.output,h3.size,h3.block⟩⟩) ?_;intro A' v w' ht hk hh hv hq;have hb:=Bel.uncut hq.2 ht;exact next A' v w' hk.grow ⟨hh,co.away.kept hk,co.bel.trans hb⟩ hb hv hq.1
theorem zmk {Gc:Cfg} {ad:Option Addr} {f:List Bk} {hs:List (Option Addr × Nat)} {n c:Nat} (hin:HIn Tryz.prog Gc A w) (hv:VIn Gc A (.slice ad n c)) (hf:Bks w ad f hs) (hne:f ≠ []) (hp:∀ b ∈ f,b.pages ≠ []):∀ b,fblk ad hs b->A b:=by
 obtain ⟨bk,off,rfl⟩:=hf.addr hne;have hA:Ina Gc A ⟨bk,off,none⟩:=by cases hv;assumption
 rintro b (hb | ⟨i,x,hx,hb⟩)
 . rw [← zf.1 hb];exact hA.blk
 have hi:i < f.length:=by rw [← hf.len];exact (List.getElem?_eq_some_iff.1 hx).1
 obtain ⟨b',hb'⟩:=zc hi;obtain ⟨x',hx',c1,_⟩:=hf.at_ hb';rw [hx] at hx';cases hx';have hv1:=K8 hin (a:=⟨bk,off + i * 2,none⟩) ⟨hA.blk,Nat.le_trans hA.low (Nat.le_add_right _ _)⟩ c1;obtain ⟨xa,xc⟩:=x;simp only at hb hv1;cases xa with
 | none=>cases hb
 | some ad=>cases hv1;rename_i h;cases hb;exact h.blk
theorem Co.wearEach {Gd:Nat->Option (Nat × Nat)} {ad:Option Addr} {f:List Bk} {c:Nat} {cc:Frame} {rest:List Frame} (co:Co (good Gd) SB A w0 w) (hv:VIn (good Gd) A (.slice ad 4 c)) (hf:Fl (cutW (good Gd) w) ad f) (h4:f.length = 4) (hp4:∀ b ∈ f,b.pages.length = 4)
 (next:∀ w' C W,Co (good Gd) (fun b=>SB b∨b = W) (fun b=>A b∨b = C) w0 w'->Bel w w'->w0.heap.size ≤ C->w'.heap[C]? = some (.cells (Xo f).toArray 58) ->
  Fine Tryz.prog Post (fun b=>SB b∨b = W) (G (cc.finish (.slice (some ⟨C,0,none⟩) 4 4)) rest) w') :
 Fine Tryz.prog Post SB (G (Frame.enter Tryz.prog 30 #[.slice ad 4 c] .normal) (cc :: rest)) w:=by
 obtain ⟨hs,hf⟩:=hf;have hne:f ≠ []:=by rintro rfl;simp at h4
 have hpn:∀ b ∈ f,b.pages ≠ []:=fun b hb e=>by have:=hp4 b hb;rw [e] at this;simp at this
 have hin:=zmk co.hin hv hf hne hpn;obtain ⟨bk,off,rfl⟩:=hf.addr hne;have hfR:Bks w (some ⟨bk,off,none⟩) f hs:=⟨hf.len,fun hn=>let ⟨b,o,e,hc⟩:=hf.row hn;⟨b,o,e,fun j u hj=>⟨Zs (hc j u hj).1,by rw [← qy (G:=good Gd)];exact (hc j u hj).2⟩⟩,
  fun i b x hb hx=>⟨fun hn=>let ⟨b',o,e,hc⟩:=(hf.pg i b x hb hx).1 hn;⟨b',o,e,fun j u hj=>⟨Zs (hc j u hj).1,by rw [← qy (G:=good Gd)];exact (hc j u hj).2⟩⟩,(hf.pg i b x hb hx).2⟩⟩
 refine Fine.wearEach hfR h4 hp4 (fun b hb=>co.shun hb) (fun b hb h=>(co.away b h).1 (hin b hb)) fun w' h1 h2 h3 h5 h6=>?_;have hb:Bel w w':=⟨h5,h6,by omega,h2⟩;have co':=co.keep hb;have hdC:(cutW (good Gd) w').heap[w.heap.size + 1]? = some (.cells (Xo f).toArray 58):=by
  rw [za9]
  . exact h3
  intro c l hi e x;have:=co.dead c l hi e;omega
 refine next w' (w.heap.size + 1) (w.heap.size + 3) ⟨⟨fun r hr=>?_,co'.hin.there⟩,fun b hb'=>?_,co'.bel⟩ hb (by have:=co.bel.size;omega) h3
 . rcases hr with hr | rfl
   . obtain ⟨x,hx,hxin⟩:=co'.hin.obj r hr;exact ⟨x,hx,hxin.mono fun _ z=>.inl z⟩
   refine ⟨_,hdC, .all fun v hv=>?_⟩;simp only [Xo,List.mem_toArray,List.mem_flatMap,List.mem_cons,List.not_mem_nil,or_false] at hv;obtain ⟨b,_,rfl | rfl⟩:=hv <;> exact .int _ _
 rw [zy];rcases hb' with hb' | rfl
 . have:=co'.away b hb';have h9:=co.shun hb';rw [zy] at this;exact ⟨fun x=>x.elim this.1 (fun e=>by omega),this.2⟩
 exact ⟨fun x=>x.elim (fun x=>by have:=co.lt x;omega) (fun e=>by omega),by omega⟩
end
end
section
open Go.Conc Go.ConcN Go.ConcR.Gen Go.RowKit
section
variable {P:Program} {Post:Value->World->Prop} {SB:Nat->Prop} {b:Frame} {k:List Item} {cs:List Frame} {w:World} {ops:Array Oper} {F:World->Prop} {id:Nat}
theorem f_op {a:Act} {j:Nat} {rest:List Nat} {o:Oper} {v:Value} (ho:ops[j]? = some o) (hw:Region.wanted o (yielded ops a.tmps) = true) (hk:b.kind ≠ .early)
 (hrun:∀ w,(execOp a.eval o).run P w = .ok (.value v) w∧listed P b.fn a o w = #[])
 (next:Fine P Post SB (G (b.at (a.put o.dst v) (.inRegion ops rest :: k)) cs) w):Fine P Post SB (G (b.at a (.inRegion ops (j :: rest) :: k)) cs) w :=
 zmm (F:=fun _=>True) (fun _ _ _ _=>trivial) trivial ho hw hk (fun w _=>⟨(hrun w).1,by rw [(hrun w).2];simp⟩) next
theorem fo {a:Act} {j:Nat} {rest:List Nat} {o:Oper} {v:Value} (next:Fine P Post SB (G (b.at (a.put o.dst v) (.inRegion ops rest :: k)) cs) w) (ho:ops[j]? = some o:=by rfl) (hw:Region.wanted o (yielded ops a.tmps) = true:=by rfl) (hk:b.kind ≠ .early:=by k_ne)
 (hrun:∀ w,(execOp a.eval o).run P w = .ok (.value v) w∧listed P b.fn a o w = #[]:=by exact fun w=>⟨run_eq_of (fun K hK=>by go_simp;exact hK),listed_nil (by simp [go_sem, *])⟩):Fine P Post SB (G (b.at a (.inRegion ops (j :: rest) :: k)) cs) w :=
 f_op ho hw hk hrun next
end
end
section
open Go.Conc Go.ConcN Go.ConcR.Gen Go.RowKit
section
variable {SB A:Nat->Prop} {w0 w:World} {Post:Value->World->Prop}
def Qc (Q:Act->World->Prop) (w:World) (e:Exit) (a:Act) (w':World):Prop:=e = .normal∧a.defers = []∧Q a w'∧Bel w w'
theorem Qc.mk' {Q:Act->World->Prop} {a0 w':World} {a:Act} (hd:a.defers = []) (h:Q a w') (hb:Bel a0 w'):Qc Q a0 .normal a w':=⟨rfl,hd,h,hb⟩
theorem Co.wp {Gd:Nat->Option (Nat × Nat)} {bf:Frame} {a:Act} {c:Go.Code} {k:List Item} {cs:List Frame} (Q:Act->World->Prop) (co:Co (good Gd) SB A w0 w) (hbk:bf.kind = .normal) (hc:xn Tryz.prog (good Gd) c = true) (hk:∀ id,exitTo id k = none)
 (ht:∀ v ∈ a.tmps,VIn (good Gd) A v) (hd:a.defers = []) (hQ:∀ a w T d,Q a (tp0 w T d)->Q a w)
 (h:∀ T d,c.wp Tryz.prog (Qc Q (cutW (good Gd) w)) a (tp0 (cutW (good Gd) w) T d))
 (next:∀ A' a' w',(∀ b,A b->A' b)->Co (good Gd) SB A' w0 w'->Bel w w'->(∀ v ∈ a'.tmps,VIn (good Gd) A' v)->Q a' (cutW (good Gd) w')->Fine Tryz.prog Post SB (G (bf.at a' k) cs) w'):Fine Tryz.prog Post SB (G (bf.at a (.code c :: k)) cs) w:=by
 refine Fine.wp (P:=Tryz.prog) (G:=good Gd) (A:=A) (wR:=w) (Q:=fun e a w'=>e = .normal∧Q a w'∧Bel (cutW (good Gd) w) w') (zmz Gd) hbk hc hk ht hd co.hin co.away (fun e a w T d h=>⟨h.1,hQ _ _ _ _ h.2.1,⟨h.2.2.os,h.2.2.output,h.2.2.size,h.2.2.block⟩⟩) (fun T d=>?_) ?_ ?_
 . refine Go.Code.wp_mono (fun e a' w' h=>?_) (h T d);obtain ⟨h1,h2,h3,h4⟩:=h;exact ⟨.inl h1,h1,h3,h4⟩
 . intro A' a' w' ht hk' hh hv hq hdef;have hb:=Bel.uncut hq.2.2 ht;exact next A' a' w' hk'.grow ⟨hh,co.away.kept hk',co.bel.trans hb⟩ hb hv hq.2.1
 intro A' a' w' todo _ _ _ _ hq;cases hq.1
end
section
variable {SB A:Nat->Prop} {w0 w:World} {Post:Value->World->Prop}
def Ja (Q QR:Act->World->Prop) (w:World) (e:Exit) (a:Act) (w':World):Prop:=((e = .normal∧Q a w')∨(e = .ret∧QR a w'))∧a.defers = []∧Bel w w'
theorem Ja.mkR {Q QR:Act->World->Prop} {a0 w':World} {a:Act} (hd:a.defers = []) (h:QR a w') (hb:Bel a0 w'):Ja Q QR a0 .ret a w':=⟨.inr ⟨rfl,h⟩,hd,hb⟩
theorem Co.wpR {Gd:Nat->Option (Nat × Nat)} {bf:Frame} {a:Act} {c:Go.Code} {k:List Item} {cs:List Frame} (Q QR:Act->World->Prop) (co:Co (good Gd) SB A w0 w) (hbk:bf.kind = .normal) (hc:xn Tryz.prog (good Gd) c = true) (hk:∀ id,exitTo id k = none)
 (ht:∀ v ∈ a.tmps,VIn (good Gd) A v) (hd:a.defers = []) (hQ:∀ a w T d,Q a (tp0 w T d)->Q a w) (hQR:∀ a w T d,QR a (tp0 w T d)->QR a w)
 (h:∀ T d,c.wp Tryz.prog (Ja Q QR (cutW (good Gd) w)) a (tp0 (cutW (good Gd) w) T d))
 (next:∀ A' a' w',(∀ b,A b->A' b)->Co (good Gd) SB A' w0 w'->Bel w w'->(∀ v ∈ a'.tmps,VIn (good Gd) A' v)->Q a' (cutW (good Gd) w')->Fine Tryz.prog Post SB (G (bf.at a' k) cs) w')
 (nextR:∀ A' a' w' todo,(∀ b,A b->A' b)->Co (good Gd) SB A' w0 w'->Bel w w'->(∀ v ∈ a'.tmps,VIn (good Gd) A' v)->QR a' (cutW (good Gd) w')->Fine Tryz.prog Post SB (G { bf.at a' todo with mode:=.returning } cs) w'):Fine Tryz.prog Post SB (G (bf.at a (.code c :: k)) cs) w:=by
 refine Fine.wp (P:=Tryz.prog) (G:=good Gd) (A:=A) (wR:=w) (Q:=fun e a w'=>((e = .normal∧Q a w')∨(e = .ret∧QR a w'))∧Bel (cutW (good Gd) w) w') (zmz Gd) hbk hc hk ht hd co.hin co.away (fun e a w T d h=>⟨h.1.imp (fun x=>⟨x.1,hQ _ _ _ _ x.2⟩) (fun x=>⟨x.1,hQR _ _ _ _ x.2⟩),⟨h.2.os,h.2.output,h.2.size,h.2.block⟩⟩) (fun T d=>?_) ?_ ?_
 . refine Go.Code.wp_mono (fun e a' w' h=>?_) (h T d);obtain ⟨h1,h3,h4⟩:=h;exact ⟨h1.imp (·.1) (fun x=>⟨x.1,h3⟩),h1,h4⟩
 . intro A' a' w' ht hk' hh hv hq hdef;have hb:=Bel.uncut hq.2 ht;rcases hq.1 with ⟨_,h⟩ | ⟨h,_⟩
   . exact next A' a' w' hk'.grow ⟨hh,co.away.kept hk',co.bel.trans hb⟩ hb hv h
   cases h
 intro A' a' w' todo ht hk' hh hv hq hdef;have hb:=Bel.uncut hq.2 ht;rcases hq.1 with ⟨h,_⟩ | ⟨_,h⟩
 . cases h
 exact nextR A' a' w' todo hk'.grow ⟨hh,co.away.kept hk',co.bel.trans hb⟩ hb hv h
end
theorem Fl.worn {W:World} {g off:Nat} {f:List Bk} (h:Fl W (some ⟨g,off,none⟩) f) {k:Nat} {b:Bk} (hb:f[k]? = some b):W.cell? ⟨g,off + k * 2 + 1,none⟩ = some (.int .i64 b.worn):=by
 obtain ⟨hs,hf⟩:=h;obtain ⟨x,_,_,c1,_⟩:=hf.at_ hb;exact c1
theorem Below.bel {a W w:World} (h0:Bel a W) (h:Below W.heap.size W w):Bel a w:=h0.trans ⟨h.os,h.output,h.size,h.block⟩
def Ex:Nat->(List Value->Prop)->Prop
 | 0,p=>p []
 | n + 1,p=>∃ v,Ex n fun l=>p (v :: l)
theorem Ex.of:∀ {n:Nat} {p:List Value->Prop} (l:List Value),l.length = n->p l->Ex n p
 | 0,_,[],_,h=>h
 | 0,_,_ :: _,hl,_=>by simp at hl
 | _ + 1,_,[],hl,_=>by simp at hl
 | _ + 1,_,v :: l,hl,h=>⟨v,Ex.of l (by simpa using hl) h⟩
theorem exT {T:Array Value} {n:Nat} (h:T.size = n):Ex n fun l=>T = l.toArray:=Ex.of T.toList (by simpa using h) (by simp)
def AllV (Gc:Cfg) (A:Nat->Prop) (l:List Value):Prop:=∀ v ∈ l,VIn Gc A v
theorem AllV.nil {Gc:Cfg} {A:Nat->Prop}:AllV Gc A []:=fun v hv=>(by cases hv)
theorem AllV.cons {Gc:Cfg} {A:Nat->Prop} {v:Value} {l:List Value} (h:VIn Gc A v) (t:AllV Gc A l):AllV Gc A (v :: l):=fun x hx=>by
 rcases List.mem_cons.1 hx with rfl | hx
 . exact h
 exact t x hx
theorem AllV.arr {Gc:Cfg} {A:Nat->Prop} {l:List Value} (h:AllV Gc A l):∀ v ∈ l.toArray,VIn Gc A v:=fun v hv=>h v (List.mem_toArray.1 hv)
theorem VIn.undef {Gc:Cfg} {A:Nat->Prop}:VIn Gc A Go.undef:=.tuple (by simp)
end
section
open Go.RowKit Go.Maps
theorem zbm (p:Pg) (w:World):Calls Tryz.prog 52 #[.agg #[.int .i64 p.state, .int .i64 p.rc.kind, .int .i64 p.rc.seq, .int .i64 p.rc.addr, .int .i64 p.rc.val]] w fun e w'=>e = .returned (.bool (zn p))∧Below w.heap.size w w':=by
 obtain ⟨st,r⟩:=p;dsimp only;have hB:Below w.heap.size w (w.alloc (.cells #[.int .i64 st, .int .i64 r.kind, .int .i64 r.seq, .int .i64 r.addr, .int .i64 r.val] 76)):=(Below.refl _ _).alloc nl _;by_cases h1:st = 1
 . subst h1;have hq:Hid (zn ⟨1,r⟩ = xj r):=rfl
   go_enter Tryz.func52,Tryz.ntmps52
   go_wp2_with (go_at_call 62;refine (Ke r _).mono ?_;rintro e w1 ⟨rfl,hb⟩)
   go_ret;exact ⟨zg hq.out.symm,hB.trans (hb.mono (by simp))⟩
 clear hB;obtain ⟨k,s,a,v⟩:=r;dsimp only;by_cases h0:st = 0
 . subst h0;have hq:Hid (zn ⟨0,⟨k,s,a,v⟩⟩ = decide ((⟨k,s,a,v⟩:Rc) = rc0)):=rfl
   go_enter Tryz.func52,Tryz.ntmps52
   go_wp2;all_goals (go_ret;exact ⟨zg (by rw [hq.out];simp [rc0, *]),(Below.refl _ _).alloc nl _⟩)
 by_cases h2:st = 2
 . subst h2;have hq:Hid (zn ⟨2,⟨k,s,a,v⟩⟩ = decide ((⟨k,s,a,v⟩:Rc) = rc0)):=rfl
   go_enter Tryz.func52,Tryz.ntmps52
   go_wp2;all_goals (go_ret;exact ⟨zg (by rw [hq.out];simp [rc0, *]),(Below.refl _ _).alloc nl _⟩)
 have hk:Hid (zn ⟨st,⟨k,s,a,v⟩⟩ = false):=by unfold Hid zn;simp [h1,h2,h0]
 go_enter Tryz.func52,Tryz.ntmps52
 go_wp2;go_ret;exact ⟨zg hk.out.symm,(Below.refl _ _).alloc nl _⟩

theorem zap (b:Bk) (A:Option Addr) (c:Nat) (w:World) (hR:Row w A (pgs b.pages)):Calls Tryz.prog 51 #[.agg #[.slice A b.pages.length c, .int .i64 b.worn]] w fun e w'=>e = .returned (.bool (zw b))∧Below w.heap.size w w':=by
 obtain ⟨ps,worn⟩:=b;dsimp only at *;have hB:Below w.heap.size w (w.alloc (.cells #[.slice A ps.length c, .int .i64 worn] 99)):=(Below.refl _ _).alloc nl _;by_cases hn4:ps.length = 4
 . obtain ⟨bk,off,rfl⟩:=hR.addr (ky (by rintro rfl;simp at hn4));have HN:=Lib.hid hn4;rw [hn4] at hB ⊢;clear hn4;by_cases h0:worn < 0
   . have hfin:Hid (zw ⟨ps,worn⟩ = false):=by unfold Hid zw;simp;omega
     go_enter Tryz.func51,Tryz.ntmps51
     go_wp2;go_ret;exact ⟨zg hfin.out.symm,hB⟩
   by_cases h1:200 < worn
   . have hfin:Hid (zw ⟨ps,worn⟩ = false):=by unfold Hid zw;simp;omega
     go_enter Tryz.func51,Tryz.ntmps51
     go_wp2;go_ret;exact ⟨zg hfin.out.symm,hB⟩
   have hfin:Hid (zw ⟨ps,worn⟩ = j0 false ps):=by unfold Hid zw;simp [HN.out,show 0 ≤ worn by omega,show worn ≤ 200 by omega]
   go_enter Tryz.func51,Tryz.ntmps51
   go_wp2
   go_loopw [3,23] (fun fr i wr=>∃ (k:Nat) (bb:Bool),k ≤ 4∧i = .int .i64 k∧fr = .bool bb∧Below w.heap.size w wr∧Hid (j0 false ps = j0 bb (ps.drop k))) (fun _ i _=>4 - (intOf i).toNat)
   case atStart=>exact ⟨0,false,by omega,rfl,rfl,hB,rfl⟩
   case round =>
    obtain ⟨k,bb,hk,rfl,rfl,hb,hg⟩:=hrel;by_cases hlt:k < 4
    . obtain ⟨p,hp⟩:=zc (l:=ps) (k:=k) (by have:=HN.out;omega);have hd:=Lib.hid (zr hp);obtain ⟨c0,c1,c2,c3,c4⟩:=(hR.below hb nl).pg hp;clear hp hB;obtain ⟨st,rc⟩:=p;dsimp only at *;go_wp2
      . go_ret;exact ⟨zg (by rw [hfin.out,hg.out,hd.out];simp [j0, *]),hb.alloc hb.size _⟩
      all_goals
       go_roundw
       case rel=>exact ⟨k + 1,_,by omega,by go_num,rfl,hb.alloc hb.size _,by rw [Hid,hg.out,hd.out];simp [j0, *]⟩
       case measure=>simp [intOf];omega
    go_wp2;go_ret;obtain rfl:k = 4:=by omega
    exact ⟨zg (by rw [hfin.out,hg.out,List.drop_of_length_le (by have:=HN.out;omega)];rfl),hb⟩
 have hfin:Hid (zw ⟨ps,worn⟩ = false):=by unfold Hid zw;simp;omega
 go_enter Tryz.func51,Tryz.ntmps51
 go_wp2;go_ret;exact ⟨zg hfin.out.symm,hB⟩

theorem zna (w:World):(zeroValue 3).run Tryz.prog w = .ok (.int .i64 0) w:=by kernel_rfl
def cnt (seen:List Int) (k:Int):Int:=seen.count k
theorem zmx {seen:List Int} {k:Int}:0 < cnt seen k ↔ k ∈ seen:=by unfold cnt;rw [← List.count_pos_iff];omega
theorem xh (f:List Bk) (A:Option Addr) (c:Nat) (w:World) (hF:Fl w A f):Calls Tryz.prog 29 #[.slice A f.length c] w fun e w'=>e = .returned (.bool (ze f))∧Below w.heap.size w w':=by
 by_cases hn4:f.length = 4
 . obtain ⟨hs,hF⟩:=hF;obtain ⟨bk,off,rfl⟩:=hF.addr (by rintro rfl;simp at hn4);have hfin:Hid (ze f = ka [] f):=by unfold Hid ze;simp [hn4]
   have HN:=Lib.hid hn4;rw [hn4];clear hn4;have hmm:=@run_makeMap Tryz.prog
   go_enter Tryz.func29,Tryz.ntmps29
   go_wp2
   go_loopw [14] (fun i wr=>∃ (k:Nat) (seen:List Int),k ≤ 4∧i = .int .i64 k∧Below w.heap.size w wr∧IMap Tryz.prog 3 3 wr w.heap.size (4 * k) (cnt seen)∧(∀ x,cnt seen x ≤ 4 * k)∧Hid (ze f = ka seen (f.drop k))) (fun i _=>4 - (intOf i).toNat)
   case atStart=>exact ⟨0,[],by omega,rfl,(Below.refl _ _).alloc nl _,(IMap.made _ _ _ _),by simp [cnt],hfin.out⟩
   case round =>
    obtain ⟨k,seen,hk,rfl,hb,hM,hcn,hg⟩:=hrel;by_cases hlt:k < 4
    . obtain ⟨B,hB⟩:=zc (l:=f) (k:=k) (by have:=HN.out;omega);have hd:=Lib.hid (zr hB);obtain ⟨⟨Ap,cp⟩,_,c0,c1,_,_,hR,hlc⟩:=hF.at_ hB;have hbk:bk < w.heap.size:=zd c0;replace c0:=(hb.cell (p:=⟨bk,off + k * 2,none⟩) hbk).trans c0;replace c1:=(hb.cell (p:=⟨bk,off + k * 2 + 1,none⟩) hbk).trans c1;clear hB hbk;obtain ⟨Ps,wn⟩:=B;dsimp only at *;go_wp2_with fail
      refine (zap ⟨Ps,wn⟩ Ap cp _ ((hR.below hb nl).alloc _)).mono ?_;rintro e w1 ⟨rfl,hb1⟩;have hx0:w1.cell? ⟨wr.heap.size,0,none⟩ = some (.slice Ap Ps.length cp):=(hb1.cell (by simp)).trans (by simp);have hB1:Below w.heap.size w w1:=(hb.alloc hb.size _).trans (hb1.mono (by have:=hb.size;simp;omega));have hM1:IMap Tryz.prog 3 3 w1 w.heap.size (4 * k) (cnt seen):=(hM.alloc _).below hb1 (by have:=hM.lt;simp;omega);clear hb1 c0 c1 hM hb;by_cases hbs:zw ⟨Ps,wn⟩ = true
      . have hl4:Ps.length = 4:=by unfold zw at hbs;simp at hbs;exact hbs.1
        have hstep:Hid (ze f = kz seen (fun s=>ka s (f.drop (k + 1))) Ps):=by rw [Hid,hg.out,hd.out,ka,hbs];rfl
        obtain ⟨pb,po,rfl⟩:=hR.addr (ky (by rintro rfl;simp at hl4));have HL:=Lib.hid hl4;rw [hl4] at hx0;clear hl4 hlc hg hd;go_wp2
        go_loopw [24] (fun i wr=>∃ (j:Nat) (seen:List Int),j ≤ 4∧i = .int .i64 j∧Below w.heap.size w wr∧IMap Tryz.prog 3 3 wr w.heap.size (4 * k + j) (cnt seen)∧(∀ x,cnt seen x ≤ 4 * k + j)∧Hid (ze f = kz seen (fun s=>ka s (f.drop (k + 1))) (Ps.drop j))) (fun i _=>4 - (intOf i).toNat)
        case atStart=>exact ⟨0,seen,by omega,rfl,hB1,hM1,by intro x;have:=hcn x;omega,hstep.out⟩
        case round =>
         clear hM1 hcn seen hB1 hx0 hstep;obtain ⟨j,seen,hj,rfl,hb,hM,hcn,hg⟩:=hrel;by_cases hltj:j < 4
         . obtain ⟨p,hp⟩:=zc (l:=Ps) (k:=j) (by have:=HL.out;omega);have hd:=Lib.hid (zr hp);obtain ⟨c0,c1,c2,c3,c4⟩:=(hR.below hb nl).pg hp;clear hp;obtain ⟨st,⟨kd,sq,ad,vl⟩⟩:=p;dsimp only at *;go_wp2_with fail
           refine (zbm ⟨st,⟨kd,sq,ad,vl⟩⟩ _).mono ?_;rintro e w2 ⟨rfl,hb2⟩;have hB2:Below w.heap.size w w2:=(hb.alloc hb.size _).trans (hb2.mono (by have:=hb.size;simp;omega));have hM2:IMap Tryz.prog 3 3 w2 w.heap.size (4 * k + j) (cnt seen):=(hM.alloc _).below hb2 (by have:=hM.lt;simp;omega);have x0:w2.cell? ⟨wr.heap.size,0,none⟩ = some (.int .i64 st):=(hb2.cell (by simp)).trans (by simp);have x2:w2.cell? ⟨wr.heap.size,2,none⟩ = some (.int .i64 sq):=(hb2.cell (by simp)).trans (by simp);clear hb2 hM hb c0 c1 c2 c3 c4;by_cases hpo:zn ⟨st,⟨kd,sq,ad,vl⟩⟩ = true
           . by_cases hst:st = 1
             . subst hst;have hsq:1 ≤ sq∧sq ≤ 600:=by unfold zn xj at hpo;simp at hpo;exact ⟨hpo.2.1,hpo.2.2.1⟩
               obtain ⟨hs1,hs2⟩:=hsq;have hwf:(Lit.int .i64 sq).wf = true:=WalkArith.wf_i64 (by omega);have hlook:=hM2.look Tryz.underlying101 Tryz.underlying3 Tryz.underlying3 zna hwf;have hcs:=hcn sq;by_cases hin:sq ∈ seen
               . have hpos:0 < cnt seen sq:=zmx.2 hin;have hstep:Hid (ze f = false):=by rw [Hid,hg.out,hd.out,kz,hpo,if_neg (by simp),if_neg (by simp),if_pos hin]
                 clear hcn hg hd;go_wp2;go_ret;exact ⟨zg hstep.out.symm,hB2⟩
               have hz : cnt seen sq = 0 := by have := mt zmx.1 hin; have : 0 ≤ cnt seen sq := by unfold cnt; omega
                                               omega
               rw [hz] at hlook;have hstep:Hid (ze f = kz (sq :: seen) (fun s=>ka s (f.drop (k + 1))) (Ps.drop (j + 1))):=by rw [Hid,hg.out,hd.out,kz,hpo,if_neg (by simp),if_neg (by simp),if_neg hin]
               obtain ⟨w3,hput,hM3,hg3⟩:=hM2.put (k:=sq) (v:=1) Tryz.underlying101 Tryz.underlying3 Tryz.underlying3 (by unfold maxLen;omega) hwf (by decide);have hB3:Below w.heap.size w w3:=hB2.grown hg3 hB2.size (by intro g e;cases e;omega);have hM4:IMap Tryz.prog 3 3 w3 w.heap.size (4 * k + (j + 1)) (cnt (sq :: seen)):=by
                have e:(fun x=>if x = sq then (1:Int) else cnt seen x) = cnt (sq :: seen):=by
                 funext x;unfold cnt at hz ⊢;rw [List.count_cons];by_cases hx:x = sq
                 . subst hx;simp;omega
                 rw [if_neg hx,if_neg (by simpa using fun h=>hx h.symm)];simp
                rw [← e];exact hM3
               have hcn':∀ x,cnt (sq :: seen) x ≤ 4 * k + (j + 1):=by
                intro x;have:=hcn x;unfold cnt at *;rw [List.count_cons];split <;> omega
               have HC:=Lib.hid hcn';clear hcn hcn' hg hd hM3 hg3 hM2 hB2 hz hin;go_wp2;go_roundw
               case rel=>exact ⟨j + 1,_,by omega,by go_num,hB3,hM4,HC.out,hstep⟩
               case measure=>simp [intOf];omega
             have hstep:Hid (ze f = kz seen (fun s=>ka s (f.drop (k + 1))) (Ps.drop (j + 1))):=by rw [Hid,hg.out,hd.out,kz,hpo,if_neg (by simp),if_pos (by simpa using hst)]
             have HC:=Lib.hid hcn;clear hg hd hcn;go_wp2;go_roundw
             case rel=>exact ⟨j + 1,seen,by omega,by go_num,hB2,hM2.mono (by omega),by intro x;have:=HC.out x;omega,hstep⟩
             case measure=>simp [intOf];omega
           go_wp2;go_ret;exact ⟨zg (by rw [hg.out,hd.out,kz,if_pos (by simpa using hpo)]),hB2⟩
         obtain rfl:j = 4:=by omega
         have hstep:Hid (ze f = ka seen (f.drop (k + 1))):=by rw [Hid,hg.out,show Ps.drop 4 = [] from List.drop_of_length_le (by have:=HL.out;omega)];rfl
         have HC:=Lib.hid hcn;clear hcn hg;go_wp2;go_roundw
         case rel=>exact ⟨k + 1,seen,by omega,by go_num,hb,hM.mono (by omega),by intro x;have:=HC.out x;omega,hstep⟩
         case measure=>simp [intOf];omega
      go_wp2;go_ret;exact ⟨zg (by rw [hg.out,hd.out,ka,if_pos (by simpa using hbs)]),hB1⟩
    go_wp2;go_ret;obtain rfl:k = 4:=by omega
    exact ⟨zg (by rw [hg.out,List.drop_of_length_le (by have:=HN.out;omega)];rfl),hb⟩
 have hfin:Hid (ze f = false):=by unfold Hid ze;simp;omega
 go_enter Tryz.func29,Tryz.ntmps29
 go_wp2;go_ret;exact ⟨zg hfin.out.symm,Below.refl _ _⟩
end
section
open Go.Conc Go.ConcN Go.ConcR.Gen Go.RowKit
def wSum (f:List Bk):Int:=f.foldl (fun a b=>a + b.worn) 0
theorem yy {f:List Bk} (h:ze f = true):f.length = 4∧∀ b ∈ f,b.pages.length = 4∧0 ≤ b.worn∧b.worn ≤ 200:=⟨zh h,zo h⟩
theorem kl (P:Program) (w:World) (es:Array Event) (ts:Array TypeId) (t:TypeId) (k k':IntKind) (x y:Int):(Builtin.min_ ts t #[.int k x, .int k' y]).events P w es = es:=by simp [Builtin.min_,Builtin.min2]
theorem km (P:Program) (w:World) (es:Array Event) (ts:Array TypeId) (t:TypeId) (k k':IntKind) (x y:Int):(Builtin.max_ ts t #[.int k x, .int k' y]).events P w es = es:=by simp [Builtin.max_,Builtin.max2]
section
variable {f:List Bk} {k:Nat}
theorem zil (g:Bk->Int) (m:Int):∀ (l:List Bk) (a:Int),(∀ b ∈ l,0 ≤ g b∧g b ≤ m)->a ≤ l.foldl (fun a b=>a + g b) a∧l.foldl (fun a b=>a + g b) a ≤ a + m * l.length
 | [],a,_=>by simp
 | b :: l, a, hb => by
   rw [List.foldl_cons];have h0:=hb b (by simp);have:=zil g m l (a + g b) (fun x hx=>hb x (by simp [hx]));simp only [List.length_cons];have e:m * ((l.length + 1:Nat):Int) = m * (l.length:Int) + m:=by rw [Int.natCast_add,Int.mul_add];simp
   rw [e];omega
theorem znl (h:ze f = true):(f.take k).length ≤ 4:=by rw [List.length_take,(yy h).1];omega
theorem zjc (h:ze f = true):0 ≤ wSum (f.take k)∧wSum (f.take k) ≤ 800:=by
 have:=zil (fun b=>b.worn) 200 (f.take k) 0 fun b hb=>((yy h).2 b (List.mem_of_mem_take hb)).2;have:=znl (k:=k) h;unfold wSum;omega
end
structure Wk (Gd:Nat->Option (Nat × Nat)) (SB A:Nat->Prop) (w0 w1:World) (C:Nat) (f:List Bk) (w:World):Prop where
 co:Co (good Gd) SB A w0 w
 bel:Bel w1 w
 cells:w.heap[C]? = some (.cells (Xo f).toArray 58)
 inA:A C
section
variable {Gd:Nat->Option (Nat × Nat)} {SB A:Nat->Prop} {w0 w1 w:World} {C:Nat} {f:List Bk} {Post:Value->World->Prop} {cc:Frame} {rest:List Frame} {V:Nat} {cs:Array Value}
theorem Wk.tp (w:World) (T:Nat->Question->Nat) (d:Nat) (h:Wk Gd SB A w0 w1 C f w):Wk Gd SB A w0 w1 C f (tp0 w T d):=⟨h.co.tp T d,⟨h.bel.os,h.bel.output,h.bel.size,h.bel.block⟩,h.cells,h.inA⟩
theorem Wk.nsb (h:Wk Gd SB A w0 w1 C f w):¬ SB C:=fun x=>(h.co.away C x).1 h.inA
theorem Wk.lt (h:Wk Gd SB A w0 w1 C f w):C < w.heap.size:=h.co.lt h.inA
theorem Wk.cell (h:Wk Gd SB A w0 w1 C f w) {k:Nat} {b:Bk} (hb:f[k]? = some b):w.cell? ⟨C,k * 2,none⟩ = some (.int .i64 b.worn)∧w.cell? ⟨C,k * 2 + 1,none⟩ = some (.int .i64 (tornN b.pages:Int)):=by
 have g:=fun j hj=>yn (fun b:Bk=>[Value.int .i64 b.worn, .int .i64 (tornN b.pages:Int)]) 2 (fun _=>rfl) f k j b hb hj;have g0:=g 0 (by omega);have g1:=g 1 (by omega);constructor
 . simp only [World.cell?,h.cells,Xo];simpa using g0
 simp only [World.cell?,h.cells,Xo];simpa using g1
theorem Wk.push (h:Wk Gd SB A w0 w1 C f w) (o:Obj):Wk Gd SB A w0 w1 C f { w with heap:=w.heap.push o } :=
 ⟨h.co.push o,h.bel.trans ⟨rfl,rfl,by simp,fun b hb=>getElem?_push_old _ _ hb⟩,(getElem?_push_old _ _ h.lt).trans h.cells,h.inA⟩
structure Nw (Gd:Nat->Option (Nat × Nat)) (SB A:Nat->Prop) (w0 w1:World) (C:Nat) (f:List Bk) (V:Nat) (cs:Array Value) (w:World):Prop where
 wk:Wk Gd SB A w0 w1 C f w
 var:w.heap[V]? = some (.cells cs 58)
 lt:V < w.heap.size
 non:¬ A V
 ge0:w0.heap.size ≤ V
 ge1:w1.heap.size ≤ V
 nsb:¬ SB V
theorem Nw.tp (w:World) (T:Nat->Question->Nat) (d:Nat) (h:Nw Gd SB A w0 w1 C f V cs w):Nw Gd SB A w0 w1 C f V cs (tp0 w T d):=⟨h.wk.tp _ T d,h.var,h.lt,h.non,h.ge0,h.ge1,h.nsb⟩
theorem Nw.cell (h:Nw Gd SB A w0 w1 C f V cs w) (j:Nat):w.cell? ⟨V,j,none⟩ = cs[j]?:=by simp [World.cell?,h.var]
theorem Nw.thaw (h:Nw Gd SB A w0 w1 C f V cs w) (j:Nat):w.frozen? ⟨V,j,none⟩ = false:=by simp [World.frozen?,h.var]
theorem Nw.set (h:Nw Gd SB A w0 w1 C f V cs w) (j:Nat) (v:Value):Nw Gd SB A w0 w1 C f V (cs.setIfInBounds j v) (w.setCell ⟨V,j,none⟩ v):=by
 have hs:(w.setCell ⟨V,j,none⟩ v).heap.size = w.heap.size:=by simp [World.setCell]
 have hC:C ≠ V:=fun e=>h.non (e ▸ h.wk.inA);exact ⟨⟨h.wk.co.setCell j v h.non h.ge0,h.wk.bel.more hs rfl rfl fun b hb=>Below.heap_setCell _ ⟨V,j,none⟩ v b (by have:=h.ge1;show b ≠ V;omega),(Below.heap_setCell _ ⟨V,j,none⟩ v C hC).trans h.wk.cells,h.wk.inA⟩,yk h.var,by rw [hs];exact h.lt,h.non,h.ge0,h.ge1,h.nsb⟩
end
end
section
open Go.RowKit
def RRow (w:World) (A:Option Addr) (vs:List Value):Prop:=vs ≠ []->∃ b o,A = some ⟨b,o,none⟩∧∀ j u,vs[j]? = some u->w.cell? ⟨b,o + j,none⟩ = some u
theorem RRow.below {w w':World} {A:Option Addr} {vs:List Value} {B:Nat} (h:RRow w A vs) (hb:Below B w w') (hB:w.heap.size ≤ B):RRow w' A vs:=fun hn=>by
 obtain ⟨b,o,rfl,hc⟩:=h hn;exact ⟨b,o,rfl,fun j u hj=>(hb.cell (p:=⟨b,o + j,none⟩) (by have:=zd (hc j u hj);show b < B;omega)).trans (hc j u hj)⟩
theorem RRow.alloc {w:World} {A:Option Addr} {vs:List Value} (h:RRow w A vs) (o:Obj):RRow (w.alloc o) A vs:=h.below ((Below.refl _ _).alloc nl o) nl
theorem RRow.addr {w:World} {A:Option Addr} {vs:List Value} (h:RRow w A vs) (hn:vs ≠ []):∃ b o,A = some ⟨b,o,none⟩:=by
 obtain ⟨b,o,rfl,_⟩:=h hn;exact ⟨b,o,rfl⟩
theorem RRow.pg {w:World} {b o k:Nat} {ps:List Pg} {p:Pg} (h:RRow w (some ⟨b,o,none⟩) (pgs ps)) (hk:ps[k]? = some p) :
 w.cell? ⟨b,o + k * 5,none⟩ = some (.int .i64 p.state)∧w.cell? ⟨b,o + k * 5 + 1,none⟩ = some (.int .i64 p.rc.kind)∧w.cell? ⟨b,o + k * 5 + 2,none⟩ = some (.int .i64 p.rc.seq) ∧
  w.cell? ⟨b,o + k * 5 + 3,none⟩ = some (.int .i64 p.rc.addr)∧w.cell? ⟨b,o + k * 5 + 4,none⟩ = some (.int .i64 p.rc.val):=by
 have hlt:=(List.getElem?_eq_some_iff.1 hk).1;obtain ⟨b',o',he,hc⟩:=h (by intro e;have:=qh ps;rw [e] at this;simp at this;omega);cases he;have hg:∀ j u,p.vs[j]? = some u->j < 5->w.cell? ⟨b,o + (k * 5 + j),none⟩ = some u:=fun j u hj hl=>hc (k * 5 + j) u (by rw [pgs,yn _ 5 (fun _=>rfl) ps k j p hk hl];exact hj);exact ⟨hg 0 _ rfl (by omega),hg 1 _ rfl (by omega),hg 2 _ rfl (by omega),hg 3 _ rfl (by omega),hg 4 _ rfl (by omega)⟩
structure RBks (w:World) (A:Option Addr) (f:List Bk) (hs:List (Option Addr × Nat)):Prop where
 len:hs.length = f.length
 row:RRow w A (hdrs f hs)
 pg:∀ (i:Nat) (b:Bk) (x:Option Addr × Nat),f[i]? = some b->hs[i]? = some x->RRow w x.1 (pgs b.pages)
theorem RBks.below {w w':World} {A:Option Addr} {f:List Bk} {hs:List (Option Addr × Nat)} {B:Nat} (h:RBks w A f hs) (hb:Below B w w') (hB:w.heap.size ≤ B):RBks w' A f hs :=
 ⟨h.len,h.row.below hb hB,fun i b x h1 h2=>(h.pg i b x h1 h2).below hb hB⟩
theorem RBks.addr {w:World} {A:Option Addr} {f:List Bk} {hs:List (Option Addr × Nat)} (h:RBks w A f hs) (hn:f ≠ []):∃ b o,A = some ⟨b,o,none⟩ :=
 h.row.addr (by
  intro e;have hl:=Xc f hs h.len;rw [e] at hl;exact hn (List.eq_nil_of_length_eq_zero (by simp at hl;omega)))
theorem RBks.at_ {w:World} {g o i:Nat} {f:List Bk} {hs:List (Option Addr × Nat)} {b:Bk} (h:RBks w (some ⟨g,o,none⟩) f hs) (hi:f[i]? = some b) :
 ∃ x,hs[i]? = some x∧w.cell? ⟨g,o + i * 2,none⟩ = some (.slice x.1 b.pages.length x.2)∧w.cell? ⟨g,o + i * 2 + 1,none⟩ = some (.int .i64 b.worn)∧RRow w x.1 (pgs b.pages):=by
 have hlt:=(List.getElem?_eq_some_iff.1 hi).1;obtain ⟨x,hx⟩:=zc (l:=hs) (k:=i) (by rw [h.len];exact hlt);obtain ⟨g1,g2⟩:=Qq f hs i b x hi hx;obtain ⟨b',o',he,hc⟩:=h.row (by intro e;rw [e] at g1;simp at g1);cases he;exact ⟨x,hx,hc _ _ g1,hc _ _ g2,h.pg i b x hi hx⟩
end
section
open Go.RowKit Go.Maps
theorem zo6 (a b:Nat) (ha:a < 9223372036854775808) (hb:b < 9223372036854775808):bits .xor .i64 (a:Int) (b:Int) = ((a ^^^ b:Nat):Int):=by
 have hx:a ^^^ b < 2 ^ 63:=Nat.xor_lt_two_pow (by omega) (by omega);have h1:(BitVec.ofInt 64 (a:Int)).toNat = a:=by
  rw [BitVec.ofInt_natCast,BitVec.toNat_ofNat];exact Nat.mod_eq_of_lt (by omega)
 have h2:(BitVec.ofInt 64 (b:Int)).toNat = b:=by
  rw [BitVec.ofInt_natCast,BitVec.toNat_ofNat];exact Nat.mod_eq_of_lt (by omega)
 show IntKind.i64.wrap ((BitVec.ofInt 64 (a:Int) ^^^ BitVec.ofInt 64 (b:Int)).toNat:Int) = _;rw [BitVec.toNat_xor,h1,h2];exact IntWalk.i64_in _ (by omega)
def bytes (bs:List Nat):List Value:=bs.map fun (b:Nat)=>Value.int .u8 (b:Int)
def Rd (w:World) (B R m:Nat):Prop :=
 ∃ (A : Option Addr) (bs : List Nat) (c p : Nat), w.cell? ⟨R, 0, none⟩ = some (.slice A bs.length c) ∧ w.cell? ⟨R, 1, none⟩ = some (.int .i64 p) ∧ w.frozen? ⟨R, 1, none⟩ = false ∧ p ≤ m ∧ bs.length ≤ 2000 ∧ (∀ b ∈ bs, b < 256) ∧
   RRow w A (bytes bs)∧(bs ≠ []->∀ b,blk A b->b < B)∧B ≤ R
theorem Rd.lt {w:World} {B R m:Nat} (h:Rd w B R m):R < w.heap.size:=by obtain ⟨A,bs,c,p,h1,_⟩:=h;exact zd h1
theorem Rd.le {w:World} {B R m:Nat} (h:Rd w B R m):B ≤ R:=by obtain ⟨A,bs,c,p,_,_,_,_,_,_,_,_,h⟩:=h;exact h
theorem Rd.mono {w:World} {B R m n:Nat} (h:Rd w B R m) (hm:m ≤ n):Rd w B R n:=by
 obtain ⟨A,bs,c,p,h1,h2,h3,h4,h5⟩:=h;exact ⟨A,bs,c,p,h1,h2,h3,by omega,h5⟩
theorem zea {bs:List Nat} (h:bytes bs ≠ []):bs ≠ []:=fun e=>h (by rw [e];rfl)
theorem znx {bs:List Nat} (h:bs ≠ []):bytes bs ≠ []:=fun e=>h (by simpa [bytes] using e)
theorem RRow.low {w:World} {A:Option Addr} {bs:List Nat} (h:RRow w A (bytes bs)) (hn:bs ≠ []):∀ b,blk A b->b < w.heap.size:=fun b hb=>by
 obtain ⟨b',o,rfl,hc⟩:=h (znx hn);rw [zf] at hb;subst hb;cases bs with
 | nil=>exact absurd rfl hn
 | cons x bs=>exact zd (hc 0 _ rfl)
theorem RRow.keep {w w':World} {A:Option Addr} {vs:List Value} (h:RRow w A vs) (hk:vs ≠ []->∀ b,blk A b->b < w.heap.size->w'.heap[b]? = w.heap[b]?):RRow w' A vs:=fun hn=>by
 replace hk:=hk hn;obtain ⟨b,o,rfl,hc⟩:=h hn;refine ⟨b,o,rfl,fun j u hj=>?_⟩;have h1:=hc j u hj;exact (World.cell?_of_block (a:=⟨b,o + j,none⟩) (hk b (zf.2 rfl) (zd h1))).trans h1
theorem Rd.keep {w w':World} {B R m:Nat} (h:Rd w B R m) (hk:∀ b,b = R∨b < B->b < w.heap.size->w'.heap[b]? = w.heap[b]?):Rd w' B R m:=by
 obtain ⟨A,bs,c,p,h1,h2,h3,h4,h5,h6,h7,h8,h9⟩:=h;have hR:=hk R (.inl rfl) (zd h1);exact ⟨A,bs,c,p,(World.cell?_of_block (a:=⟨R,0,none⟩) hR).trans h1,(World.cell?_of_block (a:=⟨R,1,none⟩) hR).trans h2,(World.frozen?_of_block (a:=⟨R,1,none⟩) hR).trans h3,h4,h5,h6,h7.keep fun hn b hb hl=>hk b (.inr (h8 (zea hn) b hb)) hl,h8,h9⟩
theorem Rd.agr {w w':World} {B R m:Nat} {S:Nat->Prop} (h:Rd w B R m) (ha:Agr S w w') (h1:¬ S R) (h2:∀ b,b < B->¬ S b):Rd w' B R m :=
 h.keep fun b hb hl=>ha.block b hl (by rcases hb with rfl | hb;exact h1;exact h2 b hb)
theorem Rd.below {w w':World} {B R m C:Nat} (h:Rd w B R m) (hb:Below C w w') (hC:w.heap.size ≤ C):Rd w' B R m :=
 h.keep fun b _ hl=>hb.block b (by omega)
theorem Rd.alloc {w:World} {B R m:Nat} (h:Rd w B R m) (o:Obj):Rd (w.alloc o) B R m:=h.below (C:=w.heap.size) ((Below.refl _ _).alloc nl _) nl
theorem Rd.drew {w:World} {B R m:Nat} (h:Rd w B R m):Rd w.drew B R m:=h.keep fun _ _ _=>rfl
theorem Rd.drewN {w:World} {B R m:Nat} (h:Rd w B R m) (n:Nat):Rd (w.drewN n) B R m:=h.keep fun _ _ _=>rfl
theorem zgr (A:Option Addr) (bs:List Nat) (c:Nat) (w:World) (hbc:bs.length ≤ c) (hc:c ≤ 9223372036854775807) (hb:∀ b ∈ bs,b < 256) (hA:RRow w A (bytes bs)) :
 Calls Tryz.prog 20 #[.slice A bs.length c] w fun e w'=>e = .returned (.pointer (some ⟨w.heap.size,0,none⟩))∧Rd w' w.heap.size w.heap.size 0∧Below w.heap.size w w':=by
 have key:∀ (bs':List Nat) (c':Nat),(bs' ≠ []->bs ≠ [])->bs'.length ≤ 2000->(∀ b ∈ bs',b < 256)->RRow w A (bytes bs')->Rd (w.alloc (.cells #[.slice A bs'.length c', .int .i64 0] 91)) w.heap.size w.heap.size 0:=fun bs' c' h0 h1 h2 h3 =>
  ⟨A,bs',c',0,by simp,by simp,by simp,Nat.le_refl _,h1,h2,h3.alloc _,fun hn=>hA.low (h0 hn),Nat.le_refl _⟩
 by_cases hl:bs.length ≤ 2000
 . have hk:=key bs c id hl hb hA
   go_enter Tryz.func20,Tryz.ntmps20
   go_wp2;go_ret;exact ⟨rfl,hk,bw⟩
 have hk:=key (bs.take 2000) c (fun h e=>h (by rw [e];rfl)) (by simp;omega) (fun b h=>hb b (List.mem_of_mem_take h)) (fun hn=>by
  have hne:bytes bs ≠ []:=by
   intro e;have:bs = []:=by simpa [bytes] using e
   exact hn (by rw [this];simp [bytes])
  obtain ⟨b,o,rfl,hcl⟩:=hA hne;refine ⟨b,o,rfl,fun j u hj=>hcl j u ?_⟩;rw [bytes,List.map_take] at hj;rw [List.getElem?_take] at hj;split at hj
  . exact hj
  cases hj)
 have hl2:(2000:Int) ≤ bs.length:=by omega
 have hl3:(2000:Int) < bs.length:=by omega
 rw [show (bs.take 2000).length = 2000 by simp;omega] at hk
 go_enter Tryz.func20,Tryz.ntmps20
 go_wp2;go_ret;exact ⟨rfl,hk,bw⟩
theorem zht {w:World} {b o k:Nat} {bs:List Nat} {x:Nat} (h:RRow w (some ⟨b,o,none⟩) (bytes bs)) (hk:bs[k]? = some x):w.cell? ⟨b,o + k,none⟩ = some (.int .u8 (x:Int)):=by
 have hlt:=(List.getElem?_eq_some_iff.1 hk).1;obtain ⟨b',o',he,hc⟩:=h (by
  intro e;have:bs = []:=by simpa [bytes] using e
  subst this;simp at hk)
 cases he;exact hc k _ (by simp [bytes,hk])
theorem J4 {x n:Nat} (h:1 ≤ n):x % n < n:=Nat.mod_lt _ h
theorem zk3 (n B R m:Nat) (w:World) (hn:1 ≤ n) (hn2:n ≤ 1000000) (hm:m ≤ 1000000) (hR:Rd w B R m) :
 Calls Tryz.prog 22 #[.pointer (some ⟨R,0,none⟩), .int .i64 n] w fun e w'=>∃ k:Nat,e = .returned (.int .i64 k)∧k < n∧Rd w' B R (m + 1)∧Agr (· = R) w w':=by
 obtain ⟨A,bs,c,p,h0,h1,h2,h3,h4,h5,h6,h7,h8⟩:=hR;have hRl:=zd h0;have hW:=zq h1 (.int .i64 (p + 1));have hA:Agr (· = R) w (w.setCell ⟨R,1,none⟩ (.int .i64 (p + 1))):=hW.agr;have g0:(w.setCell ⟨R,1,none⟩ (.int .i64 (p + 1))).cell? ⟨R,0,none⟩ = some (.slice A bs.length c):=(hW.old_ 0 (by omega)).trans h0;have g1:(w.setCell ⟨R,1,none⟩ (.int .i64 (p + 1))).cell? ⟨R,1,none⟩ = some (.int .i64 ((p + 1:Nat):Int)):=hW.new_ 0 _ rfl;have hRd:Rd (w.setCell ⟨R,1,none⟩ (.int .i64 (p + 1))) B R (m + 1) :=
  ⟨A,bs,c,p + 1,g0,g1,(hW.frozen _).trans h2,by omega,h4,h5,h6.keep fun hn b hb hl=>hA.block b hl (by have:=h7 (zea hn) b hb;omega),h7,h8⟩
 have hrow:RRow (w.setCell ⟨R,1,none⟩ (.int .i64 (p + 1))) A (bytes bs):=h6.keep fun hn b hb hl=>hA.block b hl (by have:=h7 (zea hn) b hb;omega);clear hW;have e1:IntKind.i64.wrap ((p:Int) + 1) = (p:Int) + 1:=IntWalk.i64_in _ (by omega);have g1':(w.setCell ⟨R,1,none⟩ (.int .i64 (p + 1))).cell? ⟨R,1,none⟩ = some (.int .i64 ((p:Int) + 1)):=by rw [g1];rfl
 clear g1;by_cases hb0:bs.length = 0
 . have hnil:bs = []:=List.length_eq_zero_iff.1 hb0;subst hnil;clear hrow hb0
   go_enter Tryz.func22,Tryz.ntmps22
   go_wp2;go_ret;exact ⟨0,rfl,by omega,hRd,hA⟩
 have hbe:((bs.length:Int) == 0) = false:=by rw [beq_eq_false_iff_ne];omega
 have hn1:¬ (n:Int) < 1:=by omega
 by_cases hlt:p < bs.length
 . obtain ⟨x,hx⟩:=zc hlt;obtain ⟨b,o,rfl⟩:∃ b o,A = some ⟨b,o,none⟩:=h6.addr (by
    intro e;have:bs = []:=by simpa [bytes] using e
    rw [this] at hlt;simp at hlt)
   have hbR:b < R:=by have:=h7 (by rintro rfl;simp at *) b (zf.2 rfl);omega
   have hc:=zht h6 hx;have hx2:=h5 x (List.mem_of_getElem? hx);have hpl:(p:Int) < bs.length:=by omega
   have hmod:((x:Int).tmod (n:Int)) = ((x % n:Nat):Int):=by rw [Int.tmod_eq_emod_of_nonneg (by omega)];rfl
   have hk:=J4 (x:=x) hn;clear hrow;have HX:=Lib.hid hx;have HM:=Lib.hid hmod;clear hx hmod
   go_enter Tryz.func22,Tryz.ntmps22
   go_wp2;go_ret;exact ⟨x % n,qg (by simp),hk,hRd,hA⟩
 obtain ⟨b,o,rfl⟩:∃ b o,A = some ⟨b,o,none⟩:=h6.addr (by
  intro e;have:bs = []:=by simpa [bytes] using e
  rw [this] at hb0;simp at hb0)
 have hbR:b < R:=by have:=h7 (by rintro rfl;simp at *) b (zf.2 rfl);omega
 have hL0:1 ≤ bs.length:=by omega
 obtain ⟨x,hx⟩:=zc (J4 (x:=p) hL0);obtain ⟨y,hy⟩:=zc (J4 (x:=p * 7 + 3) hL0);have hc:=zht h6 hx;have hc':=zht h6 hy;have hx2:=h5 x (List.mem_of_getElem? hx);have hy2:=h5 y (List.mem_of_getElem? hy);have hpl:(bs.length:Int) ≤ p:=by omega
 have hL1:(1:Int) ≤ bs.length:=by omega
 have hdl:p / bs.length ≤ p:=Nat.div_le_self _ _;have m1:=J4 (x:=p) hL0;have m2:=J4 (x:=p * 7 + 3) hL0;have v1:(p:Int).tmod (bs.length:Int) = ((p % bs.length:Nat):Int):=by rw [Int.tmod_eq_emod_of_nonneg (by omega)];rfl
 have v2:((p:Int) * 7 + 3).tmod (bs.length:Int) = (((p * 7 + 3) % bs.length:Nat):Int):=by rw [Int.tmod_eq_emod_of_nonneg (by omega)];rfl
 have v3:(p:Int).tdiv (bs.length:Int) = ((p / bs.length:Nat):Int):=by rw [Int.tdiv_eq_ediv_of_nonneg (by omega)];rfl
 generalize p / bs.length = q at *;generalize p % bs.length = q1 at *;generalize (p * 7 + 3) % bs.length = q2 at *;have n1:(q1:Int) < bs.length:=by omega
 have n2:(q2:Int) < bs.length:=by omega
 have w1:IntKind.i64.wrap ((p:Int) * 7) = (p:Int) * 7:=IntWalk.i64_in _ (by omega);have w2:IntKind.i64.wrap ((p:Int) * 7 + 3) = (p:Int) * 7 + 3:=IntWalk.i64_in _ (by omega);have w3:IntKind.i64.wrap ((x:Int) * 131) = (x:Int) * 131:=IntWalk.i64_in _ (by omega);have w4:IntKind.i64.wrap ((y:Int) * 1117) = (y:Int) * 1117:=IntWalk.i64_in _ (by omega);have w5:IntKind.i64.wrap ((x:Int) * 131 + (y:Int) * 1117) = (x:Int) * 131 + (y:Int) * 1117:=IntWalk.i64_in _ (by omega);have w6:IntKind.i64.wrap ((p:Int) * 29) = (p:Int) * 29:=IntWalk.i64_in _ (by omega);have w7:IntKind.i64.wrap ((x:Int) * 131 + (y:Int) * 1117 + (p:Int) * 29) = (x:Int) * 131 + (y:Int) * 1117 + (p:Int) * 29:=IntWalk.i64_in _ (by omega);have w8:IntKind.i64.wrap ((q:Int) * 53) = (q:Int) * 53:=IntWalk.i64_in _ (by omega);have w9:IntKind.i64.wrap ((x:Int) * 131 + (y:Int) * 1117 + (p:Int) * 29 + (q:Int) * 53) = (x:Int) * 131 + (y:Int) * 1117 + (p:Int) * 29 + (q:Int) * 53:=IntWalk.i64_in _ (by omega);clear hx hy
 go_enter Tryz.func22,Tryz.ntmps22
 go_wp2;go_quiet (fail);obtain ⟨X,hX,hXl⟩:∃ X:Nat,(x:Int) * 131 + (y:Int) * 1117 + (p:Int) * 29 + (q:Int) * 53 = (X:Int)∧X < 1000000000000:=⟨x * 131 + y * 1117 + p * 29 + q * 53,by simp,by omega⟩;rw [hX];clear hX w1 w2 w3 w4 w5 w6 w7 w8 w9 v1 v2 v3;have hx1:bits .xor .i64 (X:Int) ((X:Int) / 64) = ((X ^^^ X / 64:Nat):Int):=zo6 X (X / 64) (by omega) (by omega);have hx2:bits .xor .i64 (X:Int) ((X:Int).tdiv 64) = ((X ^^^ X / 64:Nat):Int):=by rw [Int.tdiv_eq_ediv_of_nonneg (by omega)];exact hx1
 generalize X ^^^ X / 64 = z at *;have hk:=J4 (x:=z) hn;have hmod:((z:Int).tmod (n:Int)) = ((z % n:Nat):Int):=by rw [Int.tmod_eq_emod_of_nonneg (by omega)];rfl
 have HM:=Lib.hid hmod;clear hmod;go_wp2;go_ret;exact ⟨z % n,qg (by simp),hk,hRd.drewN _,hA.drewN _⟩
end
section
open Go.RowKit Go.Maps
theorem yt {w:World} {b o k:Nat} {ps:List Pg} {q:Pg} (h:Row w (some ⟨b,o,none⟩) (pgs ps)) (hk:ps[k]? = some q) (p:Pg) :
 xt w (((((w.setCell ⟨b,o + k * 5,none⟩ (.int .i64 p.state)).setCell ⟨b,o + k * 5 + 1,none⟩ (.int .i64 p.rc.kind)).setCell ⟨b,o + k * 5 + 2,none⟩ (.int .i64 p.rc.seq)).setCell ⟨b,o + k * 5 + 3,none⟩ (.int .i64 p.rc.addr)).setCell ⟨b,o + k * 5 + 4,none⟩ (.int .i64 p.rc.val)) b (o + k * 5) p.vs:=by
 refine zp b p.vs (o + k * 5) w fun j hj=>?_;obtain ⟨c0,c1,c2,c3,c4⟩:=h.pg hk
 match j,hj with
 | 0,_=>exact ⟨_,c0⟩
 | 1,_=>exact ⟨_,c1⟩
 | 2,_=>exact ⟨_,c2⟩
 | 3,_=>exact ⟨_,c3⟩
 | 4,_=>exact ⟨_,c4⟩
theorem Row.setPage {w w':World} {b o k:Nat} {ps:List Pg} {p:Pg} (h:Row w (some ⟨b,o,none⟩) (pgs ps)) (hk:k < ps.length) (hw:xt w w' b (o + k * 5) p.vs):Row w' (some ⟨b,o,none⟩) (pgs (ps.set k p)):=by
 rw [zg1 ps k p hk];exact hw.row h (by rw [qh];simp [Pg.vs];omega)

theorem za2 {α:Type} (p:α) (old:List α) (k:Nat) (h:k < old.length):(List.replicate k p ++ old.drop k).set k p = List.replicate (k + 1) p ++ old.drop (k + 1):=by
 rw [List.set_append_right _ _ (by simp),List.length_replicate,Nat.sub_self,List.drop_eq_getElem_cons h,List.set_cons_zero,List.replicate_succ'];simp
theorem zly (b:Nat) (old:List Pg) (p:Pg) (w:World) (hl:old.length = 4) (hR:Row w (some ⟨b,0,none⟩) (pgs old)) :
 Calls Tryz.prog 118 #[.pointer (some ⟨b,0,none⟩), .agg #[.int .i64 p.state, .int .i64 p.rc.kind, .int .i64 p.rc.seq, .int .i64 p.rc.addr, .int .i64 p.rc.val]] w fun e w' =>
  e = .returned (.tuple #[])∧Row w' (some ⟨b,0,none⟩) (pgs (List.replicate 4 p))∧Agr (· = b) w w':=by
 have hbl:b < w.heap.size:=hR.lt (ky (by rintro rfl;simp at hl)) rfl;have HL:=Lib.hid hl;clear hl;obtain ⟨st,⟨kd,sq,ad,vl⟩⟩:=p;dsimp only
 go_enter Tryz.func118,Tryz.ntmps118
 go_wp2
 go_loopw [5] (fun i wr=>∃ (k:Nat),k ≤ 4∧i = .int .i64 k∧Row wr (some ⟨b,0,none⟩) (pgs (List.replicate k ⟨st,⟨kd,sq,ad,vl⟩⟩ ++ old.drop k))∧Agr (· = b) (w.alloc (.cells #[.int .i64 st, .int .i64 kd, .int .i64 sq, .int .i64 ad, .int .i64 vl] 76)) wr) (fun i _=>4 - (intOf i).toNat)
 case atStart=>exact ⟨0,by omega,rfl,by simpa using hR.alloc _,Agr.refl _ _⟩
 case round =>
  obtain ⟨k,hk,rfl,hr,hA⟩:=hrel;by_cases hlt:k < 4
  . have hlen:=HL.out;obtain ⟨q,hq⟩:=zc (l:=List.replicate k (⟨st,⟨kd,sq,ad,vl⟩⟩:Pg) ++ old.drop k) (k:=k) (by simp;omega);have hbox:∀ i,wr.cell? ⟨w.heap.size,i,none⟩ = (w.alloc (.cells #[.int .i64 st, .int .i64 kd, .int .i64 sq, .int .i64 ad, .int .i64 vl] 76)).cell? ⟨w.heap.size,i,none⟩:=fun i =>
     hA.cell (by simp) (by omega) i
    have b0:wr.cell? ⟨w.heap.size,0,none⟩ = some (.int .i64 st):=(hbox 0).trans (by simp);have b1:wr.cell? ⟨w.heap.size,1,none⟩ = some (.int .i64 kd):=(hbox 1).trans (by simp);have b2:wr.cell? ⟨w.heap.size,2,none⟩ = some (.int .i64 sq):=(hbox 2).trans (by simp);have b3:wr.cell? ⟨w.heap.size,3,none⟩ = some (.int .i64 ad):=(hbox 3).trans (by simp);have b4:wr.cell? ⟨w.heap.size,4,none⟩ = some (.int .i64 vl):=(hbox 4).trans (by simp);obtain ⟨c0,c1,c2,c3,c4⟩:=hr.pg hq;obtain ⟨f0,f1,f2,f3,f4⟩:=hr.pgf hq;have hW:=yt hr hq ⟨st,⟨kd,sq,ad,vl⟩⟩;rw [Nat.zero_add] at c0 c1 c2 c3 c4 f0 f1 f2 f3 f4;clear hbox hq hlen;go_wp2
    go_region
    go_wp2;go_roundw
    case rel =>
     refine ⟨k + 1,by omega,by go_num, ?_, ?_⟩
     . have:=hr.setPage (k:=k) (by have:=HL.out;simp;omega) hW;rw [Nat.zero_add,za2 _ _ _ (by have:=HL.out;omega)] at this;exact this.drew
     rw [Nat.zero_add] at hW;exact (hA.trans hW.agr (fun _ _ h=>h)).drew
    case measure=>simp [intOf];omega
  obtain rfl:k = 4:=by omega
  go_wp2
  go_end0
  refine ⟨rfl, ?_, ?_⟩
  . rw [show old.drop 4 = [] from List.drop_of_length_le (by have:=HL.out;omega),List.append_nil] at hr;exact hr
  exact ((Agr.refl _ _).alloc _).trans hA (fun _ _ h=>h)

theorem Y1 (p:Pg) (w:World) :
 Calls Tryz.prog 82 #[.agg #[.int .i64 p.state, .int .i64 p.rc.kind, .int .i64 p.rc.seq, .int .i64 p.rc.addr, .int .i64 p.rc.val]] w fun e w' =>
  ∃ b,e = .returned (.slice (some ⟨b,0,none⟩) 4 4)∧w.heap.size ≤ b∧b < w'.heap.size∧Row w' (some ⟨b,0,none⟩) (pgs (List.replicate 4 p))∧Below w.heap.size w w':=by
 obtain ⟨st,⟨kd,sq,ad,vl⟩⟩:=p;dsimp only
 go_enter Tryz.func82,Tryz.ntmps82
 go_wp2_with fail
 have hb0:Below w.heap.size w ((w.alloc (.cells #[.int .i64 st, .int .i64 kd, .int .i64 sq, .int .i64 ad, .int .i64 vl] 76)).alloc (.cells #[.int .i64 0, .int .i64 0, .int .i64 0, .int .i64 0, .int .i64 0, .int .i64 0, .int .i64 0, .int .i64 0, .int .i64 0, .int .i64 0, .int .i64 0, .int .i64 0, .int .i64 0, .int .i64 0, .int .i64 0, .int .i64 0, .int .i64 0, .int .i64 0, .int .i64 0, .int .i64 0] 165)):=((Below.refl _ _).alloc nl _).alloc (by simp) _;have hsz:∀ (W:World) (o:Obj),(W.alloc o).heap.size = W.heap.size + 1:=fun W o=>by simp
 have hsz2:=Lib.hid (hsz (w.alloc (.cells #[.int .i64 st, .int .i64 kd, .int .i64 sq, .int .i64 ad, .int .i64 vl] 76)) (.cells #[.int .i64 0, .int .i64 0, .int .i64 0, .int .i64 0, .int .i64 0, .int .i64 0, .int .i64 0, .int .i64 0, .int .i64 0, .int .i64 0, .int .i64 0, .int .i64 0, .int .i64 0, .int .i64 0, .int .i64 0, .int .i64 0, .int .i64 0, .int .i64 0, .int .i64 0, .int .i64 0] 165));clear hsz;refine (zly (w.heap.size + 1) (List.replicate 4 ⟨0,rc0⟩) ⟨st,⟨kd,sq,ad,vl⟩⟩ _ rfl ?_).mono ?_
 . have:=Row.new (w.alloc (.cells #[.int .i64 st, .int .i64 kd, .int .i64 sq, .int .i64 ad, .int .i64 vl] 76)) #[.int .i64 0, .int .i64 0, .int .i64 0, .int .i64 0, .int .i64 0, .int .i64 0, .int .i64 0, .int .i64 0, .int .i64 0, .int .i64 0, .int .i64 0, .int .i64 0, .int .i64 0, .int .i64 0, .int .i64 0, .int .i64 0, .int .i64 0, .int .i64 0, .int .i64 0, .int .i64 0] 165;rw [World.size_alloc] at this;exact this
 rintro e w1 ⟨rfl,hR,hA⟩;have hB1:Below w.heap.size w w1:=hb0.trans (hA.below (by simp;omega) (by rintro i rfl;omega));have hs1:w.heap.size + 1 < w1.heap.size:=by have:=hA.size;rw [hsz2.out,World.size_alloc] at this;omega
 clear hA hb0 hsz2;go_wp2;go_ret;exact ⟨_,rfl,by omega,hs1,hR,hB1⟩

theorem zg5 (ps:List Pg):∀ v ∈ pgs ps,v.oneCell' = true:=by
 intro v hv;simp only [pgs,List.mem_flatMap] at hv;obtain ⟨p,_,hp⟩:=hv;simp only [Pg.vs,List.mem_cons,List.not_mem_nil,or_false] at hp;rcases hp with rfl | rfl | rfl | rfl | rfl <;> rfl
theorem Tryz.info_page:(Tryz.prog.info? 76).map (·.size) = some 5:=by kernel_rfl
theorem zbl (A:Option Addr) (c:Nat) (ps:List Pg) (w:World) (hl:ps.length = 4) (hR:Row w A (pgs ps)) :
 Calls Tryz.prog 117 #[.slice A 4 c] w fun e w' =>
  ∃ b,e = .returned (.slice (some ⟨b,0,none⟩) 4 4)∧w.heap.size ≤ b∧b < w'.heap.size∧Row w' (some ⟨b,0,none⟩) (pgs ps)∧Below w.heap.size w w':=by
 obtain ⟨pb,po,rfl⟩:=hR.addr (ky (by rintro rfl;simp at hl));have HL:=Lib.hid hl;clear hl;have hlen:(pgs ps).length = 20:=by rw [qh,HL.out]
 have hR0:Row (w.alloc (.cells #[.int .i64 0, .int .i64 0, .int .i64 0, .int .i64 0, .int .i64 0, .int .i64 0, .int .i64 0, .int .i64 0, .int .i64 0, .int .i64 0, .int .i64 0, .int .i64 0, .int .i64 0, .int .i64 0, .int .i64 0, .int .i64 0, .int .i64 0, .int .i64 0, .int .i64 0, .int .i64 0] 165)) (some ⟨w.heap.size,0,none⟩) (pgs (List.replicate 4 ⟨0,rc0⟩)):=Row.new w #[.int .i64 0, .int .i64 0, .int .i64 0, .int .i64 0, .int .i64 0, .int .i64 0, .int .i64 0, .int .i64 0, .int .i64 0, .int .i64 0, .int .i64 0, .int .i64 0, .int .i64 0, .int .i64 0, .int .i64 0, .int .i64 0, .int .i64 0, .int .i64 0, .int .i64 0, .int .i64 0] _;obtain ⟨b',o',he,hc⟩:=hR0 (by simp [pgs,Pg.vs]);cases he;have hg:∀ j,j < 20->∃ u,(pgs (List.replicate 4 ⟨0,rc0⟩))[j]? = some u:=fun j hj=>zc (by rw [qh];simpa using hj);obtain ⟨b',o',he,hc'⟩:=(hR.alloc (.cells #[.int .i64 0, .int .i64 0, .int .i64 0, .int .i64 0, .int .i64 0, .int .i64 0, .int .i64 0, .int .i64 0, .int .i64 0, .int .i64 0, .int .i64 0, .int .i64 0, .int .i64 0, .int .i64 0, .int .i64 0, .int .i64 0, .int .i64 0, .int .i64 0, .int .i64 0, .int .i64 0] 165)) (by intro e;rw [e] at hlen;simp at hlen);cases he;have hcp:=zb7 (P:=Tryz.prog) (w.alloc (.cells #[.int .i64 0, .int .i64 0, .int .i64 0, .int .i64 0, .int .i64 0, .int .i64 0, .int .i64 0, .int .i64 0, .int .i64 0, .int .i64 0, .int .i64 0, .int .i64 0, .int .i64 0, .int .i64 0, .int .i64 0, .int .i64 0, .int .i64 0, .int .i64 0, .int .i64 0, .int .i64 0] 165)) 97 97 3 76 5 w.heap.size 0 4 4 ⟨pb,po,none⟩ 4 c 4 (pgs ps) Tryz.underlying97 Tryz.info_page rfl hlen
  (fun j v hj=>by rw [Qt];exact (hc' j v hj).1) (fun j hj=>by obtain ⟨u,hu⟩:=hg j (by omega);rw [(hc j u hu).1];rfl) (fun j hj=>by obtain ⟨u,hu⟩:=hg j (by omega);exact (hc j u hu).2) (zg5 ps)
 have hW:=zp w.heap.size (pgs ps) 0 (w.alloc (.cells #[.int .i64 0, .int .i64 0, .int .i64 0, .int .i64 0, .int .i64 0, .int .i64 0, .int .i64 0, .int .i64 0, .int .i64 0, .int .i64 0, .int .i64 0, .int .i64 0, .int .i64 0, .int .i64 0, .int .i64 0, .int .i64 0, .int .i64 0, .int .i64 0, .int .i64 0, .int .i64 0] 165)) (fun j hj=>by obtain ⟨u,hu⟩:=hg j (by omega);exact ⟨u,(hc j u hu).1⟩);obtain ⟨W1,hW1⟩:∃ W1,(w.alloc (.cells #[.int .i64 0, .int .i64 0, .int .i64 0, .int .i64 0, .int .i64 0, .int .i64 0, .int .i64 0, .int .i64 0, .int .i64 0, .int .i64 0, .int .i64 0, .int .i64 0, .int .i64 0, .int .i64 0, .int .i64 0, .int .i64 0, .int .i64 0, .int .i64 0, .int .i64 0, .int .i64 0] 165)).setCells w.heap.size 0 (pgs ps) = W1:=⟨_,rfl⟩;rw [hW1] at hcp hW;have hr1:Row W1 (some ⟨w.heap.size,0,none⟩) (pgs ps):=fun _=>⟨_,_,rfl,fun j u hj=>⟨by have:=hW.new_ j u hj;rw [Nat.zero_add] at this ⊢;exact this,by
  rw [hW.frozen];have hjl:=(List.getElem?_eq_some_iff.1 hj).1;obtain ⟨u',hu'⟩:=hg j (by omega);exact (hc j u' hu').2⟩⟩
 have hs1:w.heap.size < W1.heap.size:=by rw [hW.size,World.size_alloc];omega
 have hB1:Below w.heap.size w W1:=((Below.refl _ _).alloc nl _).trans (hW.agr.below (by simp) (by rintro i rfl;omega));clear hW hW1 hc hc' hg hR0 hlen hR HL
 go_enter Tryz.func117,Tryz.ntmps117
 go_wp2;go_ret;exact ⟨_,rfl,Nat.le_refl _,hs1,hr1,hB1⟩

theorem zhe (w:World):(Instr.makeSlice 25 (.int .i64 4) (.int .i64 4)).run Tryz.prog w = .ok (.slice (some ⟨w.heap.size,0,none⟩) 4 4) (w.alloc (.cells #[.slice none 0 0, .int .i64 0, .slice none 0 0, .int .i64 0, .slice none 0 0, .int .i64 0, .slice none 0 0, .int .i64 0] 99)):=by kernel_rfl
theorem Zu (A:Option Addr) (c:Nat) (f:List Bk) (w:World) (hl:f.length = 4) (hp:∀ b ∈ f,b.pages.length = 4) (hF:Fl w A f) :
 Calls Tryz.prog 81 #[.slice A 4 c] w fun e w' =>
  ∃ g,e = .returned (.slice (some ⟨g,0,none⟩) 4 4)∧OFl w' w.heap.size w'.heap.size (some ⟨g,0,none⟩) f∧Below w.heap.size w w':=by
 obtain ⟨hs,hF⟩:=hF;obtain ⟨bk,off,rfl⟩:=hF.addr (by rintro rfl;simp at hl);have HL:=Lib.hid hl;have HP:=Lib.hid hp;clear hl hp;have hmk:=zhe;have hnew:=Bks.new w 4 99 #[.slice none 0 0, .int .i64 0, .slice none 0 0, .int .i64 0, .slice none 0 0, .int .i64 0, .slice none 0 0, .int .i64 0] rfl;have hB0:Below w.heap.size w (w.alloc (.cells #[.slice none 0 0, .int .i64 0, .slice none 0 0, .int .i64 0, .slice none 0 0, .int .i64 0, .slice none 0 0, .int .i64 0] 99)):=(Below.refl _ _).alloc nl _
 go_enter Tryz.func81,Tryz.ntmps81
 go_wp2
 go_loopw [11] (fun i wr=>∃ (k:Nat) (ks:List (Option Addr × Nat)),k ≤ 4∧i = .int .i64 k∧Below w.heap.size w wr∧w.heap.size < wr.heap.size∧Bks wr (some ⟨w.heap.size,0,none⟩) (f.take k ++ (List.replicate 4 zbk).drop k) ks∧Apt w.heap.size wr.heap.size (some ⟨w.heap.size,0,none⟩) ks) (fun i _=>4 - (intOf i).toNat)
 case atStart=>exact ⟨0,_,by omega,rfl,hB0,by simp,hnew,(Apt.new _ _).mono nl (by simp)⟩
 case round =>
  clear hnew hB0;obtain ⟨k,ks,hk,rfl,hb,hsz,hBk,hApt⟩:=hrel;by_cases hlt:k < 4
  . obtain ⟨B,hB⟩:=zc (l:=f) (k:=k) (by have:=HL.out;omega);have hBl:B.pages.length = 4:=HP.out B (List.mem_of_getElem? hB);obtain ⟨⟨Ap,cp⟩,_,c0,c1,_,_,hR,hlc⟩:=hF.at_ hB;have hbk:bk < w.heap.size:=zd c0;replace c0:=(hb.cell (p:=⟨bk,off + k * 2,none⟩) hbk).trans c0;replace c1:=(hb.cell (p:=⟨bk,off + k * 2 + 1,none⟩) hbk).trans c1;have hRw:=(hR.below hb nl);have HB:=Lib.hid hB;have HBL:=Lib.hid hBl;rw [hBl] at c0;clear hbk hB hR hBl hlc;go_wp2;have hx0:(wr.alloc (.cells #[.slice Ap 4 cp, .int .i64 B.worn] 99)).cell? ⟨wr.heap.size,0,none⟩ = some (.slice Ap 4 cp):=by simp
    have hx1:(wr.alloc (.cells #[.slice Ap 4 cp, .int .i64 B.worn] 99)).cell? ⟨wr.heap.size,1,none⟩ = some (.int .i64 B.worn):=by simp
    have hRW:=hRw.alloc (.cells #[.slice Ap 4 cp, .int .i64 B.worn] 99);have hBW:=hBk.alloc (.cells #[.slice Ap 4 cp, .int .i64 B.worn] 99);have hbW:Below w.heap.size w (wr.alloc (.cells #[.slice Ap 4 cp, .int .i64 B.worn] 99)):=hb.alloc hb.size _;have hsW:(wr.alloc (.cells #[.slice Ap 4 cp, .int .i64 B.worn] 99)).heap.size = wr.heap.size + 1:=by simp
    generalize wr.alloc (.cells #[.slice Ap 4 cp, .int .i64 B.worn] 99) = W at *;have HSW:=Lib.hid hsW;have hne1:¬ (w.heap.size = wr.heap.size):=by omega
    have hne2:¬ (wr.heap.size = w.heap.size):=by omega
    have HG:Hid ((f.take k ++ (List.replicate 4 zbk).drop k)[k]? = some zbk):=by
     have:=HL.out;rw [Hid,List.getElem?_append_right (by simp;omega),List.getElem?_drop,List.getElem?_replicate,if_pos (by simp;omega)]
    clear hsW hRw hBk hb c0 c1
    go_region_held3 (fun w'=>w'.cell? ⟨wr.heap.size,0,none⟩ = some (.slice Ap 4 cp)∧w'.cell? ⟨wr.heap.size,1,none⟩ = some (.int .i64 B.worn)) (go_keep)
     (first | (go_at_call 117;refine (zbl Ap cp B.pages _ HBL.out (by exact hRW)).mono ?_;rintro e w1 ⟨b,rfl,h1,h2,h3,h4⟩;have y0:=(h4.cell (p:=⟨wr.heap.size,0,none⟩) (by have:=HSW.out;simp;omega)).trans hx0;have y1:=(h4.cell (p:=⟨wr.heap.size,1,none⟩) (by have:=HSW.out;simp;omega)).trans hx1;replace h4:=Xr h4;have hBk1:=hBW.below h4 nl;obtain ⟨_,_,z0,z1,z2,z3,_,_⟩:=hBk1.at_ HG.out;rw [Nat.zero_add] at z0 z1 z2 z3))
    have hW:=Qw hBk1 HG.out (.slice (some ⟨b,0,none⟩) 4 4) (.int .i64 B.worn);have hB2:Below w.heap.size w w1:=hbW.trans (h4.mono (by have:=HSW.out;omega));have e1:=HL.out;have e2:=HBL.out;have e3:=HSW.out;simp only [World.size_drew] at h1;have hR2:=hBk1.setBlock (i:=k) (x:=(some ⟨b,0,none⟩,4)) (c:=B) (by simp;omega) (fun j y hy e=>(hApt.in_ j y _ hy e).2.2 rfl) (by rw [zf];omega) h3 (by omega) (by rw [e2];exact hW);rw [zf8 zbk f 4 k B HB.out e1] at hR2;have hApt2:=hApt.set (hi':=w1.heap.size) k (some ⟨b,0,none⟩,4) (fun c hc=>by rw [zf] at hc;subst hc;exact ⟨by omega,h2⟩) (by omega) (by omega);rw [Nat.zero_add] at hR2 hW;have hB3:=hB2.trans (hW.agr.below (B:=w.heap.size) hB2.size (fun i e=>by rw [e];exact Nat.le_refl _));have hs3:=hW.size;have hs4:w.heap.size < w1.heap.size:=by omega
    have HS3:=Lib.hid hs3;clear hs3 e1 e2 e3 hW hB2 hBk1;go_wp2;go_roundw
    case rel=>exact ⟨k + 1,_,by omega,by go_num,hB3,by rw [HS3.out];exact hs4,hR2,by rw [HS3.out];exact hApt2⟩
    case measure=>simp [intOf];omega
  obtain rfl:k = 4:=by omega
  go_wp2;go_ret;refine ⟨_,rfl,⟨ks, ?_,hApt⟩,hb⟩;have:=HL.out;rw [show (List.replicate 4 zbk).drop 4 = [] from rfl,List.append_nil,List.take_of_length_le (by omega)] at hBk;exact hBk
end
section
open Go.RowKit Go.Maps
def pg0:Pg:=⟨0,rc0⟩
def Qn:Bk:=⟨List.replicate 4 pg0,0⟩
def xp:List Bk:=List.replicate 4 Qn
def wipe (f:List Bk) (i:Nat) (torn:Bool):List Bk :=
 f.set i ⟨List.replicate 4 (if torn then ⟨2,rc0⟩ else pg0),(f.getD i zbk).worn + 1⟩
def je (f:List Bk) (block:Int) (torn:Bool):List Bk × Bool :=
 if ze f = false∨j9 block = false then ([],false) else if (f.getD block.toNat zbk).worn = 200 then (f,false) else (wipe f block.toNat torn,true)
def zi5 (r:List Bk × Bool) (w:World) (e:Ending) (w':World):Prop :=
 ∃ A c,e = .returned (.tuple #[.slice A r.1.length c, .bool r.2])∧r.1.length ≤ c∧OFl w' w.heap.size w'.heap.size A r.1∧Below w.heap.size w w'
theorem zaf (w:World) (lo hi:Nat):OFl w lo hi none [] :=
 ⟨[],⟨rfl,Row.nil _ _,fun _ _ _ h _=>absurd h (by simp)⟩,⟨fun _ h=>(by cases h),fun _ _ _ h _=>absurd h (by simp),fun _ _ _ _ _ h _ _ _=>absurd h (by simp)⟩⟩
theorem OFl.replaced {w3 w4 w5:World} {lo g b i n:Nat} {f:List Bk} {hs:List (Option Addr × Nat)} {c:Bk} (hBk:Bks w3 (some ⟨g,0,none⟩) f hs) (hApt:Apt lo w3.heap.size (some ⟨g,0,none⟩) hs) (hi:i < f.length)
 (h1:w3.heap.size ≤ b) (h2:b < w4.heap.size) (h3:Row w4 (some ⟨b,0,none⟩) (pgs c.pages)) (h4:Below w3.heap.size w3 w4) (hc:c.pages.length = n) (hlo:lo ≤ w3.heap.size) (hW:xt w4 w5 g (0 + i * 2) [.slice (some ⟨b,0,none⟩) n n, .int .i64 c.worn]) :
 OFl w5 lo w5.heap.size (some ⟨g,0,none⟩) (f.set i c)∧Below lo w3 w5:=by
 subst hc;have hBk1:=hBk.below h4 nl;have hg:=hApt.top g (by rw [zf]);have hs4:=h4.size;refine ⟨⟨_,hBk1.setBlock (i:=i) (x:=(some ⟨b,0,none⟩,c.pages.length)) (c:=c) hi (fun j y hy e=>(hApt.in_ j y _ hy e).2.2 rfl) (by rw [zf];omega) h3 nl hW, ?_⟩, ?_⟩
 . rw [hW.size];exact hApt.set (hi':=w4.heap.size) i _ (fun d hd=>by rw [zf] at hd;omega) hlo (by omega)
 exact (h4.mono hlo).trans (hW.agr.below (by omega) (fun k e=>by rw [e];exact hg.1))
theorem zbo (f:List Bk) (block:Int) (torn:Bool) (A:Option Addr) (c:Nat) (w:World) (hF:Fl w A f) :
 Calls Tryz.prog 78 #[.slice A f.length c, .int .i64 block, .bool torn] w (zi5 (je f block torn) w):=by
 by_cases hok:ze f = true
 . by_cases hbo:j9 block = true
   . have hb04:0 ≤ block∧block < 4:=by unfold j9 at hbo;simpa using hbo
     obtain ⟨i,rfl⟩:=Int.eq_ofNat_of_zero_le hb04.1;have hi4:i < 4:=by omega
     have hl:=zh hok;have hsh:=zo hok;have HL:=Lib.hid hl;obtain ⟨B,hB⟩:=zc (l:=f) (k:=i) (by omega);have hBm:=hsh B (List.mem_of_getElem? hB);have hBget:f.getD i zbk = B:=by rw [List.getD_eq_getElem?_getD,hB];rfl
     have HSH:=Lib.hid hsh;clear hsh hb04 hl
     go_enter Tryz.func78,Tryz.ntmps78
     go_wp2_with fail
     refine (xh f A c _ hF).mono ?_;rintro e w1 ⟨rfl,hb⟩;rw [hok];go_wp2_with fail
     refine (yf _ _).mono ?_;rintro e w2 ⟨rfl,rfl⟩;rw [hbo];go_wp2_with fail
     rw [HL.out];refine (Zu A c f _ HL.out (fun b hb=>(HSH.out b hb).1) (hF.below hb nl)).mono ?_;rintro e w3 ⟨g,rfl,⟨hs,hBk,hApt⟩,hb3⟩;obtain ⟨x,hx,z0,z1,z2,z3,hR,_⟩:=hBk.at_ hB;rw [Nat.zero_add] at z0 z1 z2 z3;obtain ⟨hw1,hw2,hw3⟩:=hBm;have hB3:Below w.heap.size w w3:=hb.trans (hb3.mono hb.size);have hg:=hApt.top g (by rw [zf]);by_cases h200:B.worn = 200
     . have hfin:Hid (je f i torn = (f,false)):=by unfold Hid je;rw [hok,hbo,Int.toNat_natCast,hBget];simp [h200]
       rw [h200] at z1;go_wp2
       go_ret2
       rw [hfin.out];exact ⟨some ⟨g,0,none⟩,4,Q9 HL.out.symm,by rw [HL.out];exact Nat.le_refl _,⟨hs,hBk,hApt.mono hb.size nl⟩,hB3⟩
     have hfin:Hid (je f i torn = (wipe f i torn,true)):=by unfold Hid je;rw [hok,hbo,Int.toNat_natCast,hBget];simp [h200]
     have hlt:B.worn < 200:=by omega
     have hi4':(i:Int) < 4:=by omega
     have hi0:(0:Int) ≤ i:=by omega
     have hwr:IntKind.i64.wrap (B.worn + 1) = B.worn + 1:=IntWalk.i64_in _ (by omega);cases torn
     . go_wp2
       go_region_law (first | (go_simp;go_at_call 82;refine (Y1 ⟨0,rc0⟩ _).mono ?_;rintro e w4 ⟨b,rfl,h1,h2,h3,h4⟩;replace h4:=Xr h4;have y1:=(h4.cell (p:=⟨g,i * 2 + 1,none⟩) hg.2).trans z1;have y0:=(h4.cell (p:=⟨g,i * 2,none⟩) hg.2).trans z0;have y2:=(h4.frozen (p:=⟨g,i * 2,none⟩) hg.2).trans z2;have y3:=(h4.frozen (p:=⟨g,i * 2 + 1,none⟩) hg.2).trans z3))
       all_goals
        have hBk1:=hBk.below h4 nl;have hW:=Qw hBk1 hB (.slice (some ⟨b,0,none⟩) 4 4) (.int .i64 (B.worn + 1));obtain ⟨hO,hb5⟩:=OFl.replaced (c:=⟨List.replicate 4 ⟨0,rc0⟩,B.worn + 1⟩) hBk hApt (by have:=HL.out;omega) h1 h2 h3 h4 (by simp) hb3.size hW;rw [Nat.zero_add] at hO hb5;have hBf:Below w.heap.size w _:=hB3.trans (hb5.mono hb.size);have hO':=hO.mono hb.size nl;clear hO hb5 hW hBk1;go_wp2
        go_ret2
        rw [hfin.out];have el:(wipe f i false).length = 4:=by unfold wipe;rw [List.length_set];exact HL.out
        exact ⟨some ⟨g,0,none⟩,4,Q9 el.symm,by rw [el];exact Nat.le_refl _,by unfold wipe;rw [hBget];exact hO',hBf⟩
     go_wp2
     go_region_law (first | (go_simp;go_at_call 82;refine (Y1 ⟨2,rc0⟩ _).mono ?_;rintro e w4 ⟨b,rfl,h1,h2,h3,h4⟩;replace h4:=Xr h4;have y1:=(h4.cell (p:=⟨g,i * 2 + 1,none⟩) hg.2).trans z1;have y0:=(h4.cell (p:=⟨g,i * 2,none⟩) hg.2).trans z0;have y2:=(h4.frozen (p:=⟨g,i * 2,none⟩) hg.2).trans z2;have y3:=(h4.frozen (p:=⟨g,i * 2 + 1,none⟩) hg.2).trans z3))
     all_goals
      have hBk1:=hBk.below h4 nl;have hW:=Qw hBk1 hB (.slice (some ⟨b,0,none⟩) 4 4) (.int .i64 (B.worn + 1));obtain ⟨hO,hb5⟩:=OFl.replaced (c:=⟨List.replicate 4 ⟨2,rc0⟩,B.worn + 1⟩) hBk hApt (by have:=HL.out;omega) h1 h2 h3 h4 (by simp) hb3.size hW;rw [Nat.zero_add] at hO hb5;have hBf:Below w.heap.size w _:=hB3.trans (hb5.mono hb.size);have hO':=hO.mono hb.size nl;clear hO hb5 hW hBk1;go_wp2
      go_ret2
      rw [hfin.out];have el:(wipe f i true).length = 4:=by unfold wipe;rw [List.length_set];exact HL.out
      exact ⟨some ⟨g,0,none⟩,4,Q9 el.symm,by rw [el];exact Nat.le_refl _,by unfold wipe;rw [hBget];exact hO',hBf⟩
   have hfin:Hid (je f block torn = ([],false)):=by unfold Hid je;simp [hbo]
   have ho:j9 block = false:=by simpa using hbo
   go_enter Tryz.func78,Tryz.ntmps78
   go_wp2_with fail
   refine (xh f A c _ hF).mono ?_;rintro e w1 ⟨rfl,hb⟩;rw [hok];go_wp2_with fail
   refine (yf _ _).mono ?_;rintro e w2 ⟨rfl,rfl⟩;rw [ho];go_wp2
   go_ret2
   rw [hfin.out];exact ⟨none,0,rfl,Nat.le_refl _,zaf _ _ _,hb⟩
 have hfin:Hid (je f block torn = ([],false)):=by unfold Hid je;simp [hok]
 have ho:ze f = false:=by simpa using hok
 go_enter Tryz.func78,Tryz.ntmps78
 go_wp2_with fail
 refine (xh f A c _ hF).mono ?_;rintro e w1 ⟨rfl,hb⟩;rw [ho];go_wp2
 go_ret2
 rw [hfin.out];exact ⟨none,0,rfl,Nat.le_refl _,zaf _ _ _,hb⟩
end
section
def xw (p:Pg):Bool:=decide (p.state = 0)
def clean (b:Bk):Nat:=b.pages.countP xw
def jl (s:Int) (p:Pg):Bool:=decide (p.state = 1) && decide (p.rc.seq = s)
def qo (f:List Bk) (s:Int):Bool:=f.any fun b=>b.pages.any (jl s)
def zz (addr:Int) (o:Rc) (p:Pg):Rc:=if p.state = 1∧p.rc.addr = addr∧o.seq < p.rc.seq then p.rc else o
def xr (addr:Int) (o:Rc) (ps:List Pg):Rc:=ps.foldl (zz addr) o
def last (f:List Bk) (addr:Int):Rc:=f.foldl (fun o b=>xr addr o b.pages) rc0
def live (f:List Bk) (p:Pg):Bool:=decide (p.state = 1) && decide (last f p.rc.addr = p.rc)
def jr (n:Int) (ps:List Pg):Int:=ps.foldl (fun n p=>max n p.rc.seq) n
def most (b:Bk):Int:=jr 0 b.pages
def zv (n:Int) (p:Pg):Int:=if 0 < p.rc.seq∧(n = 0∨p.rc.seq < n) then p.rc.seq else n
def ku (b:Bk):Int:=b.pages.foldl zv 0
def qi (f:List Bk):Int:=f.foldl (fun n b=>max n (most b)) 0
def next (f:List Bk):Int:=qi f + 1
def j6 (f:List Bk):Nat->Int->List Bk->Int × Bool
 | _,out,[]=>(max out 0,decide (0 ≤ out))
 | i,out,b :: r=>if 0 < clean b∧clean b < 4 then (i,true) else if 0 < clean b∧(out < 0∨b.worn < (f.getD out.toNat zbk).worn) then j6 f (i + 1) i r else j6 f (i + 1) out r
def jd (f:List Bk):Int × Bool:=j6 f 0 (-1) f
def Kl (f:List Bk):Nat->Nat->List Bk->Nat
 | _,out,[]=>out
 | i,out,b :: r=>if most b < most (f.getD out zbk) then Kl f (i + 1) i r else Kl f (i + 1) out r
def old (f:List Bk):Nat:=Kl f 1 0 (f.drop 1)
end
section
def xg (ps:List Pg):List Int:=(ps.filter fun p=>decide (p.state = 1)).map fun p=>p.rc.seq
def ki (f:List Bk):List Int:=f.flatMap fun b=>xg b.pages
theorem kx (p:Pg) (ps:List Pg):xg (p :: ps) = if p.state = 1 then p.rc.seq :: xg ps else xg ps:=by
 unfold xg;rw [List.filter_cons];by_cases h:p.state = 1 <;> simp [h]
theorem Kx (k:List Int->Bool):∀ (ps:List Pg) (seen:List Int),kz seen k ps = true ↔ (∀ p ∈ ps,zn p = true)∧(xg ps).Nodup∧(∀ q ∈ xg ps,q ∉ seen)∧k ((xg ps).reverse ++ seen) = true
 | [],seen=>by simp [kz,xg]
 | p :: ps, seen => by
   unfold kz;rw [kx];by_cases h1:zn p = false
   . simp [h1]
   have h1':zn p = true:=by simpa using h1
   rw [if_neg h1];by_cases h2:p.state = 1
   . rw [if_neg (by simpa using h2),if_pos h2];by_cases h3:p.rc.seq ∈ seen
     . rw [if_pos h3];constructor
       . intro h;cases h
       rintro ⟨_,_,h,_⟩;exact absurd h3 (h _ (List.mem_cons_self ..))
     rw [if_neg h3,Kx k ps];constructor
     . rintro ⟨a,b,c,d⟩;refine ⟨?_,List.nodup_cons.2 ⟨fun hm=>c _ hm (List.mem_cons_self ..),b⟩, ?_, ?_⟩
       . intro q hq;rcases List.mem_cons.1 hq with rfl | hq;exact h1';exact a q hq
       . intro q hq;rcases List.mem_cons.1 hq with rfl | hq;exact h3;exact fun hm=>c q hq (List.mem_cons_of_mem _ hm)
       rw [List.reverse_cons,List.append_assoc];exact d
     rintro ⟨a,b,c,d⟩;obtain ⟨b1,b2⟩:=List.nodup_cons.1 b;refine ⟨fun q hq=>a q (List.mem_cons_of_mem _ hq),b2, ?_, ?_⟩
     . intro q hq hm;rcases List.mem_cons.1 hm with rfl | hm
       . exact b1 hq
       exact c q (List.mem_cons_of_mem _ hq) hm
     rw [List.reverse_cons,List.append_assoc] at d;exact d
   rw [if_pos h2,if_neg h2,Kx k ps];constructor
   . rintro ⟨a,b⟩;exact ⟨fun q hq=>by rcases List.mem_cons.1 hq with rfl | hq;exact h1';exact a q hq,b⟩
   rintro ⟨a,b⟩;exact ⟨fun q hq=>a q (List.mem_cons_of_mem _ hq),b⟩
theorem Qb:∀ (f:List Bk) (seen:List Int),ka seen f = true ↔ (∀ b ∈ f,zw b = true∧∀ p ∈ b.pages,zn p = true)∧(ki f).Nodup∧(∀ q ∈ ki f,q ∉ seen)
 | [],seen=>by simp [ka,ki]
 | b :: f, seen => by
   unfold ka;rw [show ki (b :: f) = xg b.pages ++ ki f from by simp [ki]];by_cases h1:zw b = false
   . simp [h1]
   have h1':zw b = true:=by simpa using h1
   rw [if_neg h1,Kx,Qb f];constructor
   . rintro ⟨a,b1,c,d,e,g⟩;refine ⟨fun x hx=>?_,List.nodup_append.2 ⟨b1,e,fun x hx y hy hxy=>?_⟩,fun q hq=>?_⟩
     . rcases List.mem_cons.1 hx with rfl | hx
       . exact ⟨h1',a⟩
       exact d x hx
     . subst hxy;exact g x hy (List.mem_append_left _ (List.mem_reverse.2 hx))
     rcases List.mem_append.1 hq with hq | hq
     . exact c q hq
     exact fun hm=>g q hq (List.mem_append_right _ hm)
   rintro ⟨a,b1,c⟩;obtain ⟨n1,n2,n3⟩:=List.nodup_append.1 b1;refine ⟨(a b (List.mem_cons_self ..)).2,n1,fun q hq=>c q (List.mem_append_left _ hq),fun x hx=>a x (List.mem_cons_of_mem _ hx),n2,fun q hq hm=>?_⟩;rcases List.mem_append.1 hm with hm | hm
   . exact n3 q (List.mem_reverse.1 hm) q hq rfl
   exact c q (List.mem_append_right _ hq) hm
theorem jt (f:List Bk):ze f = true ↔ f.length = 4∧(∀ b ∈ f,zw b = true∧∀ p ∈ b.pages,zn p = true)∧(ki f).Nodup:=by
 unfold ze;rw [Bool.and_eq_true,decide_eq_true_iff,Qb];constructor
 . rintro ⟨a,b,c,_⟩;exact ⟨a,b,c⟩
 rintro ⟨a,b,c⟩;exact ⟨a,b,c,fun _ _ h=>by cases h⟩
theorem ze3:∀ (f:List Bk) (i:Nat) (b:Bk),xg b.pages = []->(ki (f.set i b)).Sublist (ki f)
 | [],i,b,h=>by simp
 | c :: f, 0, b, h => by
   rw [List.set_cons_zero,show ki (b :: f) = xg b.pages ++ ki f from by simp [ki],show ki (c :: f) = xg c.pages ++ ki f from by simp [ki],h];exact List.sublist_append_right _ _
 | c :: f, i + 1, b, h => by
   rw [List.set_cons_succ,show ki (c :: f.set i b) = xg c.pages ++ ki (f.set i b) from by simp [ki],show ki (c :: f) = xg c.pages ++ ki f from by simp [ki]];exact (ze3 f i b h).append_left _
theorem zig {f:List Bk} {i:Nat} (h:i < f.length):f.getD i zbk ∈ f:=by
 rw [List.getD_eq_getElem?_getD,List.getElem?_eq_getElem h];exact List.getElem_mem h
theorem zc1 {f:List Bk} (h:ze f = true) {i:Nat} (hi:i < 4) (torn:Bool) (hw:(f.getD i zbk).worn ≠ 200):ze (wipe f i torn) = true:=by
 have hs:=zo h _ (zig (i:=i) (by have:=zh h;omega));rw [jt] at h ⊢;obtain ⟨a,b,c⟩:=h;have key:zw ⟨List.replicate 4 (if torn then ⟨2,rc0⟩ else pg0),(f.getD i zbk).worn + 1⟩ = true:=by
  unfold zw;have h1:0 ≤ (f.getD i zbk).worn + 1:=by omega
  have h2:(f.getD i zbk).worn + 1 ≤ 200:=by omega
  simp only [h1,h2,decide_true,Bool.true_and,List.length_replicate];cases torn <;> decide
 refine ⟨by unfold wipe;simpa using a,fun x hx=>?_,(ze3 f i _ ?_).nodup c⟩
 . unfold wipe at hx;rcases List.mem_or_eq_of_mem_set hx with hx | rfl
   . exact b x hx
   refine ⟨key,fun p hp=>?_⟩;have:=List.eq_of_mem_replicate hp;subst this;cases torn <;> decide
 show xg (List.replicate 4 (if torn then ⟨2,rc0⟩ else pg0)) = [];cases torn <;> decide
theorem zpb {f:List Bk} {i:Nat} (h:i < f.length) (torn:Bool):(wipe f i torn)[i]? = some ⟨List.replicate 4 (if torn then ⟨2,rc0⟩ else pg0),(f.getD i zbk).worn + 1⟩:=by
 unfold wipe;rw [List.getElem?_set_self h]
theorem zki {f:List Bk} {i j:Nat} (h:j ≠ i) (torn:Bool):(wipe f i torn)[j]? = f[j]?:=by
 unfold wipe;rw [List.getElem?_set_ne (by omega)]
end
section
open Go.RowKit Go.Maps
theorem Zj (b:Bk) (A:Option Addr) (c:Nat) (w:World) (hl:b.pages.length < 1000000000000) (hR:Row w A (pgs b.pages)) :
 Calls Tryz.prog 108 #[.agg #[.slice A b.pages.length c, .int .i64 b.worn]] w fun e w'=>e = .returned (.int .i64 (clean b))∧Below w.heap.size w w':=by
 obtain ⟨ps,n⟩:=b;dsimp only at *;have hT:Hid ((clean ⟨ps,n⟩:Int) = 0 + (ps.drop 0).countP xw):=by unfold Hid clean;simp
 go_enter Tryz.func108,Tryz.ntmps108
 go_wp2
 go_loopw [3,4] (fun q i wr=>∃ (k m:Nat),k ≤ ps.length∧i = .int .i64 k∧q = .int .i64 m∧m ≤ k∧wr = w.alloc (.cells #[.slice A ps.length c, .int .i64 n] 99)∧Hid ((clean ⟨ps,n⟩:Int) = m + (ps.drop k).countP xw)) (fun _ i _=>ps.length - (intOf i).toNat)
 case atStart=>exact ⟨0,0,by omega,rfl,rfl,by omega,rfl,hT⟩
 case round =>
  clear hT;obtain ⟨k,m,hk,rfl,rfl,hm,rfl,hT⟩:=hrel;by_cases hlt:k < ps.length
  . obtain ⟨p,hp⟩:=zc hlt;obtain ⟨bk,o,rfl⟩:=hR.addr (ky (by rintro rfl;simp at hlt));obtain ⟨c0,_⟩:=(hR.alloc (.cells #[.slice (some ⟨bk,o,none⟩) ps.length c, .int .i64 n] 99)).pg hp;have hd:=Lib.hid (zr hp);have hk1:(k:Int) < ps.length:=by omega
    clear hp;by_cases h0:p.state = 0
    . have hi:Hid (xw p = true):=by unfold Hid xw;simp [h0]
      rw [h0] at c0;clear h0;go_wp2;go_roundw
      case rel=>exact ⟨k + 1,m + 1,by omega,by go_num,by go_num,by omega,by trivial,by rw [Hid,hT.out,hd.out,List.countP_cons,hi.out];simp;omega⟩
      case measure=>simp [intOf];omega
    have hi:Hid (xw p = false):=by unfold Hid xw;simp [h0]
    go_wp2;go_roundw
    case rel=>exact ⟨k + 1,m,by omega,by go_num,rfl,by omega,by trivial,by rw [Hid,hT.out,hd.out,List.countP_cons,hi.out];simp⟩
    case measure=>simp [intOf];omega
  obtain rfl:k = ps.length:=by omega
  go_wp2;go_ret;exact ⟨qg (by rw [hT.out,List.drop_of_length_le nl];simp),bw⟩
theorem yb (b:Bk) (A:Option Addr) (c:Nat) (w:World) (hl:b.pages.length < 1000000000000) (hR:Row w A (pgs b.pages)) :
 Calls Tryz.prog 112 #[.agg #[.slice A b.pages.length c, .int .i64 b.worn]] w fun e w'=>e = .returned (.int .i64 (most b))∧Below w.heap.size w w':=by
 obtain ⟨ps,n⟩:=b;dsimp only at *;have hT:Hid (most ⟨ps,n⟩ = jr 0 (ps.drop 0)):=rfl
 go_enter Tryz.func112,Tryz.ntmps112
 go_wp2
 go_loopw [3,4] (fun q i wr=>∃ (k:Nat) (m:Int),k ≤ ps.length∧i = .int .i64 k∧q = .int .i64 m∧wr = w.alloc (.cells #[.slice A ps.length c, .int .i64 n] 99)∧Hid (most ⟨ps,n⟩ = jr m (ps.drop k))) (fun _ i _=>ps.length - (intOf i).toNat)
 case atStart=>exact ⟨0,0,by omega,rfl,rfl,rfl,hT⟩
 case round =>
  clear hT;obtain ⟨k,m,hk,rfl,rfl,rfl,hT⟩:=hrel;by_cases hlt:k < ps.length
  . obtain ⟨p,hp⟩:=zc hlt;obtain ⟨bk,o,rfl⟩:=hR.addr (ky (by rintro rfl;simp at hlt));obtain ⟨c0,c1,c2,c3,c4⟩:=(hR.alloc (.cells #[.slice (some ⟨bk,o,none⟩) ps.length c, .int .i64 n] 99)).pg hp;have hd:=Lib.hid (zr hp);have hk1:(k:Int) < ps.length:=by omega
    clear hp;go_wp2;go_roundw
    case rel=>exact ⟨k + 1,max m p.rc.seq,by omega,by go_num,by congr 1;split <;> omega,by trivial,by rw [Hid,hT.out,hd.out];rfl⟩
    case measure=>simp [intOf];omega
  obtain rfl:k = ps.length:=by omega
  go_wp2;go_ret;exact ⟨qg (by rw [hT.out,List.drop_of_length_le nl];rfl),bw⟩
theorem Yu (b:Bk) (A:Option Addr) (c:Nat) (w:World) (hl:b.pages.length < 1000000000000) (hR:Row w A (pgs b.pages)) :
 Calls Tryz.prog 113 #[.agg #[.slice A b.pages.length c, .int .i64 b.worn]] w fun e w'=>e = .returned (.int .i64 (ku b))∧Below w.heap.size w w':=by
 obtain ⟨ps,n⟩:=b;dsimp only at *;have hT:Hid (ku ⟨ps,n⟩ = (ps.drop 0).foldl zv 0):=rfl
 go_enter Tryz.func113,Tryz.ntmps113
 go_wp2
 go_loopw [3,4] (fun q i wr=>∃ (k:Nat) (m:Int),k ≤ ps.length∧i = .int .i64 k∧q = .int .i64 m∧wr = w.alloc (.cells #[.slice A ps.length c, .int .i64 n] 99)∧Hid (ku ⟨ps,n⟩ = (ps.drop k).foldl zv m)) (fun _ i _=>ps.length - (intOf i).toNat)
 case atStart=>exact ⟨0,0,by omega,rfl,rfl,rfl,hT⟩
 case round =>
  clear hT;obtain ⟨k,m,hk,rfl,rfl,rfl,hT⟩:=hrel;by_cases hlt:k < ps.length
  . obtain ⟨p,hp⟩:=zc hlt;obtain ⟨bk,o,rfl⟩:=hR.addr (ky (by rintro rfl;simp at hlt));obtain ⟨c0,c1,c2,c3,c4⟩:=(hR.alloc (.cells #[.slice (some ⟨bk,o,none⟩) ps.length c, .int .i64 n] 99)).pg hp;have hd:=Lib.hid (zr hp);have hk1:(k:Int) < ps.length:=by omega
    clear hp;have hle:Hid (ku ⟨ps,n⟩ = (ps.drop (k + 1)).foldl zv (zv m p)):=by rw [Hid,hT.out,hd.out];rfl
    by_cases h1:0 < p.rc.seq
    . by_cases h2:m = 0
      . subst h2;have hi:Hid (zv 0 p = p.rc.seq):=by unfold Hid zv;rw [if_pos ⟨h1, .inl rfl⟩]
        go_wp2;go_roundw
        case rel=>exact ⟨k + 1,p.rc.seq,by omega,by go_num,rfl,by trivial,by rw [← hi.out];exact hle⟩
        case measure=>simp [intOf];omega
      have hm0:(m == 0) = false:=by simp [h2]
      by_cases h3:p.rc.seq < m
      . have hi:Hid (zv m p = p.rc.seq):=by unfold Hid zv;rw [if_pos ⟨h1, .inr h3⟩]
        go_wp2;go_roundw
        case rel=>exact ⟨k + 1,p.rc.seq,by omega,by go_num,rfl,by trivial,by rw [← hi.out];exact hle⟩
        case measure=>simp [intOf];omega
      have hi:Hid (zv m p = m):=by unfold Hid zv;rw [if_neg (by omega)]
      go_wp2;go_roundw
      case rel=>exact ⟨k + 1,m,by omega,by go_num,rfl,by trivial,by rw [← hi.out];exact hle⟩
      case measure=>simp [intOf];omega
    have hi:Hid (zv m p = m):=by unfold Hid zv;rw [if_neg (by omega)]
    go_wp2;go_roundw
    case rel=>exact ⟨k + 1,m,by omega,by go_num,rfl,by trivial,by rw [← hi.out];exact hle⟩
    case measure=>simp [intOf];omega
  obtain rfl:k = ps.length:=by omega
  go_wp2;go_ret;exact ⟨qg (by rw [hT.out,List.drop_of_length_le nl];rfl),bw⟩
end
section
open Go.RowKit Go.Maps
def zbr (s:Int) (b:Bk):Bool:=b.pages.any (jl s)
theorem zjj (f:List Bk) (s:Int) (A:Option Addr) (c:Nat) (w:World) (hl:f.length < 1000000000000) (hp:∀ b ∈ f,b.pages.length < 1000000000000) (hF:Fl w A f) :
 Calls Tryz.prog 135 #[.slice A f.length c, .int .i64 s] w fun e w'=>e = .returned (.bool (qo f s))∧w = w':=by
 obtain ⟨hs,hBk⟩:=hF;have HP:=Lib.hid hp;have hT:Hid (qo f s = (f.drop 0).any (zbr s)):=rfl;clear hp
 go_enter Tryz.func135,Tryz.ntmps135
 go_wp2
 go_loop [5] (fun i=>∃ (k:Nat),k ≤ f.length∧i = .int .i64 k∧Hid (qo f s = (f.drop k).any (zbr s))) (fun i=>f.length - (intOf i).toNat)
 case atStart=>exact ⟨0,by omega,rfl,hT⟩
 case round =>
  clear hT;obtain ⟨k,hk,rfl,hT⟩:=hrel;by_cases hlt:k < f.length
  . obtain ⟨B,hB⟩:=zc hlt;obtain ⟨g,o,rfl⟩:=hBk.addr (by rintro rfl;simp at hlt);obtain ⟨⟨Ap,cp⟩,_,z0,_,_,_,hR,_⟩:=hBk.at_ hB;have hd:=Lib.hid (zr hB);have hpl:=HP.out B (List.mem_of_getElem? hB);have hk1:(k:Int) < f.length:=by omega
    obtain ⟨ps,n⟩:=B;dsimp only at *;have hT0:Hid (qo f s = ((ps.drop 0).any (jl s) || (f.drop (k + 1)).any (zbr s))):=by rw [Hid,hT.out,hd.out];rfl
    clear hB hT hd;go_wp2
    go_loop [6] (fun j=>∃ (m:Nat),m ≤ ps.length∧j = .int .i64 m∧Hid (qo f s = ((ps.drop m).any (jl s) || (f.drop (k + 1)).any (zbr s)))) (fun j=>ps.length - (intOf j).toNat)
    case atStart=>exact ⟨0,by omega,rfl,hT0⟩
    case round =>
     clear hT0;obtain ⟨m,hm,rfl,hT⟩:=hrel;by_cases hltm:m < ps.length
     . obtain ⟨p,hq⟩:=zc hltm;obtain ⟨pb,po,rfl⟩:=hR.addr (ky (by rintro rfl;simp at hltm));obtain ⟨c0,c1,c2,c3,c4⟩:=hR.pg hq;have hd:=Lib.hid (zr hq);have hm1:(m:Int) < ps.length:=by omega
       have hT1:Hid (qo f s = (jl s p || ((ps.drop (m + 1)).any (jl s) || (f.drop (k + 1)).any (zbr s)))):=by rw [Hid,hT.out,hd.out,List.any_cons,Bool.or_assoc]
       clear hq hT hd;by_cases h1:p.state = 1
       . by_cases h2:p.rc.seq = s
         . have hi:Hid (jl s p = true):=by unfold Hid jl;simp [h1,h2]
           rw [h1] at c0;rw [h2] at c2;clear h1 h2;go_wp2;go_ret;exact ⟨zg (by rw [hT1.out,hi.out];rfl),rfl⟩
         have hi:Hid (jl s p = false):=by unfold Hid jl;simp [h1,h2]
         rw [h1] at c0;clear h1;go_wp2
         go_round
         case rel=>exact ⟨m + 1,by omega,by go_num,by rw [Hid,hT1.out,hi.out];rfl⟩
         case measure=>simp [intOf];omega
       have hi:Hid (jl s p = false):=by unfold Hid jl;simp [h1]
       go_wp2
       go_round
       case rel=>exact ⟨m + 1,by omega,by go_num,by rw [Hid,hT1.out,hi.out];rfl⟩
       case measure=>simp [intOf];omega
     obtain rfl:m = ps.length:=by omega
     go_wp2
     go_round
     case rel=>exact ⟨k + 1,by omega,by go_num,by rw [Hid,hT.out,List.drop_of_length_le nl];rfl⟩
     case measure=>simp [intOf];omega
  obtain rfl:k = f.length:=by omega
  go_wp2;go_ret;exact ⟨zg (by rw [hT.out,List.drop_of_length_le nl];rfl),rfl⟩
theorem zgu (f:List Bk) (A:Option Addr) (c:Nat) (w:World) (hl:f.length < 1000000000000) (hp:∀ b ∈ f,b.pages.length < 1000000000000) (hn:∀ b ∈ f,most b < 1000000000000) (hF:Fl w A f) :
 Calls Tryz.prog 70 #[.slice A f.length c] w fun e w'=>e = .returned (.int .i64 (next f))∧Below w.heap.size w w':=by
 have HP:=Lib.hid hp;have HN:=Lib.hid hn;have hT:Hid (qi f = (f.drop 0).foldl (fun n b=>max n (most b)) 0):=rfl;clear hp hn
 go_enter Tryz.func70,Tryz.ntmps70
 go_wp2
 go_loopw [3,4] (fun q i wr=>∃ (k:Nat) (m:Int),k ≤ f.length∧i = .int .i64 k∧q = .int .i64 m∧0 ≤ m∧m < 1000000000000∧Below w.heap.size w wr∧Hid (qi f = (f.drop k).foldl (fun n b=>max n (most b)) m)) (fun _ i _=>f.length - (intOf i).toNat)
 case atStart=>exact ⟨0,0,by omega,rfl,rfl,by omega,by omega,Below.refl _ _,hT⟩
 case round =>
  clear hT;obtain ⟨k,m,hk,rfl,rfl,hm0,hm1,hb,hT⟩:=hrel;by_cases hlt:k < f.length
  . obtain ⟨B,hB⟩:=zc hlt;obtain ⟨hs,hBk⟩:=hF.below hb nl;obtain ⟨g,o,rfl⟩:=hBk.addr (by rintro rfl;simp at hlt);obtain ⟨⟨Ap,cp⟩,_,z0,z1,_,_,hR,_⟩:=hBk.at_ hB;have hd:=Lib.hid (zr hB);have hpl:=HP.out B (List.mem_of_getElem? hB);have hnl:=HN.out B (List.mem_of_getElem? hB);have hk1:(k:Int) < f.length:=by omega
    clear hB;go_wp2_with fail
    refine (yb B Ap cp _ hpl hR).mono ?_;rintro e w1 ⟨rfl,hb1⟩;have hB1:=hb.trans (hb1.mono hb.size);have hT1:Hid (qi f = (f.drop (k + 1)).foldl (fun n b=>max n (most b)) (max m (most B))):=by rw [Hid,hT.out,hd.out];rfl
    clear hT hd;generalize most B = x at *;go_wp2;go_roundw
    case rel=>exact ⟨k + 1,max m x,by omega,by go_num,by congr 1;split <;> omega,by omega,by omega,hB1,hT1⟩
    case measure=>simp [intOf];omega
  obtain rfl:k = f.length:=by omega
  go_wp2;go_ret;exact ⟨qg (by unfold next;rw [hT.out,List.drop_of_length_le nl];rfl),hb⟩
theorem Row.rc {w:World} {b o:Nat} {x:Rc} (h:Row w (some ⟨b,o,none⟩) x.vs) :
 w.cell? ⟨b,o,none⟩ = some (.int .i64 x.kind)∧w.cell? ⟨b,o + 1,none⟩ = some (.int .i64 x.seq)∧w.cell? ⟨b,o + 2,none⟩ = some (.int .i64 x.addr)∧w.cell? ⟨b,o + 3,none⟩ = some (.int .i64 x.val):=by
 obtain ⟨b',o',he,hc⟩:=h (by simp [Rc.vs]);cases he;exact ⟨(hc 0 _ rfl).1,(hc 1 _ rfl).1,(hc 2 _ rfl).1,(hc 3 _ rfl).1⟩
theorem Row.rcf {w:World} {b o:Nat} {x:Rc} (h:Row w (some ⟨b,o,none⟩) x.vs) :
 w.frozen? ⟨b,o,none⟩ = false∧w.frozen? ⟨b,o + 1,none⟩ = false∧w.frozen? ⟨b,o + 2,none⟩ = false∧w.frozen? ⟨b,o + 3,none⟩ = false:=by
 obtain ⟨b',o',he,hc⟩:=h (by simp [Rc.vs]);cases he;exact ⟨(hc 0 _ rfl).2,(hc 1 _ rfl).2,(hc 2 _ rfl).2,(hc 3 _ rfl).2⟩
theorem Qv {w:World} {b o:Nat} {x:Rc} (h:Row w (some ⟨b,o,none⟩) x.vs) (y:Rc) :
 xt w ((((w.setCell ⟨b,o,none⟩ (.int .i64 y.kind)).setCell ⟨b,o + 1,none⟩ (.int .i64 y.seq)).setCell ⟨b,o + 2,none⟩ (.int .i64 y.addr)).setCell ⟨b,o + 3,none⟩ (.int .i64 y.val)) b o y.vs:=by
 refine zp b y.vs o w fun j hj=>?_;obtain ⟨c0,c1,c2,c3⟩:=h.rc
 match j,hj with
 | 0,_=>exact ⟨_,c0⟩
 | 1,_=>exact ⟨_,c1⟩
 | 2,_=>exact ⟨_,c2⟩
 | 3,_=>exact ⟨_,c3⟩
theorem xt.rec_ {w w':World} {b o:Nat} {x y:Rc} (hw:xt w w' b o y.vs) (h:Row w (some ⟨b,o,none⟩) x.vs):Row w' (some ⟨b,o,none⟩) y.vs:=fun _=>by
 obtain ⟨b',o',he,hc⟩:=h (by simp [Rc.vs]);cases he;refine ⟨b,o,rfl,fun j u hj=>⟨hw.new_ j u hj,(hw.frozen _).trans ?_⟩⟩;have hl:j < x.vs.length:=(List.getElem?_eq_some_iff.1 hj).1;exact (hc j _ (List.getElem?_eq_getElem hl)).2
theorem qz (f:List Bk) (addr:Int) (A:Option Addr) (c:Nat) (w:World) (hl:f.length < 1000000000000) (hp:∀ b ∈ f,b.pages.length < 1000000000000) (hF:Fl w A f) :
 Calls Tryz.prog 68 #[.slice A f.length c, .int .i64 addr] w fun e w'=>e = .returned (.tuple #[.agg #[.int .i64 (last f addr).kind, .int .i64 (last f addr).seq, .int .i64 (last f addr).addr, .int .i64 (last f addr).val], .bool (decide (0 < (last f addr).seq))])∧Below w.heap.size w w':=by
 have HP:=Lib.hid hp;have hT:Hid (last f addr = (f.drop 0).foldl (fun o b=>xr addr o b.pages) rc0):=rfl;clear hp
 go_enter Tryz.func68,Tryz.ntmps68
 go_wp2
 go_loopw [7] (fun i wr=>∃ (k:Nat) (x:Rc),k ≤ f.length∧i = .int .i64 k∧Below w.heap.size w wr∧w.heap.size + 1 < wr.heap.size∧Row wr (some ⟨w.heap.size + 1,0,none⟩) x.vs∧Row wr (some ⟨w.heap.size,0,none⟩) rc0.vs∧Hid (last f addr = (f.drop k).foldl (fun o b=>xr addr o b.pages) x)) (fun i _=>f.length - (intOf i).toNat)
 case atStart =>
  refine ⟨0,rc0,by omega,rfl,bw,by simp, ?_, ?_,hT⟩
  . have:=Row.new (w.alloc (.cells #[.int .i64 0, .int .i64 0, .int .i64 0, .int .i64 0] 64)) #[.int .i64 0, .int .i64 0, .int .i64 0, .int .i64 0] 64;simp only [World.size_alloc] at this;exact this
  exact (Row.new w #[.int .i64 0, .int .i64 0, .int .i64 0, .int .i64 0] 64).alloc _
 case round =>
  clear hT;obtain ⟨k,x,hk,rfl,hb,hsz,hx,hz,hT⟩:=hrel;by_cases hlt:k < f.length
  . obtain ⟨B,hB⟩:=zc hlt;have hF1:=hF.below hb nl;obtain ⟨hs,hBk⟩:=hF1;obtain ⟨g,o,rfl⟩:=hBk.addr (by rintro rfl;simp at hlt);obtain ⟨⟨Ap,cp⟩,_,z0,_,_,_,hR,_⟩:=hBk.at_ hB;have hd:=Lib.hid (zr hB);have hpl:=HP.out B (List.mem_of_getElem? hB);have hk1:(k:Int) < f.length:=by omega
    have HB:=Lib.hid hB;obtain ⟨ps,n⟩:=B;dsimp only at *;have hT0:Hid (last f addr = (f.drop (k + 1)).foldl (fun o b=>xr addr o b.pages) (xr addr x (ps.drop 0))):=by rw [Hid,hT.out,hd.out];rfl
    clear hB hT hd;go_wp2
    go_loopw [8] (fun j wr=>∃ (m:Nat) (x:Rc),m ≤ ps.length∧j = .int .i64 m∧Below w.heap.size w wr∧w.heap.size + 1 < wr.heap.size∧Row wr (some ⟨w.heap.size + 1,0,none⟩) x.vs∧Row wr (some ⟨w.heap.size,0,none⟩) rc0.vs∧Hid (last f addr = (f.drop (k + 1)).foldl (fun o b=>xr addr o b.pages) (xr addr x (ps.drop m)))) (fun j _=>ps.length - (intOf j).toNat)
    case atStart=>exact ⟨0,x,by omega,rfl,hb,hsz,hx,hz,hT0⟩
    case round =>
     clear hT0 z0 hR hBk hx hz hb hsz;obtain ⟨m,x,hm,rfl,hb,hsz,hx,hz,hT⟩:=hrel;obtain ⟨hs,hBk⟩:=hF.below hb nl;obtain ⟨⟨Ap,cp⟩,_,z0,_,_,_,hR,_⟩:=hBk.at_ HB.out;dsimp only at z0 hR;by_cases hltm:m < ps.length
     . obtain ⟨p,hq⟩:=zc hltm;obtain ⟨pb,po,rfl⟩:=hR.addr (ky (by rintro rfl;simp at hltm));obtain ⟨c0,c1,c2,c3,c4⟩:=hR.pg hq;obtain ⟨o0,o1,o2,o3⟩:=hx.rc;obtain ⟨r0,r1,r2,r3⟩:=hx.rcf;have hd:=Lib.hid (zr hq);have hm1:(m:Int) < ps.length:=by omega
       have hT1:Hid (last f addr = (f.drop (k + 1)).foldl (fun o b=>xr addr o b.pages) (xr addr (zz addr x p) (ps.drop (m + 1)))):=by rw [Hid,hT.out,hd.out];rfl
       have hx1:=hx.alloc (.cells #[.int .i64 p.state, .int .i64 p.rc.kind, .int .i64 p.rc.seq, .int .i64 p.rc.addr, .int .i64 p.rc.val] 76);have hz1:=hz.alloc (.cells #[.int .i64 p.state, .int .i64 p.rc.kind, .int .i64 p.rc.seq, .int .i64 p.rc.addr, .int .i64 p.rc.val] 76);clear hq hT hd;by_cases h1:p.state = 1
       . by_cases h2:p.rc.addr = addr
         . by_cases h3:x.seq < p.rc.seq
           . have hi:Hid (zz addr x p = p.rc):=by unfold Hid zz;rw [if_pos ⟨h1,h2,h3⟩]
             subst h2;have hW:=Qv hx p.rc;have hx2:=(hW.rec_ hx).alloc (.cells #[.int .i64 1, .int .i64 p.rc.kind, .int .i64 p.rc.seq, .int .i64 p.rc.addr, .int .i64 p.rc.val] 76);have hz2:=(hW.far hz (by rw [zf];omega)).alloc (.cells #[.int .i64 1, .int .i64 p.rc.kind, .int .i64 p.rc.seq, .int .i64 p.rc.addr, .int .i64 p.rc.val] 76);have hs2:=hW.size;simp only [Nat.zero_add] at hx2 hz2 o1 o2 o3 r1 r2 r3 hs2;rw [h1] at c0;clear h1 hx1 hz1 hW;go_wp2;go_roundw
             case rel=>exact ⟨m + 1,p.rc,by omega,by go_num,bw,by simp;omega,hx2,hz2,by have h:=hT1;rw [hi.out] at h;exact h⟩
             case measure=>simp [intOf];omega
           have hi:Hid (zz addr x p = x):=by unfold Hid zz;rw [if_neg (fun h=>h3 h.2.2)]
           simp only [Nat.zero_add] at o1 o2 o3;subst h2;rw [h1] at c0 hx1 hz1;clear h1;go_wp2;go_roundw
           case rel=>exact ⟨m + 1,x,by omega,by go_num,bw,by simp;omega,hx1,hz1,by have h:=hT1;rw [hi.out] at h;exact h⟩
           case measure=>simp [intOf];omega
         have hi:Hid (zz addr x p = x):=by unfold Hid zz;rw [if_neg (fun h=>h2 h.2.1)]
         rw [h1] at c0 hx1 hz1;clear h1;go_wp2;go_roundw
         case rel=>exact ⟨m + 1,x,by omega,by go_num,bw,by simp;omega,hx1,hz1,by have h:=hT1;rw [hi.out] at h;exact h⟩
         case measure=>simp [intOf];omega
       have hi:Hid (zz addr x p = x):=by unfold Hid zz;rw [if_neg (fun h=>h1 h.1)]
       go_wp2;go_roundw
       case rel=>exact ⟨m + 1,x,by omega,by go_num,bw,by simp;omega,hx1,hz1,by have h:=hT1;rw [hi.out] at h;exact h⟩
       case measure=>simp [intOf];omega
     obtain rfl:m = ps.length:=by omega
     go_wp2;go_roundw
     case rel=>exact ⟨k + 1,x,by omega,by go_num,hb,hsz,hx,hz,by rw [Hid,hT.out,List.drop_of_length_le nl];rfl⟩
     case measure=>simp [intOf];omega
  obtain rfl:k = f.length:=by omega
  have hfin:Hid (last f addr = x):=by rw [Hid,hT.out,List.drop_of_length_le nl];rfl
  obtain ⟨o0,o1,o2,o3⟩:=hx.rc;obtain ⟨q0,q1,q2,q3⟩:=hz.rc;obtain ⟨r0,r1,r2,r3⟩:=hz.rcf;simp only [Nat.zero_add] at o1 o2 o3 r1 r2 r3 q1 q2 q3;go_wp2
  go_region
  go_wp2;refine bodyPost_ret (v:=.tuple #[.agg #[.int .i64 x.kind, .int .i64 x.seq, .int .i64 x.addr, .int .i64 x.val], .bool (decide (0 < x.seq))]) (by simp [results,Tryz.results68,go_sem,q0,q1,q2,q3]) rfl ⟨by rw [hfin.out],bw⟩
theorem zgv (f:List Bk) (p:Pg) (A:Option Addr) (c:Nat) (w:World) (hl:f.length < 1000000000000) (hp:∀ b ∈ f,b.pages.length < 1000000000000) (hF:Fl w A f) :
 Calls Tryz.prog 115 #[.slice A f.length c, .agg #[.int .i64 p.state, .int .i64 p.rc.kind, .int .i64 p.rc.seq, .int .i64 p.rc.addr, .int .i64 p.rc.val]] w fun e w'=>e = .returned (.bool (live f p))∧Below w.heap.size w w':=by
 by_cases h1:p.state = 1
 . have hfin:Hid (live f p = decide (last f p.rc.addr = p.rc)):=by unfold Hid live;simp [h1]
   rw [h1];clear h1
   go_enter Tryz.func115,Tryz.ntmps115
   go_wp2_with fail
   refine (qz f p.rc.addr A c _ hl hp (hF.alloc _)).mono ?_;rintro e w1 ⟨rfl,hb⟩;have hB:Below w.heap.size w w1:=Below.trans bw (hb.mono (by simp));obtain ⟨hc,hf⟩:=qv hb;have hz:w.heap.size < w1.heap.size:=by have:=hb.size;simp at this;omega
   have hle:Hid (decide (last f p.rc.addr = p.rc) = (decide ((last f p.rc.addr).kind = p.rc.kind) && (decide ((last f p.rc.addr).seq = p.rc.seq) && (decide ((last f p.rc.addr).addr = p.rc.addr) && decide ((last f p.rc.addr).val = p.rc.val))))):=by
    unfold Hid;generalize last f p.rc.addr = x;obtain ⟨a,b,c,d⟩:=x;obtain ⟨st,e,g,h,i⟩:=p;simp [Bool.and_assoc]
   generalize last f p.rc.addr = x at *;clear hb;go_wp2;all_goals go_ret
   all_goals exact ⟨zg (by rw [hfin.out,hle.out];simp [*]),bw⟩
 have hfin:Hid (live f p = false):=by unfold Hid live;simp [h1]
 go_enter Tryz.func115,Tryz.ntmps115
 go_wp2;go_ret;exact ⟨zg hfin.out.symm,bw⟩
end
section
open Go.RowKit Go.Maps
theorem zji (f:List Bk) (A:Option Addr) (c:Nat) (w:World) (hl:f.length < 1000000000000) (h0:0 < f.length) (hp:∀ b ∈ f,b.pages.length < 1000000000000) (hF:Fl w A f) :
 Calls Tryz.prog 114 #[.slice A f.length c] w fun e w'=>e = .returned (.int .i64 (old f))∧old f < f.length∧Below w.heap.size w w':=by
 have HP:=Lib.hid hp;have hT:Hid (old f = Kl f 1 0 (f.drop 1)):=rfl;clear hp
 go_enter Tryz.func114,Tryz.ntmps114
 go_wp2
 go_loopw [3,4] (fun q i wr=>∃ (k m:Nat),k ≤ f.length∧1 ≤ k∧i = .int .i64 k∧q = .int .i64 m∧m < f.length∧Below w.heap.size w wr∧Hid (old f = Kl f k m (f.drop k))) (fun _ i _=>f.length - (intOf i).toNat)
 case atStart=>exact ⟨1,0,by omega,by omega,rfl,rfl,h0,Below.refl _ _,hT⟩
 case round =>
  clear hT;obtain ⟨k,m,hk,hk0,rfl,rfl,hm,hb,hT⟩:=hrel;by_cases hlt:k < f.length
  . obtain ⟨B,hB⟩:=zc hlt;obtain ⟨C,hC⟩:=zc hm;have hFk:=hF.below hb nl;obtain ⟨hs,hBk⟩:=hFk;obtain ⟨g,o,rfl⟩:=hBk.addr (by rintro rfl;simp at hlt);obtain ⟨⟨Ap,cp⟩,hx1,z0,z1,_,_,hR,_⟩:=hBk.at_ hB;obtain ⟨⟨Aq,cq⟩,hx2,y0,y1,_,_,hR2,_⟩:=hBk.at_ hC;have hd:=Lib.hid (zr hB);have hpl:=HP.out B (List.mem_of_getElem? hB);have hpl2:=HP.out C (List.mem_of_getElem? hC);have hk1:(k:Int) < f.length:=by omega
    have hm1:(m:Int) < f.length:=by omega
    have hgd:f.getD m zbk = C:=by rw [List.getD_eq_getElem?_getD,hC];rfl
    have hT1:Hid (old f = if most B < most C then Kl f (k + 1) k (f.drop (k + 1)) else Kl f (k + 1) m (f.drop (k + 1))):=by rw [Hid,hT.out,hd.out,Kl,hgd]
    have HB:=Lib.hid hB;have HC:=Lib.hid hC;clear hB hC hT hd hgd hx1 hx2;go_wp2;by_cases hxy:most B < most C
    . have hT2:Hid (old f = Kl f (k + 1) k (f.drop (k + 1))):=by rw [Hid,hT1.out,if_pos hxy]
      clear hT1
      go_region_with (first | (go_at_call 112;(first | with_reducible refine (yb B Ap cp _ hpl (by first | with_reducible exact hR | with_reducible exact hR.drew)).mono ?_ | with_reducible refine (yb C Aq cq _ hpl2 (by first | with_reducible exact hR2 | with_reducible exact hR2.drew)).mono ?_);rintro e w1 ⟨rfl,hb1⟩;(first | (with_reducible replace hb1:=Xr hb1) | skip);replace hb:=hb.trans (hb1.mono hb.size);have kk:=(qv hb1).1;replace z0:=(kk _ _ (zd z0)).trans z0;replace z1:=(kk _ _ (zd z1)).trans z1;replace y0:=(kk _ _ (zd y0)).trans y0;replace y1:=(kk _ _ (zd y1)).trans y1;replace hR:=hR.below hb1 nl;replace hR2:=hR2.below hb1 nl;clear hb1 kk))
      all_goals
       go_wp2;go_roundw
       (case rel=>exact ⟨k + 1,k,by omega,by omega,by go_num,rfl,hlt,hb,hT2⟩)
       (case measure=>simp [intOf];omega)
    have hT2:Hid (old f = Kl f (k + 1) m (f.drop (k + 1))):=by rw [Hid,hT1.out,if_neg hxy]
    clear hT1
    go_region_with (first | (go_at_call 112;(first | with_reducible refine (yb B Ap cp _ hpl (by first | with_reducible exact hR | with_reducible exact hR.drew)).mono ?_ | with_reducible refine (yb C Aq cq _ hpl2 (by first | with_reducible exact hR2 | with_reducible exact hR2.drew)).mono ?_);rintro e w1 ⟨rfl,hb1⟩;(first | (with_reducible replace hb1:=Xr hb1) | skip);replace hb:=hb.trans (hb1.mono hb.size);have kk:=(qv hb1).1;replace z0:=(kk _ _ (zd z0)).trans z0;replace z1:=(kk _ _ (zd z1)).trans z1;replace y0:=(kk _ _ (zd y0)).trans y0;replace y1:=(kk _ _ (zd y1)).trans y1;replace hR:=hR.below hb1 nl;replace hR2:=hR2.below hb1 nl;clear hb1 kk))
    all_goals
     go_wp2;go_roundw
     (case rel=>exact ⟨k + 1,m,by omega,by omega,by go_num,rfl,hm,hb,hT2⟩)
     (case measure=>simp [intOf];omega)
  obtain rfl:k = f.length:=by omega
  go_wp2;go_ret;have hfin:old f = m:=by rw [hT.out,List.drop_of_length_le nl];rfl
  exact ⟨qg (by rw [hfin]),by rw [hfin];exact hm,hb⟩
end
section
open Go.RowKit Go.Maps
theorem y5 {B:Nat} {w w':World} (h:Below B w w') (n:Nat):Below B w (w'.drewN n):=⟨h.os,h.tape,h.output,h.size,h.block⟩
theorem Bks.worn {w:World} {g o i:Nat} {f:List Bk} {hs:List (Option Addr × Nat)} {b:Bk} (h:Bks w (some ⟨g,o,none⟩) f hs) (hi:f[i]? = some b):w.cell? ⟨g,o + i * 2 + 1,none⟩ = some (.int .i64 b.worn):=by
 obtain ⟨_,_,_,z1,_⟩:=h.at_ hi;exact z1
theorem zgs (f:List Bk) (A:Option Addr) (c:Nat) (w:World) (hl:f.length < 1000000000000) (hp:∀ b ∈ f,b.pages.length < 1000000000000) (hF:Fl w A f) :
 Calls Tryz.prog 61 #[.slice A f.length c] w fun e w'=>e = .returned (.tuple #[.int .i64 (jd f).1, .bool (jd f).2])∧0 ≤ (jd f).1∧(f ≠ []->(jd f).1 < f.length)∧Below w.heap.size w w':=by
 have HP:=Lib.hid hp;have hT:Hid (jd f = j6 f 0 (-1) (f.drop 0)):=rfl;clear hp
 go_enter Tryz.func61,Tryz.ntmps61
 go_wp2
 go_loopw [4,5] (fun q i wr=>∃ (k:Nat) (m:Int),k ≤ f.length∧i = .int .i64 k∧q = .int .i64 m∧-1 ≤ m∧m < f.length∧Below w.heap.size w wr∧Hid (jd f = j6 f k m (f.drop k))) (fun _ i _=>f.length - (intOf i).toNat)
 case atStart=>exact ⟨0,-1,by omega,rfl,rfl,by omega,by omega,Below.refl _ _,hT⟩
 case round =>
  clear hT;obtain ⟨k,m,hk,rfl,rfl,hm0,hm1,hb,hT⟩:=hrel;by_cases hlt:k < f.length
  . obtain ⟨B,hB⟩:=zc hlt;have hFk:=hF.below hb nl;obtain ⟨hs,hBk⟩:=hFk;obtain ⟨g,o,rfl⟩:=hBk.addr (by rintro rfl;simp at hlt);obtain ⟨⟨Ap,cp⟩,_,z0,z1,_,_,hR,_⟩:=hBk.at_ hB;have hd:=Lib.hid (zr hB);have hpl:=HP.out B (List.mem_of_getElem? hB);have hk1:(k:Int) < f.length:=by omega
    have hT1:Hid (jd f = if 0 < clean B∧clean B < 4 then ((k:Int),true) else if 0 < clean B∧(m < 0∨B.worn < (f.getD m.toNat zbk).worn) then j6 f (k + 1) k (f.drop (k + 1)) else j6 f (k + 1) m (f.drop (k + 1))):=by rw [Hid,hT.out,hd.out,j6]
    have HB:=Lib.hid hB;clear hB hT hd;go_wp2_with fail
    refine (Zj B Ap cp _ hpl hR).mono ?_;rintro e w1 ⟨rfl,hb1⟩;have hb2:=hb.trans (hb1.mono hb.size);have hBk1:=hBk.below hb1 nl;replace z1:=hBk1.worn HB.out;have hmx:∀ m':Nat,m = m'->w1.cell? ⟨g,o + m' * 2 + 1,none⟩ = some (.int .i64 (f.getD m.toNat zbk).worn):=fun m' e=>by
     subst e;obtain ⟨C,hC⟩:=zc (l:=f) (k:=m') (by omega);have:=hBk1.worn hC;rw [this,Int.toNat_natCast,List.getD_eq_getElem?_getD,hC];rfl
    clear hb hb1 z0 hR;generalize clean B = x at *;by_cases h1:0 < x
    . have h1':(0:Int) < x:=by omega
      by_cases h2:x < 4
      . have hfin:Hid (jd f = ((k:Int),true)):=by rw [Hid,hT1.out,if_pos ⟨h1,h2⟩]
        have h2':(x:Int) < 4:=by omega
        clear hT1;go_wp2
        go_ret2
        rw [hfin.out];exact ⟨rfl,by simp,fun _=>hk1,hb2⟩
      have h2':(4:Int) ≤ x:=by omega
      by_cases h3:m < 0
      . have hT2:Hid (jd f = j6 f (k + 1) k (f.drop (k + 1))):=by rw [Hid,hT1.out,if_neg (fun h=>h2 h.2),if_pos ⟨h1, .inl h3⟩]
        clear hT1;go_wp2;go_quiet (fail);go_wp2;go_roundw
        case rel=>exact ⟨k + 1,k,by omega,by go_num,rfl,by omega,hk1,y5 hb2 _,hT2⟩
        case measure=>simp [intOf];omega
      obtain ⟨m',rfl⟩:=Int.eq_ofNat_of_zero_le (show 0 ≤ m by omega);have hmc:=hmx m' rfl;have hT1':Hid (jd f = if B.worn < (f.getD m' zbk).worn then j6 f (k + 1) k (f.drop (k + 1)) else j6 f (k + 1) m' (f.drop (k + 1))):=by
       rw [Hid,hT1.out,if_neg (fun h=>h2 h.2),Int.toNat_natCast];by_cases h4:B.worn < (f.getD m' zbk).worn
       . rw [if_pos ⟨h1, .inr h4⟩,if_pos h4]
       rw [if_neg (by intro h;rcases h.2 with h | h;omega;exact h4 h),if_neg h4]
      rw [Int.toNat_natCast] at hmc;clear hT1 hmx;generalize (f.getD m' zbk).worn = y at *;by_cases h4:B.worn < y
      . have hT2:Hid (jd f = j6 f (k + 1) k (f.drop (k + 1))):=by rw [Hid,hT1'.out,if_pos h4]
        clear hT1';go_wp2;go_quiet (fail);go_wp2;go_roundw
        case rel=>exact ⟨k + 1,k,by omega,by go_num,rfl,by omega,hk1,y5 hb2 _,hT2⟩
        case measure=>simp [intOf];omega
      have hT2:Hid (jd f = j6 f (k + 1) m' (f.drop (k + 1))):=by rw [Hid,hT1'.out,if_neg h4]
      clear hT1';go_wp2;go_quiet (fail);go_wp2;go_roundw
      case rel=>exact ⟨k + 1,m',by omega,by go_num,rfl,by omega,hm1,y5 hb2 _,hT2⟩
      case measure=>simp [intOf];omega
    obtain rfl:x = 0:=by omega
    have hT2:Hid (jd f = j6 f (k + 1) m (f.drop (k + 1))):=by rw [Hid,hT1.out,if_neg (fun h=>h1 h.1),if_neg (fun h=>h1 h.1)]
    clear hT1;go_wp2;go_quiet (fail);go_wp2;go_roundw
    case rel=>exact ⟨k + 1,m,by omega,by go_num,rfl,by omega,hm1,y5 hb2 _,hT2⟩
    case measure=>simp [intOf];omega
  obtain rfl:k = f.length:=by omega
  have hfin:Hid (jd f = (max m 0,decide (0 ≤ m))):=by rw [Hid,hT.out,List.drop_of_length_le nl];rfl
  by_cases hm:m < 0
  . have hm':¬ 0 ≤ m:=by omega
    go_wp2
    go_ret2
    rw [hfin.out];refine ⟨?_,by simp;omega,fun hne=>?_,hb⟩
    . simp [hm'];omega
    have:0 < f.length:=List.length_pos_iff.2 hne;simp;omega
  have hm':0 ≤ m:=by omega
  go_wp2;all_goals go_ret2
  all_goals rw [hfin.out]
  all_goals refine ⟨?_,by simp;omega,fun hne=>?_,hb⟩
  all_goals first
   | (have:0 < f.length:=List.length_pos_iff.2 hne;simp;omega)
   | (simp [hm'];omega)
end
section
open Go.RowKit
theorem zk5:∃ cs:Array Value,(∀ w:World,(Instr.makeSlice 183 (.int .i64 601) (.int .i64 601)).run Tryz.prog w = .ok (.slice (some ⟨w.heap.size,0,none⟩) 601 601) (w.alloc (.cells cs 4)))∧∀ j:Nat,j < 601->cs[j]? = some (.bool false):=by
 refine ⟨Array.replicate 601 (.bool false),fun w=>?_,fun j hj=>by simp [hj]⟩
 kernel_rfl
end
section
open Go.RowKit Go.Maps
theorem zb4 (r:Rc) (w:World):Calls Tryz.prog 72 #[.agg #[.int .i64 r.kind, .int .i64 r.seq, .int .i64 r.addr, .int .i64 r.val]] w fun e w'=>e = .returned (.bool (xj r))∧Below w.heap.size w w':=by
 obtain ⟨k,s,a,v⟩:=r;dsimp only;have hB:Below w.heap.size w (w.alloc (.cells #[.int .i64 k, .int .i64 s, .int .i64 a, .int .i64 v] 64)):=(Below.refl _ _).alloc nl _;have hq:Hid (∀ x,x = (decide (1 ≤ k) && decide (k ≤ 2) && (decide (1 ≤ s) && decide (s ≤ 600)) && (decide (1 ≤ a) && decide (a ≤ 6)) && (decide (0 ≤ v) && decide (v ≤ 9)))->xj ⟨k,s,a,v⟩ = x):=by
  intro x hx;rw [hx];unfold xj zdr jk valB;rw [Bool.eq_iff_iff];simp;omega
 go_enter Tryz.func72,Tryz.ntmps72
 go_wp2_with (go_at_call 69;refine (kw _ _ _ _).mono ?_;rintro e w' ⟨rfl,rfl⟩)
 all_goals (go_ret;exact ⟨zg (hq.out _ (by simp [*])).symm,hB⟩)
theorem Q5 (p:Pg) (w:World):Calls Tryz.prog 133 #[.agg #[.int .i64 p.state, .int .i64 p.rc.kind, .int .i64 p.rc.seq, .int .i64 p.rc.addr, .int .i64 p.rc.val]] w fun e w'=>e = .returned (.bool (zn p))∧Below w.heap.size w w':=by
 obtain ⟨st,r⟩:=p;dsimp only;have hB:Below w.heap.size w (w.alloc (.cells #[.int .i64 st, .int .i64 r.kind, .int .i64 r.seq, .int .i64 r.addr, .int .i64 r.val] 76)):=(Below.refl _ _).alloc nl _;by_cases h1:st = 1
 . subst h1;have hq:Hid (zn ⟨1,r⟩ = xj r):=rfl
   go_enter Tryz.func133,Tryz.ntmps133
   go_wp2_with (go_at_call 72;refine (zb4 r _).mono ?_;rintro e w1 ⟨rfl,hb⟩)
   go_ret;exact ⟨zg hq.out.symm,hB.trans (hb.mono (by simp))⟩
 clear hB;obtain ⟨k,s,a,v⟩:=r;dsimp only;by_cases h0:st = 0
 . subst h0;have hq:Hid (zn ⟨0,⟨k,s,a,v⟩⟩ = decide ((⟨k,s,a,v⟩:Rc) = rc0)):=rfl
   go_enter Tryz.func133,Tryz.ntmps133
   go_wp2;all_goals (go_ret;exact ⟨zg (by rw [hq.out];simp [rc0, *]),(Below.refl _ _).alloc nl _⟩)
 by_cases h2:st = 2
 . subst h2;have hq:Hid (zn ⟨2,⟨k,s,a,v⟩⟩ = decide ((⟨k,s,a,v⟩:Rc) = rc0)):=rfl
   go_enter Tryz.func133,Tryz.ntmps133
   go_wp2;all_goals (go_ret;exact ⟨zg (by rw [hq.out];simp [rc0, *]),(Below.refl _ _).alloc nl _⟩)
 have hk:Hid (zn ⟨st,⟨k,s,a,v⟩⟩ = false):=by unfold Hid zn;simp [h1,h2,h0]
 go_enter Tryz.func133,Tryz.ntmps133
 go_wp2;go_ret;exact ⟨zg hk.out.symm,(Below.refl _ _).alloc nl _⟩

def Yl (w:World) (g:Nat) (seen:List Int):Prop:=∀ j:Nat,j < 601->w.cell? ⟨g,j,none⟩ = some (.bool (decide ((j:Int) ∈ seen)))∧w.frozen? ⟨g,j,none⟩ = false
theorem Yl.below {w w':World} {g B:Nat} {seen:List Int} (h:Yl w g seen) (hb:Below B w w') (hg:g < B):Yl w' g seen:=fun j hj =>
 ⟨(hb.cell (p:=⟨g,j,none⟩) hg).trans (h j hj).1,(hb.frozen (p:=⟨g,j,none⟩) hg).trans (h j hj).2⟩
theorem Yl.put {w:World} {g n:Nat} {seen:List Int} (h:Yl w g seen) (hn:n < 601):Yl (w.setCell ⟨g,n,none⟩ (.bool true)) g ((n:Int) :: seen):=fun j hj=>by
 refine ⟨?_,(World.frozen?_setCell _ _ _ _).trans (h j hj).2⟩;by_cases e:j = n
 . subst e;rw [World.cell?_setCell_same w _ _ (h j hj).1];simp
 rw [World.cell?_setCell_other w _ _ _ (fun e'=>e (by injection e' with _ e2 _;exact e2.symm)),(h j hj).1];simp [show ¬ (j:Int) = n by omega]
theorem Yl.same {w:World} {g n:Nat} {seen:List Int} (h:Yl w g seen) (hn:n < 601) (hs:¬ (n:Int) ∈ seen):Yl (w.setCell ⟨g,n,none⟩ (.bool false)) g seen:=fun j hj=>by
 refine ⟨?_,(World.frozen?_setCell _ _ _ _).trans (h j hj).2⟩;by_cases e:j = n
 . subst e;rw [World.cell?_setCell_same w _ _ (h j hj).1];simp [hs]
 rw [World.cell?_setCell_other w _ _ _ (fun e'=>e (by injection e' with _ e2 _;exact e2.symm)),(h j hj).1]
end
section
open Go.RowKit Go.Maps
theorem Yw (f:List Bk) (A:Option Addr) (c:Nat) (w:World) (hlen:f.length < 1000000000000) (hF:Fl w A f):Calls Tryz.prog 111 #[.slice A f.length c] w fun e w'=>e = .returned (.bool (ze f))∧Below w.heap.size w w':=by
 obtain ⟨hs,hF⟩:=hF;obtain ⟨cs,hmk,hcs⟩:=zk5;have hfin:Hid (ze f = (decide (f.length = 4) && zt [] f)):=by unfold Hid ze;rw [Yy]
 have hB0:Below w.heap.size w (w.alloc (.cells cs 4)):=(Below.refl _ _).alloc nl _;have hM0:Yl (w.alloc (.cells cs 4)) w.heap.size []:=fun j hj=>⟨by simp [hcs j hj],by simp⟩;clear hcs
 go_enter Tryz.func111,Tryz.ntmps111
 go_wp2
 go_loopw [4] (fun i wr=>∃ (k:Nat) (seen:List Int),k ≤ f.length∧i = .int .i64 k∧Below w.heap.size w wr∧w.heap.size < wr.heap.size∧Yl wr w.heap.size seen∧(∀ x ∈ seen,1 ≤ x)∧Hid (zt [] f = zt seen (f.drop k))) (fun i _=>f.length - (intOf i).toNat)
 case atStart=>exact ⟨0,[],by omega,rfl,hB0,by simp,hM0,by simp,rfl⟩
 case round =>
  clear hM0 hB0;obtain ⟨k,seen,hk,rfl,hb,hsz,hM,hpos,hg⟩:=hrel;by_cases hlt:k < f.length
  . obtain ⟨B,hB⟩:=zc hlt;have hd:=Lib.hid (zr hB);obtain ⟨bk,off,rfl⟩:=hF.addr (by rintro rfl;simp at hlt);obtain ⟨⟨Ap,cp⟩,_,c0,c1,_,_,hR,hlc⟩:=hF.at_ hB;have hbk:bk < w.heap.size:=zd c0;have c00:=c0;replace c0:=(hb.cell (p:=⟨bk,off + k * 2,none⟩) hbk).trans c0;replace c1:=(hb.cell (p:=⟨bk,off + k * 2 + 1,none⟩) hbk).trans c1;have HBB:=Lib.hid hB;clear hB;obtain ⟨Ps,wn⟩:=B;dsimp only at *;have hlt':(k:Int) < f.length:=by omega
    by_cases hl4:Ps.length = 4
    . by_cases hwn:0 ≤ wn∧wn ≤ 200
      . have hstep:Hid (zt [] f = xl seen false (fun s=>zt s (f.drop (k + 1))) Ps):=by rw [Hid,hg.out,hd.out,zt,if_neg (by simp [hl4];omega)]
        have hdw:(decide (0 ≤ wn) && decide (wn ≤ 200)) = true:=by simp [hwn.1,hwn.2]
        obtain ⟨pb,po,rfl⟩:=hR.addr (ky (by rintro rfl;simp at hl4));have HL:=Lib.hid hl4;rw [hl4] at c0 c00;have C0:=Lib.hid c00;clear hl4 hlc hg hd hwn c00;have HPOS:=Lib.hid hpos;clear hpos;go_wp2_with (go_at_call 69;refine (kw _ _ _ _).mono ?_;rintro e w' ⟨rfl,rfl⟩;rw [hdw])
        go_loopw [5] (fun i wr=>∃ (j:Nat) (seen:List Int),j ≤ 4∧i = .int .i64 j∧Below w.heap.size w wr∧w.heap.size < wr.heap.size∧Yl wr w.heap.size seen∧Hid (∀ x ∈ seen,1 ≤ x)∧Hid (zt [] f = xl seen (match j with | 0=>false | m + 1=>(Ps.getD m ⟨0,rc0⟩).state == 0) (fun s=>zt s (f.drop (k + 1))) (Ps.drop j))) (fun i _=>4 - (intOf i).toNat)
        case atStart=>exact ⟨0,seen,by omega,rfl,hb,hsz,hM,HPOS,hstep.out⟩
        case round =>
         clear hM seen hsz hb hstep HPOS c0 c1;obtain ⟨j,seen,hj,rfl,hb,hsz,hM,HPOS,hg⟩:=hrel;by_cases hltj:j < 4
         . obtain ⟨p,hp⟩:=zc (l:=Ps) (k:=j) (by have:=HL.out;omega);have hd:=Lib.hid (zr hp);have HP:=Lib.hid hp;have b0:=(hb.cell (p:=⟨bk,off + k * 2,none⟩) hbk).trans C0.out;obtain ⟨c0,c1,c2,c3,c4⟩:=(hR.below hb nl).pg hp;clear hp;obtain ⟨st,⟨kd,sq,ad,vl⟩⟩:=p;dsimp only at *;have hltj':(j:Int) < 4:=by omega
           by_cases hpo:zn ⟨st,⟨kd,sq,ad,vl⟩⟩ = true
           . have hsq:0 ≤ sq∧sq ≤ 600∧(st = 1->1 ≤ sq)∧(st ≠ 1->sq = 0)∧(st = 0∨st = 1∨st = 2):=by
              unfold zn at hpo;by_cases h1:st = 1
              . simp [h1,xj] at hpo;omega
              rw [if_neg h1] at hpo;by_cases h2:st = 0∨st = 2
              . rw [if_pos h2] at hpo;simp [rc0] at hpo;omega
              rw [if_neg h2] at hpo;cases hpo
             obtain ⟨hs0,hs6,hs1,hsn,hst⟩:=hsq;obtain ⟨n,rfl⟩:=Int.eq_ofNat_of_zero_le hs0;have hn:n < 601:=by omega
             have hgetj:(Ps.getD j ⟨0,rc0⟩) = ⟨st,⟨kd,(n:Int),ad,vl⟩⟩:=by rw [List.getD_eq_getElem?_getD,HP.out];rfl
             have HG:=Lib.hid hgetj;clear hgetj;go_wp2_with fail
             refine (Q5 ⟨st,⟨kd,(n:Int),ad,vl⟩⟩ _).mono ?_;rintro e w1 ⟨rfl,hb1⟩;rw [hpo];have x0:w1.cell? ⟨wr.heap.size,0,none⟩ = some (.int .i64 st):=(hb1.cell (by simp)).trans (by simp);have x2:w1.cell? ⟨wr.heap.size,2,none⟩ = some (.int .i64 n):=(hb1.cell (by simp)).trans (by simp);have hB1:Below w.heap.size w w1:=(hb.alloc hb.size _).trans (hb1.mono (by have:=hb.size;simp;omega));have hM1:Yl w1 w.heap.size seen:=(hM.below (B:=wr.heap.size) ((Below.refl _ _).alloc nl _) hsz).below hb1 (by simp;omega);have hsz1:w.heap.size < w1.heap.size:=by have:=hb1.size;simp at this;omega
             have b1:=(hB1.cell (p:=⟨bk,off + k * 2,none⟩) hbk).trans C0.out;obtain ⟨m0,m1⟩:=hM1 n hn;have hR1:=hR.below hB1 nl;clear hb1 c0 c1 c2 c3 c4 hM b0;have hnn:(0:Int) ≤ n:=by omega
             have hn6:(n:Int) < 601:=by omega
             -- what is next
             have hnext:Hid (∀ s',xl s' ((⟨st,⟨kd,(n:Int),ad,vl⟩⟩:Pg).state == 0) (fun s=>zt s (f.drop (k + 1))) (Ps.drop (j + 1)) = xl s' (match j + 1 with | 0=>false | m + 1=>(Ps.getD m ⟨0,rc0⟩).state == 0) (fun s=>zt s (f.drop (k + 1))) (Ps.drop (j + 1))):=by intro s';simp only [HG.out]
             by_cases hst1:st = 1
             . subst hst1;have hn1:=hs1 rfl;have HPO:=Lib.hid hpo;clear hs1 hsn hst hpo;rcases j with _ | m
               . -- the first page
                 have hj0:¬ (0 < ((0:Nat):Int)):=by omega
                 by_cases hin:(n:Int) ∈ seen
                 . have m0':w1.cell? ⟨w.heap.size,n,none⟩ = some (.bool true):=by rw [m0];simp [hin]
                   have hno:Hid (zt [] f = false):=by
                    rw [Hid,hg.out,hd.out];exact Z7 (.inr (.inr ⟨rfl,hin⟩))
                   clear m0 hg hd hin;go_wp2;go_ret;exact ⟨zg (by rw [hfin.out,hno.out,Bool.and_false]),hB1⟩
                 . have m0':w1.cell? ⟨w.heap.size,n,none⟩ = some (.bool false):=by rw [m0];simp [hin]
                   have hM5:=hM1.put hn;have hB5:Below w.heap.size w (w1.setCell ⟨w.heap.size,n,none⟩ (.bool true)):=hB1.setCell (p:=⟨w.heap.size,n,none⟩) nl _;have HPOS5:Hid (∀ x ∈ (n:Int) :: seen,1 ≤ x):=by intro x hx;rcases List.mem_cons.1 hx with rfl | hx;exact hn1;exact HPOS.out x hx
                   have hstep:Hid (zt [] f = xl ((n:Int) :: seen) (match 0 + 1 with | 0=>false | m + 1=>(Ps.getD m ⟨0,rc0⟩).state == 0) (fun s=>zt s (f.drop (k + 1))) (Ps.drop (0 + 1))):=by
                    rw [Hid,hg.out,hd.out,Yx HPO.out (fun h=>by cases h) rfl hin];exact hnext.out _
                   clear m0 hg hd hM1 hin;go_wp2
                   go_region
                   go_wp2;go_roundw
                   case rel=>exact ⟨0 + 1,_,by omega,by go_num,hB5.drew,by simpa using hsz1,hM5,HPOS5,hstep⟩
                   case measure=>simp [intOf]
               obtain ⟨q,hq⟩:=zc (l:=Ps) (k:=m) (by have:=HL.out;omega);have hgq:(Ps.getD m ⟨0,rc0⟩) = q:=by rw [List.getD_eq_getElem?_getD,hq];rfl
               obtain ⟨q0,_,_,_,_⟩:=hR1.pg hq;have hjm:(0:Int) < ((m + 1:Nat):Int):=by omega
               have hm1:(m:Int) < 4:=by omega
               by_cases hq0:q.state = 0
               . have hno:Hid (zt [] f = false):=by
                  rw [Hid,hg.out,hd.out];exact Z7 (.inr (.inl ⟨by simp only [hgq,hq0];rfl,by simp⟩))
                 rw [hq0] at q0;clear hq hgq hq0 hg hd;go_wp2;go_ret;exact ⟨zg (by rw [hfin.out,hno.out,Bool.and_false]),hB1⟩
               have hq0':(q.state == 0) = false:=by simpa using hq0
               have hpcf:(Ps.getD m ⟨0,rc0⟩).state = 0->False:=by rw [hgq];exact hq0
               have HPC:=Lib.hid hpcf;clear hpcf hgq hq;by_cases hin:(n:Int) ∈ seen
               . have m0':w1.cell? ⟨w.heap.size,n,none⟩ = some (.bool true):=by rw [m0];simp [hin]
                 have hno:Hid (zt [] f = false):=by
                  rw [Hid,hg.out,hd.out];exact Z7 (.inr (.inr ⟨rfl,hin⟩))
                 clear m0 hg hd hin;go_wp2;go_ret;exact ⟨zg (by rw [hfin.out,hno.out,Bool.and_false]),hB1⟩
               have m0':w1.cell? ⟨w.heap.size,n,none⟩ = some (.bool false):=by rw [m0];simp [hin]
               have hM5:=hM1.put hn;have hB5:Below w.heap.size w (w1.setCell ⟨w.heap.size,n,none⟩ (.bool true)):=hB1.setCell (p:=⟨w.heap.size,n,none⟩) nl _;have HPOS5:Hid (∀ x ∈ (n:Int) :: seen,1 ≤ x):=by intro x hx;rcases List.mem_cons.1 hx with rfl | hx;exact hn1;exact HPOS.out x hx
               have hstep:Hid (zt [] f = xl ((n:Int) :: seen) (match (m + 1) + 1 with | 0=>false | m + 1=>(Ps.getD m ⟨0,rc0⟩).state == 0) (fun s=>zt s (f.drop (k + 1))) (Ps.drop ((m + 1) + 1))):=by
                rw [Hid,hg.out,hd.out,Yx HPO.out (fun h=>absurd (by simpa using h) HPC.out) rfl hin];exact hnext.out _
               clear m0 hg hd hM1 hin;go_wp2
               go_region
               go_wp2;go_roundw
               case rel=>exact ⟨(m + 1) + 1,_,by omega,by go_num,hB5.drew,by simpa using hsz1,hM5,HPOS5,hstep⟩
               case measure=>simp [intOf];omega
             have hn0:n = 0:=by have:=hsn hst1;omega
             subst hn0;have hns:¬ ((0:Nat):Int) ∈ seen:=fun h=>by have:=HPOS.out _ h;omega
             have hM5:=hM1.same (by omega) hns;have hB5:Below w.heap.size w (w1.setCell ⟨w.heap.size,0,none⟩ (.bool false)):=hB1.setCell (p:=⟨w.heap.size,0,none⟩) nl _;have m0':w1.cell? ⟨w.heap.size,0,none⟩ = some (.bool false):=by rw [m0];simpa using hns
             clear m0 hs1 hsn;have hq1:(st == 1) = false:=by simpa using hst1
             by_cases hst0:st = 0
             . subst hst0;have hstep:Hid (zt [] f = xl seen (match j + 1 with | 0=>false | m + 1=>(Ps.getD m ⟨0,rc0⟩).state == 0) (fun s=>zt s (f.drop (k + 1))) (Ps.drop (j + 1))):=by
                rw [Hid,hg.out,hd.out,Z6 hpo (fun _=>rfl) hst1];exact hnext.out seen
               clear hg hd hM1;go_wp2;all_goals
                go_region
                go_wp2;go_roundw
                case rel=>exact ⟨j + 1,seen,by omega,by go_num,hB5.drew,by simpa using hsz1,hM5,HPOS,hstep⟩
                case measure=>simp [intOf];omega
             have h2:st = 2:=by omega
             subst h2;rcases j with _ | m
             . -- the first page
               have hj0:¬ (0 < ((0:Nat):Int)):=by omega
               have hstep:Hid (zt [] f = xl seen (match 0 + 1 with | 0=>false | m + 1=>(Ps.getD m ⟨0,rc0⟩).state == 0) (fun s=>zt s (f.drop (k + 1))) (Ps.drop (0 + 1))):=by
                rw [Hid,hg.out,hd.out,Z6 hpo (fun h=>by cases h) (by simp)];exact hnext.out seen
               clear hg hd hM1;go_wp2
               go_region
               go_wp2;go_roundw
               case rel=>exact ⟨0 + 1,seen,by omega,by go_num,hB5.drew,by simpa using hsz1,hM5,HPOS,hstep⟩
               case measure=>simp [intOf]
             obtain ⟨q,hq⟩:=zc (l:=Ps) (k:=m) (by have:=HL.out;omega);have hgq:(Ps.getD m ⟨0,rc0⟩) = q:=by rw [List.getD_eq_getElem?_getD,hq];rfl
             obtain ⟨q0,_,_,_,_⟩:=hR1.pg hq;have hjm:(0:Int) < ((m + 1:Nat):Int):=by omega
             have hm1:(m:Int) < 4:=by omega
             by_cases hq0:q.state = 0
             . have hno:Hid (zt [] f = false):=by
                rw [Hid,hg.out,hd.out];exact Z7 (.inr (.inl ⟨by simp only [hgq,hq0];rfl,by simp⟩))
               rw [hq0] at q0;clear hq hgq hq0 hg hd;go_wp2;go_ret;exact ⟨zg (by rw [hfin.out,hno.out,Bool.and_false]),hB1⟩
             have hq0':(q.state == 0) = false:=by simpa using hq0
             have hpcf:(Ps.getD m ⟨0,rc0⟩).state = 0->False:=by rw [hgq];exact hq0
             have HPC:=Lib.hid hpcf;clear hpcf hgq hq;have hstep:Hid (zt [] f = xl seen (match m + 1 + 1 with | 0=>false | m + 1=>(Ps.getD m ⟨0,rc0⟩).state == 0) (fun s=>zt s (f.drop (k + 1))) (Ps.drop (m + 1 + 1))):=by
              rw [Hid,hg.out,hd.out,Z6 hpo (fun h=>absurd (by simpa using h) HPC.out) (by simp)];exact hnext.out seen
             clear hg hd hM1;go_wp2
             go_region
             go_wp2;go_roundw
             case rel=>exact ⟨m + 1 + 1,seen,by omega,by go_num,hB5.drew,by simpa using hsz1,hM5,HPOS,hstep⟩
             case measure=>simp [intOf];omega
           have ho:zn ⟨st,⟨kd,sq,ad,vl⟩⟩ = false:=by simpa using hpo
           go_wp2_with fail
           refine (Q5 ⟨st,⟨kd,sq,ad,vl⟩⟩ _).mono ?_;rintro e w1 ⟨rfl,hb1⟩;rw [ho];go_wp2;go_ret;exact ⟨zg (by rw [hfin.out,hg.out,hd.out,xl,if_pos (.inl ho),Bool.and_false]),(hb.alloc hb.size _).trans (hb1.mono (by have:=hb.size;simp;omega))⟩
         obtain rfl:j = 4:=by omega
         have hstep:Hid (zt [] f = zt seen (f.drop (k + 1))):=by rw [Hid,hg.out,show Ps.drop 4 = [] from List.drop_of_length_le (by have:=HL.out;omega)];rfl
         clear hg;go_wp2;go_roundw
         case rel=>exact ⟨k + 1,seen,by omega,by go_num,hb,hsz,hM,HPOS.out,hstep⟩
         case measure=>simp [intOf];omega
      have hdw:(decide (0 ≤ wn) && decide (wn ≤ 200)) = false:=by simp;omega
      have HW:=Lib.hid hwn;rw [hl4] at c0;have HL:=Lib.hid hl4;clear hl4 hwn;go_wp2_with (go_at_call 69;refine (kw _ _ _ _).mono ?_;rintro e w' ⟨rfl,rfl⟩;rw [hdw])
      go_ret;exact ⟨zg (by rw [hfin.out,hg.out,hd.out,zt,if_pos (by have:=HW.out;simp only;omega),Bool.and_false]),hb⟩
    go_wp2;go_ret;exact ⟨zg (by rw [hfin.out,hg.out,hd.out,zt,if_pos (.inl hl4),Bool.and_false]),hb⟩
  obtain rfl:k = f.length:=by omega
  go_wp2;go_ret;refine ⟨zg ?_,hb⟩;rw [hfin.out,hg.out,List.drop_of_length_le nl];unfold zt;rw [Bool.and_true,Bool.eq_iff_iff];simp;omega
end
section
open Go.RowKit Go.Maps
theorem Tryz.info3_block:(Tryz.prog.info? 99).map (fun i=>(i.zero,i.size,i.bytes)) = some (some (.agg #[.slice none 0 0, .int .i64 0]),2,32):=by kernel_rfl
structure Bld (B:Nat) (w:World) (g k c:Nat) (f:List Bk) (ks:List (Option Addr × Nat)):Prop where
 own:w.ownsRow B 99 2 (.slice (some ⟨g,0,none⟩) k c) k (hdrs f ks)
 bks:Bks w (some ⟨g,0,none⟩) f ks
 apt:Apt B w.heap.size (some ⟨g,0,none⟩) ks
theorem Apt.snoc {lo hi hi' g g':Nat} {hs:List (Option Addr × Nat)} {x:Option Addr × Nat} (h:Apt lo hi (some ⟨g,0,none⟩) hs) (hg:g' = g∨hi ≤ g') (hg':g' < hi') (hx:∀ b,blk x.1 b->hi ≤ b∧b < hi'∧b ≠ g') (hlh:lo ≤ hi) (hh:hi ≤ hi'):Apt lo hi' (some ⟨g',0,none⟩) (hs ++ [x]):=by
 have hgl:=h.top g (by rw [zf]);have key:∀ (j:Nat) (y:Option Addr × Nat),(hs ++ [x])[j]? = some y->(j = hs.length∧y = x)∨(j < hs.length∧hs[j]? = some y):=fun j y hy=>by
  by_cases hj:j < hs.length
  . rw [List.getElem?_append_left hj] at hy;exact .inr ⟨hj,hy⟩
  rw [List.getElem?_append_right (by omega)] at hy;have hl:=(List.getElem?_eq_some_iff.1 hy).1;simp at hl;have e:j = hs.length:=by omega
  subst e;simp at hy;exact .inl ⟨rfl,hy.symm⟩
 refine ⟨fun b hb=>by rw [zf] at hb;omega,fun j y b hy hb=>?_,fun j m y z b hy hz hb hc=>?_⟩
 . rcases key j y hy with ⟨_,ey⟩ | ⟨_,hy'⟩
   . have:=hx b (ey ▸ hb);exact ⟨by omega,by omega,by rw [zf];omega⟩
   have:=h.in_ j y b hy' hb;rw [zf] at this;exact ⟨by omega,by omega,by rw [zf];omega⟩
 rcases key j y hy with ⟨ej,ey⟩ | ⟨_,hy'⟩ <;> rcases key m z hz with ⟨em,ez⟩ | ⟨_,hz'⟩
 . omega
 . have h1:=hx b (ey ▸ hb);have h2:=h.in_ m z b hz' hc;omega
 . have h1:=hx b (ez ▸ hc);have h2:=h.in_ j y b hy' hb;omega
 exact h.two j m y z b hy' hz' hb hc
theorem Bks.snoc {w w':World} {g g':Nat} {f:List Bk} {hs:List (Option Addr × Nat)} {b:Bk} {x:Option Addr × Nat} (h:Bks w (some ⟨g,0,none⟩) f hs) (hk:∀ (i:Nat) (y:Option Addr × Nat),hs[i]? = some y->∀ c,blk y.1 c->c < w.heap.size->w'.heap[c]? = w.heap[c]?)
 (hr:Row w' (some ⟨g',0,none⟩) (hdrs f hs ++ [.slice x.1 b.pages.length x.2, .int .i64 b.worn])) (hp:Row w' x.1 (pgs b.pages)) (hc:b.pages.length ≤ x.2):Bks w' (some ⟨g',0,none⟩) (f ++ [b]) (hs ++ [x]):=by
 refine ⟨by simp [h.len],by rw [Kz f [b] hs [x] h.len];exact hr,fun i c y hc' hy=>?_⟩;have hl:=h.len;by_cases hi:i < f.length
 . rw [List.getElem?_append_left hi] at hc';rw [List.getElem?_append_left (by omega)] at hy;obtain ⟨h1,h2⟩:=h.pg i c y hc' hy;exact ⟨h1.keep (hk i y hy),h2⟩
 rw [List.getElem?_append_right (by omega)] at hc';rw [List.getElem?_append_right (by omega)] at hy;have hl':=(List.getElem?_eq_some_iff.1 hc').1;simp at hl';have e:i = f.length:=by omega
 subst e;simp at hc';rw [hl] at hy;simp at hy;subst hc';subst hy;exact ⟨hp,hc⟩
theorem zg2 {w:World} {base:Nat} {e:TypeId} {size n c g:Nat} {xs:List Value} (h:w.ownsRow base e size (.slice (some ⟨g,0,none⟩) n c) n xs):n ≤ c:=by
 obtain ⟨_,⟨hv,_⟩ | ⟨g',cap,cur,hv,_,_,hc,_⟩⟩:=h
 . cases hv
 cases hv;exact hc
theorem Bld.step {B:Nat} {wr w1 w2:World} {g k c g1 c1 g2 c2 n:Nat} {f:List Bk} {ks:List (Option Addr × Nat)} {b:Bk} {o:Obj} (h:Bld B wr g k c f ks) (hn:b.pages.length = n) (hB:B ≤ wr.heap.size)
 (h1:Row w1 (some ⟨g1,0,none⟩) (pgs b.pages)) (hc1:n ≤ c1) (hg1:wr.heap.size ≤ g1) (hl1:g1 < w1.heap.size) (hb1:Below wr.heap.size wr w1)
 (hown:w2.ownsRow B 99 2 (.slice (some ⟨g2,0,none⟩) (k + 1) c2) (k + 1) (hdrs f ks ++ [.slice (some ⟨g1,0,none⟩) n c1, .int .i64 b.worn])) (hgr:(w1.alloc o).grownBy w2 (some g)) (hg2:some g = some g2∨g2 = w1.heap.size + 1) (hl2:g2 < w2.heap.size) :
 Bld B w2 g2 (k + 1) c2 (f ++ [b]) (ks ++ [(some ⟨g1,0,none⟩,c1)]):=by
 have hgl:=h.apt.top g (by rw [zf]);have hs1:=hb1.size;have hs2:=hgr.size;rw [World.size_alloc] at hs2;have hkeep:∀ i,i < w1.heap.size->i ≠ g->w2.heap[i]? = w1.heap[i]?:=fun i hi hne=>(hgr.block i (by rw [World.size_alloc];omega) (by intro e;cases e;exact hne rfl)).trans (Below.heap_alloc w1 o i hi);refine ⟨by rw [Kz _ _ _ _ h.bks.len];simp only [hdrs,hn];exact hown, ?_, ?_⟩
 . refine h.bks.snoc (fun i y hy d hd hl=>?_) (by rw [hn];exact Row.of_own hown) (h1.keep fun d hd _=>hkeep d ?_ ?_) (by rw [hn];exact hc1)
   . have h3:=h.apt.in_ i y d hy hd;rw [zf] at h3;rw [hkeep d (by omega) (by omega)];exact hb1.block d hl
   . rw [zf] at hd;omega
   rw [zf] at hd;omega
 refine h.apt.snoc (hi':=w2.heap.size) ?_ hl2 (fun d hd=>?_) hB (by omega)
 . rcases hg2 with e | e
   . cases e;exact .inl rfl
   exact .inr (by omega)
 rw [zf] at hd;refine ⟨by omega,by omega, ?_⟩;rcases hg2 with e | e
 . cases e;omega
 omega
end
section
open Go.RowKit Go.Maps
theorem zju (w:World):(Instr.makeSlice 97 (.int .i64 4) (.int .i64 4)).run Tryz.prog w = .ok (.slice (some ⟨w.heap.size,0,none⟩) 4 4) (w.alloc (.cells #[.int .i64 0, .int .i64 0, .int .i64 0, .int .i64 0, .int .i64 0, .int .i64 0, .int .i64 0, .int .i64 0, .int .i64 0, .int .i64 0, .int .i64 0, .int .i64 0, .int .i64 0, .int .i64 0, .int .i64 0, .int .i64 0, .int .i64 0, .int .i64 0, .int .i64 0, .int .i64 0] 76)):=by kernel_rfl
theorem zdc (w:World):Calls Tryz.prog 46 #[] w fun e w' =>
 ∃ g c',e = .returned (.slice (some ⟨g,0,none⟩) 4 c')∧4 ≤ c'∧OFl w' w.heap.size w'.heap.size (some ⟨g,0,none⟩) xp∧Below w.heap.size w w':=by
 obtain ⟨ib,hib,hbz0,hbz1,hbz2⟩:=info_parts Tryz.info3_block;have hmk:=zju;have hb0:Bld w.heap.size (w.alloc (.cells #[] 99)) w.heap.size 0 0 (xp.take 0) [] :=
  ⟨World.ownsRow_lit w #[] 0 nl (by unfold maxLen;omega) rfl,⟨rfl,Row.nil _ _,fun _ _ _ h _=>absurd h (by simp)⟩,⟨fun b hb=>by rw [zf] at hb;simp;omega,fun _ _ _ h _=>absurd h (by simp),fun _ _ _ _ _ h _ _ _=>absurd h (by simp)⟩⟩
 have hB0:Below w.heap.size w (w.alloc (.cells #[] 99)):=(Below.refl _ _).alloc nl _
 go_enter Tryz.func46,Tryz.ntmps46
 go_wp2
 go_loopw [1,2] (fun v i wr=>∃ (k g c:Nat) (ks:List (Option Addr × Nat)),k ≤ 4∧i = .int .i64 k∧v = .slice (some ⟨g,0,none⟩) k c∧Below w.heap.size w wr∧Bld w.heap.size wr g k c (xp.take k) ks∧k ≤ c) (fun _ i _=>4 - (intOf i).toNat)
 case atStart=>exact ⟨0,_,0,[],by omega,rfl,rfl,hB0,hb0,Nat.le_refl _⟩
 case round =>
  clear hb0 hB0;obtain ⟨k,g,c,ks,hk,rfl,rfl,hb,hBd,hkc⟩:=hrel;by_cases hlt:k < 4
  . have hown:=hBd.own;have hsz:=hb.size;have hgl:=hBd.apt.top g (by rw [zf]);have hR1:Row (wr.alloc (.cells #[.int .i64 0, .int .i64 0, .int .i64 0, .int .i64 0, .int .i64 0, .int .i64 0, .int .i64 0, .int .i64 0, .int .i64 0, .int .i64 0, .int .i64 0, .int .i64 0, .int .i64 0, .int .i64 0, .int .i64 0, .int .i64 0, .int .i64 0, .int .i64 0, .int .i64 0, .int .i64 0] 76)) (some ⟨wr.heap.size,0,none⟩) (pgs (List.replicate 4 pg0)):=Row.new wr #[.int .i64 0, .int .i64 0, .int .i64 0, .int .i64 0, .int .i64 0, .int .i64 0, .int .i64 0, .int .i64 0, .int .i64 0, .int .i64 0, .int .i64 0, .int .i64 0, .int .i64 0, .int .i64 0, .int .i64 0, .int .i64 0, .int .i64 0, .int .i64 0, .int .i64 0, .int .i64 0] _;obtain ⟨W,hW⟩:∃ W,wr.alloc (.cells #[.int .i64 0, .int .i64 0, .int .i64 0, .int .i64 0, .int .i64 0, .int .i64 0, .int .i64 0, .int .i64 0, .int .i64 0, .int .i64 0, .int .i64 0, .int .i64 0, .int .i64 0, .int .i64 0, .int .i64 0, .int .i64 0, .int .i64 0, .int .i64 0, .int .i64 0, .int .i64 0] 76) = W:=⟨_,rfl⟩;have hownW:=hown.alloc (.cells #[.int .i64 0, .int .i64 0, .int .i64 0, .int .i64 0, .int .i64 0, .int .i64 0, .int .i64 0, .int .i64 0, .int .i64 0, .int .i64 0, .int .i64 0, .int .i64 0, .int .i64 0, .int .i64 0, .int .i64 0, .int .i64 0, .int .i64 0, .int .i64 0, .int .i64 0, .int .i64 0] 76);have hbW:Below wr.heap.size wr W:=hW ▸ (Below.refl _ _).alloc nl _;have hsW:W.heap.size = wr.heap.size + 1:=by rw [← hW];simp
    have hmkW:=hmk wr;rw [hW] at hR1 hownW hmkW;have HSW:=Lib.hid hsW;have HK:=Lib.hid hmk;clear hmk hW hsW;go_wp2_with (at_builtin;refine wpList_append_lies _ rfl (.tmp 8) (.tmp 11) _ rfl w.heap.size 99 ib _ 2 32 Tryz.underlying25 hib hbz0 hbz1 hbz2 rfl (by omega) (.slice (some ⟨g,0,none⟩) k c) k (hdrs (xp.take k) ks) rfl (hownW.alloc (.cells #[.slice (some ⟨wr.heap.size,0,none⟩) 4 4, .int .i64 0] 99)) ⟨W.heap.size,0,none⟩ 1 1 [.slice (some ⟨wr.heap.size,0,none⟩) 4 4, .int .i64 0] rfl rfl (World.news_of_block (cs:=#[.slice (some ⟨wr.heap.size,0,none⟩) 4 4, .int .i64 0]) (t:=99) (fr:=(0,0)) (heap_alloc_new W _)) (by simp [Value.oneCell']) (by omega) (by unfold maxLen;omega) (by omega) (by have:=HSW.out;simp;omega) (W.heap.size + 1) (by simp) ?_;intro g2 c2 w2 hown2 hgrow2 hat2 hlt2)
    have hstep:=hBd.step (b:=Qn) (c1:=4) (n:=4) (by rfl) hsz hR1 nl nl (by have:=HSW.out;omega) hbW hown2 hgrow2 hat2 hlt2;rw [show xp.take k ++ [Qn] = xp.take (k + 1) from by rw [List.take_add_one,show xp[k]? = some Qn by rw [xp,List.getElem?_replicate,if_pos hlt]];rfl] at hstep;have hcap:=zg2 hown2;have hB2:=hb.trans (((hbW.mono hsz).alloc (by have:=HSW.out;omega) _).grown hgrow2 (by have:=HSW.out;simp;omega) (by intro q e;cases e;exact hgl.1));go_roundw
    case rel=>exact ⟨k + 1,g2,c2,_,by omega,by go_num,rfl,hB2,hstep,hcap⟩
    case measure=>simp [intOf];omega
  obtain rfl:k = 4:=by omega
  go_wp2;go_ret;exact ⟨g,c,rfl,hkc,⟨ks,hBd.bks,hBd.apt⟩,hb⟩

theorem zi6 {w:World} {g o i:Nat} {f:List Bk} {hs:List (Option Addr × Nat)} {b:Bk} {x:Option Addr × Nat} (h:Bks w (some ⟨g,o,none⟩) f hs) (hi:f[i]? = some b) (hx:hs[i]? = some x) (n:Int) :
 xt w (w.setCell ⟨g,o + i * 2 + 1,none⟩ (.int .i64 n)) g (o + i * 2) [.slice x.1 b.pages.length x.2, .int .i64 n]:=by
 obtain ⟨y,hy,c0,c1,_⟩:=h.at_ hi;rw [hx] at hy;cases hy;exact (zq c1 (.int .i64 n)).less c0
def yg (f:List Bk) (i:Nat) (torn:Bool):List Bk × Bool:=if 200 ≤ (f.getD i zbk).worn then (f,false) else (wipe f i torn,true)
theorem zev (f:List Bk) (i lo hi g o c:Nat) (torn:Bool) (w:World) (hl:f.length = 4) (hp:∀ b ∈ f,b.pages.length = 4∧0 ≤ b.worn∧b.worn ≤ 200) (hi4:i < 4) (hs:List (Option Addr × Nat)) (hBk:Bks w (some ⟨g,o,none⟩) f hs) (hApt:Apt lo hi (some ⟨g,o,none⟩) hs) :
 Calls Tryz.prog 125 #[.slice (some ⟨g,o,none⟩) 4 c, .int .i64 i, .bool torn] w fun e w' =>
  e = .returned (.tuple #[.slice (some ⟨g,o,none⟩) 4 c, .bool (yg f i torn).2])∧Bks w' (some ⟨g,o,none⟩) (yg f i torn).1 hs∧Agr (fblk (some ⟨g,o,none⟩) hs) w w':=by
 obtain ⟨B,hB⟩:=zc (l:=f) (k:=i) (by omega);have hBm:=hp B (List.mem_of_getElem? hB);have hBget:f.getD i zbk = B:=by rw [List.getD_eq_getElem?_getD,hB];rfl
 obtain ⟨x,hx,z0,z1,z2,z3,hR,_⟩:=hBk.at_ hB;obtain ⟨hw1,hw2,hw3⟩:=hBm;have hg:=hApt.top g (by rw [zf]);have hi4':(i:Int) < 4:=by omega
 have hi0:(0:Int) ≤ i:=by omega
 by_cases h200:200 ≤ B.worn
 . have hfin:Hid (yg f i torn = (f,false)):=by unfold Hid yg;rw [hBget,if_pos h200]
   clear hl hp hBget hw1
   go_enter Tryz.func125,Tryz.ntmps125
   go_wp2
   go_ret2
   rw [hfin.out];exact ⟨rfl,hBk,Agr.refl _ _⟩
 have hfin:Hid (yg f i torn = (wipe f i torn,true)):=by unfold Hid yg;rw [hBget,if_neg h200]
 have hlt:B.worn < 200:=by omega
 obtain ⟨⟨pb,po,hpa⟩,hpb⟩:(∃ pb po,x.1 = some ⟨pb,po,none⟩)∧True:=⟨hR.addr (ky (by intro e;rw [e] at hw1;simp at hw1)),trivial⟩;obtain ⟨A,cp⟩:=x;dsimp only at hpa;subst hpa;dsimp only at *;have hW:=zi6 hBk hB hx (B.worn + 1);have hBk1:=hBk.setHdr hApt hB hx hW;have hpin:=hApt.in_ i _ pb hx (by rw [zf]);rw [zf] at hpin;have hW1:=Lib.hid hW.agr;have HX:=Lib.hid hx;have HL:=Lib.hid hl;have HB:=Lib.hid hB;have HG:=Lib.hid hBget;have HW1:=Lib.hid hw1;rw [hw1] at z0;have hz0':=hW.new_ 0 _ rfl;rw [Nat.add_zero,hw1] at hz0';clear hl hp hB hBget hx hw1 hpb hW
 go_enter Tryz.func125,Tryz.ntmps125
 cases torn
 . go_wp2
   go_loopw [9] (fun q wr=>∃ (k:Nat),k ≤ 4∧q = .int .i64 k∧Bks wr (some ⟨g,o,none⟩) (f.set i ⟨List.replicate k ⟨0,rc0⟩ ++ B.pages.drop k,B.worn + 1⟩) hs∧Agr (fblk (some ⟨g,o,none⟩) hs) w wr∧wr.cell? ⟨g,o + i * 2,none⟩ = some (.slice (some ⟨pb,po,none⟩) 4 cp)) (fun q _=>4 - (intOf q).toNat)
   case atStart=>exact ⟨0,by omega,rfl,hBk1,(Agr.refl _ _).trans hW1.out (fun k _ e=>.inl (by rw [e,zf])),hz0'⟩
   case round =>
    clear hBk1 hz0';obtain ⟨k,hk,rfl,hBk2,hA,hz⟩:=hrel;by_cases hltk:k < 4
    . have hk4':(k:Int) < 4:=by omega
      have hget:(f.set i ⟨List.replicate k ⟨0,rc0⟩ ++ B.pages.drop k,B.worn + 1⟩)[i]? = some ⟨List.replicate k ⟨0,rc0⟩ ++ B.pages.drop k,B.worn + 1⟩:=by rw [List.getElem?_set_self (by have:=HL.out;omega)]
      obtain ⟨hr2,_⟩:=hBk2.pg i _ _ hget HX.out;obtain ⟨q,hq⟩:=zc (l:=List.replicate k (⟨0,rc0⟩:Pg) ++ B.pages.drop k) (k:=k) (by have:=HW1.out;simp;omega);obtain ⟨c0,c1,c2,c3,c4⟩:=hr2.pg hq;obtain ⟨f0,f1,f2,f3,f4⟩:=hr2.pgf hq;have hWp:=yt hr2 hq ⟨0,rc0⟩;have hBk3:=hBk2.setPage hApt hget HX.out (by have:=HW1.out;simp;omega) hWp;rw [List.set_set] at hBk3;dsimp only at hBk3;rw [za2 _ _ _ (by have:=HW1.out;omega)] at hBk3;have hA3:=hA.trans hWp.agr (fun j _ e=>.inr ⟨i,_,HX.out,by rw [e,zf]⟩);have hz3:=(hWp.block g (by omega));have HQ:=Lib.hid hq;have HGT:=Lib.hid hget;have hz4:=(World.cell?_of_block (a:=⟨g,o + i * 2,none⟩) hz3).trans hz;simp only [rc0] at hBk3 hA3 hz4;clear hq hget hz3 hWp;go_wp2;go_roundw
      case rel=>exact ⟨k + 1,by omega,by go_num,hBk3,hA3,hz4⟩
      case measure=>simp [intOf];omega
    obtain rfl:k = 4:=by omega
    go_wp2
    go_ret2
    rw [hfin.out];rw [show B.pages.drop 4 = [] from List.drop_of_length_le (by have:=HW1.out;omega),List.append_nil] at hBk2;exact ⟨rfl,by unfold wipe;rw [HG.out];exact hBk2,hA⟩
 go_wp2
 go_loopw [9] (fun q wr=>∃ (k:Nat),k ≤ 4∧q = .int .i64 k∧Bks wr (some ⟨g,o,none⟩) (f.set i ⟨List.replicate k ⟨2,rc0⟩ ++ B.pages.drop k,B.worn + 1⟩) hs∧Agr (fblk (some ⟨g,o,none⟩) hs) w wr∧wr.cell? ⟨g,o + i * 2,none⟩ = some (.slice (some ⟨pb,po,none⟩) 4 cp)) (fun q _=>4 - (intOf q).toNat)
 case atStart=>exact ⟨0,by omega,rfl,hBk1,(Agr.refl _ _).trans hW1.out (fun k _ e=>.inl (by rw [e,zf])),hz0'⟩
 case round =>
  clear hBk1 hz0';obtain ⟨k,hk,rfl,hBk2,hA,hz⟩:=hrel;by_cases hltk:k < 4
  . have hk4':(k:Int) < 4:=by omega
    have hget:(f.set i ⟨List.replicate k ⟨2,rc0⟩ ++ B.pages.drop k,B.worn + 1⟩)[i]? = some ⟨List.replicate k ⟨2,rc0⟩ ++ B.pages.drop k,B.worn + 1⟩:=by rw [List.getElem?_set_self (by have:=HL.out;omega)]
    obtain ⟨hr2,_⟩:=hBk2.pg i _ _ hget HX.out;obtain ⟨q,hq⟩:=zc (l:=List.replicate k (⟨2,rc0⟩:Pg) ++ B.pages.drop k) (k:=k) (by have:=HW1.out;simp;omega);obtain ⟨c0,c1,c2,c3,c4⟩:=hr2.pg hq;obtain ⟨f0,f1,f2,f3,f4⟩:=hr2.pgf hq;have hWp:=yt hr2 hq ⟨2,rc0⟩;have hBk3:=hBk2.setPage hApt hget HX.out (by have:=HW1.out;simp;omega) hWp;rw [List.set_set] at hBk3;dsimp only at hBk3;rw [za2 _ _ _ (by have:=HW1.out;omega)] at hBk3;have hA3:=hA.trans hWp.agr (fun j _ e=>.inr ⟨i,_,HX.out,by rw [e,zf]⟩);have hz3:=(hWp.block g (by omega));have HQ:=Lib.hid hq;have HGT:=Lib.hid hget;have hz4:=(World.cell?_of_block (a:=⟨g,o + i * 2,none⟩) hz3).trans hz;simp only [rc0] at hBk3 hA3 hz4;clear hq hget hz3 hWp;go_wp2;go_roundw
    case rel=>exact ⟨k + 1,by omega,by go_num,hBk3,hA3,hz4⟩
    case measure=>simp [intOf];omega
  obtain rfl:k = 4:=by omega
  go_wp2
  go_ret2
  rw [hfin.out];rw [show B.pages.drop 4 = [] from List.drop_of_length_le (by have:=HW1.out;omega),List.append_nil] at hBk2;exact ⟨rfl,by unfold wipe;rw [HG.out];exact hBk2,hA⟩
theorem znf {f:List Bk} {i:Nat} {torn:Bool} (hok:ze f = true) (hi:i < 4):je f i torn = yg f i torn:=by
 have hl:=zh hok;obtain ⟨B,hB⟩:=zc (l:=f) (k:=i) (by omega);have hs:=zo hok B (List.mem_of_getElem? hB);have hBget:f.getD i zbk = B:=by rw [List.getD_eq_getElem?_getD,hB];rfl
 unfold je yg;rw [if_neg (by rw [hok];unfold j9;simp;omega),Int.toNat_natCast,hBget];by_cases h:B.worn = 200
 . rw [if_pos h,if_pos (by omega)]
 rw [if_neg h,if_neg (by omega)]
theorem zkj (f:List Bk) (i:Nat) (torn:Bool):(yg f i torn).1.length = f.length:=by
 unfold yg wipe;split <;> simp
end
section
def x8 (f:List Bk) (i:Nat) (r:Rc) (torn:Bool):List Bk × Bool :=
 if clean (f.getD i zbk) = 0∨qo f r.seq = true then (f,false)
 else (f.set i { f.getD i zbk with pages:=(f.getD i zbk).pages.set (4 - clean (f.getD i zbk)) (if torn then ⟨2,rc0⟩ else ⟨1,r⟩) },true)
def xz (f:List Bk) (a:Int):Bool:=decide (0 < (last f a).seq) && decide ((last f a).kind = 1)
def xe (s:St) (a:Int):Int:=if 0 < (last s.flash a).seq then (last s.flash a).val else s.disk.getD (a - 1).toNat 0
def told (f:List Bk) (p:Pg):Bool:=live f p && decide (p.rc.kind = 1)
def Zt (p:Pg):Sp:=⟨1,p.rc.addr,p.rc.val,0,rc0⟩
def tells (f:List Bk) (ps:List Pg):List Sp:=(ps.filter (told f)).map Zt
def room (f:List Bk):List Sp × Int × Bool :=
 if (jd f).2 then ([],(jd f).1,true)
 else (tells f (f.getD (old f) zbk).pages ++ [⟨2,0,0,old f,rc0⟩],old f,decide ((f.getD (old f) zbk).worn < 200))
def wr (f:List Bk) (kind addr val:Int):List Sp :=
 if (room f).2.2 = false∨xj ⟨kind,next f,addr,val⟩ = false then [] else (room f).1 ++ [⟨3,0,0,(room f).2.1,⟨kind,next f,addr,val⟩⟩]
def ym (s:St) (a:Int):List Sp :=
 if jk a = false∨xz s.flash a = false then [] else
 if wr s.flash 2 a (xe s a) = [] then [] else ⟨1,a,xe s a,0,rc0⟩ :: wr s.flash 2 a (xe s a)
def fill (s:St) (a:Int):List Sp :=
 if jk a = false∨0 < (last s.flash a).seq then [] else wr s.flash 2 a (s.disk.getD (a - 1).toNat 0)
def z9 (s:St) (e:Ev):List Sp :=
 if e.kind = 1 then wr s.flash 1 e.a e.b else if e.kind = 2 then ym s e.a else if e.kind = 3 then fill s e.a else []
def z5 (s:St) (x:Sp) (torn:Bool):St :=
 if x.kind = 1 then (if torn then s else { s with disk:=s.disk.set (x.addr - 1).toNat x.val })
 else if x.kind = 2 then { s with flash:=(yg s.flash x.block.toNat torn).1 }
 else if x.kind = 3 then { s with flash:=(x8 s.flash x.block.toNat x.rc torn).1 } else s
def zx (s:St) (xs:List Sp):St:=xs.foldl (fun s x=>z5 s x false) s
def doTo (s:St) (xs:List Sp) (cut:Int) (torn:Bool):St :=
 if torn = true∧0 ≤ cut∧cut < xs.length then z5 (zx s (xs.take cut.toNat)) (xs.getD cut.toNat ⟨0,0,0,0,rc0⟩) true else zx s (xs.take cut.toNat)
def ju (s:St) (a:Int):St:=doTo s (ym s a) (ym s a).length false
def Zf (s:St):St:=[1,2,3,4,5,6].foldl ju s
def doEv (s:St) (e:Ev):St:=if e.kind = 4 then Zf s else if e.c < 0 then s else doTo s (z9 s e) e.c e.torn
def zga (b:Bk):Prop:=b.pages.length = 4∧0 ≤ b.worn∧b.worn ≤ 200∧∀ p ∈ b.pages,zn p = true
def Zp (f:List Bk):Prop:=f.length = 4∧∀ b ∈ f,zga b
def xq (s:St):Prop:=Zp s.flash∧s.disk.length = 6∧∀ v ∈ s.disk,0 ≤ v∧v ≤ 9
def Xu (x:Sp):Prop:=(x.kind = 1->1 ≤ x.addr∧x.addr ≤ 6∧0 ≤ x.val∧x.val ≤ 9)∧(x.kind = 2∨x.kind = 3->0 ≤ x.block∧x.block < 4)∧(x.kind = 3->xj x.rc = true)
end
section
open Go.RowKit Go.Maps
theorem ziu (b:Bk):clean b ≤ b.pages.length:=List.countP_le_length
theorem zc9 (f:List Bk) (a:Int) (A D:Option Addr) (c m d:Nat) (w:World) (hl:f.length < 1000000000000) (hp:∀ b ∈ f,b.pages.length < 1000000000000) (hF:Fl w A f) :
 Calls Tryz.prog 123 #[.agg #[.slice A f.length c, .slice D m d], .int .i64 a] w fun e w'=>e = .returned (.bool (xz f a))∧Below w.heap.size w w':=by
 have HP:=Lib.hid hp;clear hp
 go_enter Tryz.func123,Tryz.ntmps123
 go_wp2_with fail
 refine (qz f a A c _ hl HP.out (hF.alloc _)).mono ?_;rintro e w1 ⟨rfl,hb⟩;have hB:Below w.heap.size w w1:=Below.trans bw (hb.mono (by simp));have hfin:Hid (xz f a = (decide (0 < (last f a).seq) && decide ((last f a).kind = 1))):=rfl;clear hb;generalize last f a = x at *;by_cases h1:0 < x.seq
 . by_cases h2:x.kind = 1
   . have h3:Hid (xz f a = true):=by rw [Hid,hfin.out];simp [h1,h2]
     go_wp2;all_goals go_ret
     all_goals exact ⟨zg (by first | exact h3.out.symm | (rw [h3.out];simp [*])),bw⟩
   have h3:Hid (xz f a = false):=by rw [Hid,hfin.out];simp [h1,h2]
   go_wp2;all_goals go_ret
   all_goals exact ⟨zg (by first | exact h3.out.symm | (rw [h3.out];simp [*])),bw⟩
 have h3:Hid (xz f a = false):=by rw [Hid,hfin.out];simp [h1]
 go_wp2;all_goals go_ret
 all_goals exact ⟨zg (by first | exact h3.out.symm | (rw [h3.out];simp [*])),bw⟩
theorem zey (s:St) (a:Int) (A D:Option Addr) (c d:Nat) (w:World) (hl:s.flash.length < 1000000000000) (hp:∀ b ∈ s.flash,b.pages.length < 1000000000000) (hd:s.disk.length = 6) (ha:1 ≤ a) (ha2:a ≤ 6) (hF:Fl w A s.flash) (hD:Row w D (ints s.disk)) :
 Calls Tryz.prog 124 #[.agg #[.slice A s.flash.length c, .slice D 6 d], .int .i64 a] w fun e w'=>e = .returned (.int .i64 (xe s a))∧Below w.heap.size w w':=by
 have HP:=Lib.hid hp;obtain ⟨i,rfl⟩:∃ i:Nat,a = i + 1:=⟨(a - 1).toNat,by omega⟩;have hi:i < 6:=by omega
 obtain ⟨v,hv⟩:=zc (l:=s.disk) (k:=i) (by omega);have hgd:s.disk.getD i 0 = v:=by rw [List.getD_eq_getElem?_getD,hv];rfl
 have hne:s.disk ≠ []:=by rintro h;rw [h] at hd;simp at hd
 have hfin:Hid (xe s (i + 1) = if 0 < (last s.flash (i + 1)).seq then (last s.flash (i + 1)).val else v):=by unfold Hid xe;rw [show ((i:Int) + 1 - 1).toNat = i by omega,hgd]
 have HV:=Lib.hid hv;have hn1:ints s.disk ≠ []:=by
  intro e;apply hne;have:=congrArg List.length e;rw [yj] at this;exact List.length_eq_zero_iff.1 this
 obtain ⟨db,dO,rfl⟩:=hD.addr hn1;have hi6:(i:Int) < 6:=by omega
 clear hp hv hgd hne hn1 hd
 go_enter Tryz.func124,Tryz.ntmps124
 go_wp2_with fail
 refine (qz s.flash (i + 1) A c _ hl HP.out (hF.alloc _)).mono ?_;rintro e w1 ⟨rfl,hb⟩;have hB:Below w.heap.size w w1:=Below.trans bw (hb.mono (by simp));obtain ⟨hc,hf⟩:=qv hb;have hz:w.heap.size < w1.heap.size:=by have:=hb.size;simp at this;omega
 have hcv:=((hD.alloc (.cells #[.slice A s.flash.length c, .slice (some ⟨db,dO,none⟩) 6 d] 28)).below hb nl).int_ HV.out;obtain ⟨hcv,_⟩:=hcv;have hdb:=zd hcv;clear hb;generalize last s.flash (i + 1) = x at *;by_cases h1:0 < x.seq
 . have h3:Hid (xe s (i + 1) = x.val):=by rw [Hid,hfin.out];simp [h1]
   go_wp2;all_goals go_ret
   all_goals exact ⟨qg h3.out.symm,bw⟩
 have h3:Hid (xe s (i + 1) = v):=by rw [Hid,hfin.out];simp [h1]
 have e1:IntKind.i64.wrap ((i:Int) + 1 - 1) = i:=by rw [show (i:Int) + 1 - 1 = i by omega];exact IntWalk.i64_in _ (by omega)
 go_wp2;all_goals go_ret
 all_goals exact ⟨qg h3.out.symm,bw⟩
theorem zc6 (f:List Bk) (i lo hi g o c:Nat) (r:Rc) (torn:Bool) (w:World) (hl:f.length = 4) (hp:∀ b ∈ f,b.pages.length = 4) (hi4:i < 4) (hs:List (Option Addr × Nat)) (hBk:Bks w (some ⟨g,o,none⟩) f hs) (hApt:Apt lo hi (some ⟨g,o,none⟩) hs) :
 Calls Tryz.prog 126 #[.slice (some ⟨g,o,none⟩) 4 c, .int .i64 i, .agg #[.int .i64 r.kind, .int .i64 r.seq, .int .i64 r.addr, .int .i64 r.val], .bool torn] w fun e w' =>
  e = .returned (.tuple #[.slice (some ⟨g,o,none⟩) 4 c, .bool (x8 f i r torn).2])∧Bks w' (some ⟨g,o,none⟩) (x8 f i r torn).1 hs∧Agr (fblk (some ⟨g,o,none⟩) hs) w w':=by
 obtain ⟨B,hB⟩:=zc (l:=f) (k:=i) (by omega);have hBm:=hp B (List.mem_of_getElem? hB);have hBget:f.getD i zbk = B:=by rw [List.getD_eq_getElem?_getD,hB];rfl
 have hBk0:=hBk.alloc (.cells #[.int .i64 r.kind, .int .i64 r.seq, .int .i64 r.addr, .int .i64 r.val] 64);obtain ⟨⟨Ap,cp⟩,hx,z0,z1,z2,z3,hR,_⟩:=hBk0.at_ hB;dsimp only at z0 hR;have hcl:clean B ≤ 4:=by rw [← hBm];exact ziu B
 have hi4':(i:Int) < 4:=by omega
 have hfin:Hid (x8 f i r torn = if clean B = 0∨qo f r.seq = true then (f,false) else (f.set i { B with pages:=B.pages.set (4 - clean B) (if torn then ⟨2,rc0⟩ else ⟨1,r⟩) },true)):=by unfold Hid x8;rw [hBget]
 have HP:=Lib.hid (show ∀ b ∈ f,b.pages.length < 1000000000000 from fun b hb=>by rw [hp b hb];omega);have hpl:B.pages.length < 1000000000000:=by omega
 have HB:=Lib.hid hB;have HBM:=Lib.hid hBm;have HX:=Lib.hid hx;have HL:=Lib.hid hl;have hl4:f.length < 1000000000000:=by omega
 clear hl hp hBget hBm hB hx
 go_enter Tryz.func126,Tryz.ntmps126
 go_wp2_with fail
 refine (Zj B Ap cp _ hpl hR).mono ?_;rintro e w1 ⟨rfl,hb⟩;have hB1:Below w.heap.size w w1:=Below.trans bw (hb.mono (by simp));have hz:w.heap.size < w1.heap.size:=by have:=hb.size;simp at this;omega
 obtain ⟨hc,hf⟩:=qv hb;have hBk1:=hBk0.below hb nl;clear hb z0 z1 z2 z3 hR;generalize clean B = n at *;by_cases h0:n = 0
 . subst h0;have h3:Hid (x8 f i r torn = (f,false)):=by rw [Hid,hfin.out,if_pos (.inl rfl)]
   go_wp2
   go_ret2
   rw [h3.out];exact ⟨rfl,hBk1,Agr.of_below hB1⟩
 have hn0:((n:Int) == 0) = false:=by rw [beq_eq_false_iff_ne];omega
 go_wp2_with fail
 rw [← HL.out];refine (zjj f r.seq _ c _ hl4 HP.out ⟨hs,hBk1⟩).mono ?_;rintro e w2 ⟨rfl,rfl⟩;rw [HL.out];by_cases hsq:qo f r.seq = true
 . have h3:Hid (x8 f i r torn = (f,false)):=by rw [Hid,hfin.out,if_pos (.inr hsq)]
   rw [hsq];go_wp2
   go_ret2
   rw [h3.out];exact ⟨rfl,hBk1,Agr.of_below hB1⟩
 have h3:Hid (x8 f i r torn = (f.set i { B with pages:=B.pages.set (4 - n) (if torn then ⟨2,rc0⟩ else ⟨1,r⟩) },true)):=by
  rw [Hid,hfin.out,if_neg (by intro h;rcases h with h | h;exact h0 h;exact hsq h)]
 rw [show qo f r.seq = false by simpa using hsq];obtain ⟨j,hj⟩:∃ j,j + n = 4:=⟨4 - n,by omega⟩;have hj4:4 - n = j:=by omega
 have e1:IntKind.i64.wrap ((4:Int) - n) = (j:Int):=by rw [show (4:Int) - n = j by omega];exact IntWalk.i64_in _ (by omega)
 have e2:(4:Int) - n = (j:Int):=by omega
 rw [hj4] at h3;clear hj4 hfin hsq;obtain ⟨x,hx2,y0,y1,_,_,hR1,_⟩:=hBk1.at_ HB.out;rw [HX.out] at hx2;cases hx2;dsimp only at y0 hR1;rw [HBM.out] at y0;obtain ⟨p,hq⟩:=zc (l:=B.pages) (k:=j) (by rw [HBM.out];omega);obtain ⟨pb,po,rfl⟩:=hR1.addr (ky (by intro e;rw [e] at hq;simp at hq));obtain ⟨c0,c1,c2,c3,c4⟩:=hR1.pg hq;obtain ⟨f0,f1,f2,f3,f4⟩:=hR1.pgf hq;have hj1:(j:Int) < 4:=by omega
 have hpin:=hApt.in_ i _ pb HX.out (by rw [zf]);have HQ:=Lib.hid hq;have hpb:=zd c0;have hgl:=zd y0;clear hq;cases torn
 . have hWp:=yt hR1 HQ.out ⟨1,r⟩;have hBk2:=hBk1.setPage hApt HB.out HX.out (by rw [HBM.out];omega) hWp;have hA2:=(Agr.of_below hB1 (S:=fblk (some ⟨g,o,none⟩) hs)).trans hWp.agr (fun b _ e=>.inr ⟨i,_,HX.out,by rw [e,zf]⟩);clear hWp hBk1;go_wp2
   go_region
   go_wp2
   go_ret2
   rw [h3.out];exact ⟨rfl,(hBk2.alloc _).drew,(hA2.alloc _).drew⟩
 have hWp:=yt hR1 HQ.out ⟨2,rc0⟩;have hBk2:=hBk1.setPage hApt HB.out HX.out (by rw [HBM.out];omega) hWp;have hA2:=(Agr.of_below hB1 (S:=fblk (some ⟨g,o,none⟩) hs)).trans hWp.agr (fun b _ e=>.inr ⟨i,_,HX.out,by rw [e,zf]⟩);simp only [rc0] at hBk2 hA2;clear hWp hBk1;go_wp2
 go_region
 go_wp2
 go_ret2
 rw [h3.out];exact ⟨rfl,(hBk2.alloc _).drew,(hA2.alloc _).drew⟩
end
end Go.Proofs.YtclnogfmmekooaaGreat
