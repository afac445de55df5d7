/- What the laws' walks share: words, plain laws, and the walks of functions, part 6. -/
import Derived.WideShapes
import Derived.RangeFuncNested
import Derived.RangeFuncBound
import Derived.RangeFuncCalls
import Derived.RangeFuncLeaves
import Derived.Shelf.Abstract
import Derived.Shelf.RegionOpen
import Derived.OwnWalkIn
import Derived.TacticsInMore
import Derived.LoopNIn
import Derived.LoopIn
import Derived.Deep.RegionHeld3
import Derived.OrdersIn
import Derived.BigQuiet
import Derived.Test.YtclnogfmmekooaaGreatY5
set_option linter.unusedVariables false
set_option linter.unusedSimpArgs false
set_option maxHeartbeats 16000000
set_option maxRecDepth 100000
namespace Go.Proofs.YtclnogfmmekooaaGreat
section
open Go.RowKit Go.Maps
def zld (p:Pg):Prop:=sm p.state∧zk9 p.rc
def zhu (b:Bk):Prop:=b.pages.length ≤ 4∧sm b.worn∧∀ p ∈ b.pages,zld p
def Zx (f:List Bk):Prop:=f.length ≤ 4∧3 ≤ f.length∧∀ b ∈ f,zhu b
theorem zjl {x:Int} (h1:-1 ≤ x) (h2:x ≤ 1000):sm x:=⟨h1,h2⟩
theorem zjp {p:Pg} (h:zn p = true):zld p:=by
 have h':=h;unfold zn at h;split at h
 . rename_i h1;have hr:=xx h;have hk:p.rc.kind = 1∨p.rc.kind = 2:=by
    unfold xj zdr at h;simp at h;omega
   refine ⟨zjl (by omega) (by omega),zjl (by omega) (by omega),zjl (by omega) (by omega),zjl (by omega) (by omega),zjl (by omega) (by omega)⟩
 split at h
 . rename_i h2;have:p.rc = rc0:=by simpa using h
   refine ⟨zjl (by omega) (by omega), ?_⟩;rw [this];exact ⟨⟨by decide,by decide⟩,⟨by decide,by decide⟩,⟨by decide,by decide⟩,⟨by decide,by decide⟩⟩
 cases h
theorem zkd {b:Bk} (h:zga b):zhu b:=⟨by rw [h.1];omega,⟨by have:=h.2.1;omega,by have:=h.2.2.1;omega⟩,fun p hp=>zjp (h.2.2.2 p hp)⟩
theorem zcm {f:List Bk} (h:Zp f):Zx f:=⟨by rw [h.1];omega,by rw [h.1];omega,fun b hb=>zkd (h.2 b hb)⟩
theorem K5 {f:List Bk} {b:Bk} (h:Zx f) (hb:zhu b) (i:Nat):Zx (f.set i b) :=
 ⟨by rw [List.length_set];exact h.1,by rw [List.length_set];exact h.2.1,fun c hc=>by rcases Ky hc with hc | rfl;exact h.2.2 c hc;exact hb⟩
theorem Row.drop {w:World} {b o:Nat} {vs:List Value} (h:Row w (some ⟨b,o,none⟩) vs) (k:Nat):Row w (some ⟨b,o + k,none⟩) (vs.drop k):=fun hn=>by
 obtain ⟨b',o',he,hc⟩:=h (by rintro rfl;simp at hn);cases he;refine ⟨b,o + k,rfl,fun j u hj=>?_⟩;rw [List.getElem?_drop] at hj;have:=hc (k + j) u hj
 rwa [← Nat.add_assoc] at this
theorem Bks.tail {w:World} {g o:Nat} {b:Bk} {f:List Bk} {x:Option Addr × Nat} {hs:List (Option Addr × Nat)} (h:Bks w (some ⟨g,o,none⟩) (b :: f) (x :: hs)):Bks w (some ⟨g,o + 2,none⟩) f hs :=
 ⟨by simpa using h.len,by have:=h.row.drop 2;simpa [hdrs] using this,fun i c y hc hy=>h.pg (i + 1) c y (by simpa using hc) (by simpa using hy)⟩
theorem Apt.tail {lo hi g o o':Nat} {x:Option Addr × Nat} {hs:List (Option Addr × Nat)} (h:Apt lo hi (some ⟨g,o,none⟩) (x :: hs)):Apt lo hi (some ⟨g,o',none⟩) hs :=
 ⟨fun b hb=>h.top b (by rw [zf] at hb ⊢;exact hb),fun i y b hy hb=>by
  have:=h.in_ (i + 1) y b (by simpa using hy) hb;exact ⟨this.1,this.2.1,fun e=>this.2.2 (by rw [zf] at e ⊢;exact e)⟩,fun i j y z b hy hz h1 h2=>by
  have:=h.two (i + 1) (j + 1) y z b (by simpa using hy) (by simpa using hz) h1 h2;omega⟩
theorem Apt.same {lo hi i:Nat} {A:Option Addr} {hs:List (Option Addr × Nat)} {x y:Option Addr × Nat} (h:Apt lo hi A hs) (hy:hs[i]? = some y) (hx:∀ b,blk x.1 b->blk y.1 b):Apt lo hi A (hs.set i x):=by
 have hl:=(List.getElem?_eq_some_iff.1 hy).1;have key:∀ (j:Nat) (z:Option Addr × Nat) (b:Nat),(hs.set i x)[j]? = some z->blk z.1 b->∃ z',hs[j]? = some z'∧blk z'.1 b:=fun j z b hz hb=>by
  by_cases hj:j = i
  . subst hj;rw [List.getElem?_set_self hl] at hz;cases hz;exact ⟨y,hy,hx b hb⟩
  rw [List.getElem?_set_ne (by omega)] at hz;exact ⟨z,hz,hb⟩
 refine ⟨h.top,fun j z b hz hb=>?_,fun j m z u b hz hu h1 h2=>?_⟩
 . obtain ⟨z',a1,a2⟩:=key j z b hz hb;exact h.in_ j z' b a1 a2
 obtain ⟨z',a1,a2⟩:=key j z b hz h1;obtain ⟨u',b1,b2⟩:=key m u b hu h2;exact h.two j m z' u' b a1 b1 a2 b2
theorem Bks.reader {w w':World} {A:Option Addr} {f:List Bk} {hs:List (Option Addr × Nat)} {R lo hi:Nat} (h:Bks w A f hs) (ha:Agr (· = R) w w') (hApt:Apt lo hi A hs) (hR:R < lo):Bks w' A f hs :=
 h.keep fun b hb hl=>ha.block b hl (fun e=>by
  subst e;rcases hb with hb | ⟨x,hx,hb⟩
  . have:=hApt.top _ hb;omega
  obtain ⟨i,hi'⟩:=List.getElem?_of_mem hx;have:=hApt.in_ i x _ hi' hb;omega)
theorem Bks.pick {w:World} {g o k:Nat} {f:List Bk} {hs:List (Option Addr × Nat)} (h:Bks w (some ⟨g,o,none⟩) f hs) (hl:f.length = 4) (hp:∀ b ∈ f,b.pages.length = 4) (hk:k < 4) :
 ∃ b pb po cap, f[k]? = some b ∧ hs[k]? = some (some ⟨pb, po, none⟩, cap) ∧ b.pages.length = 4 ∧ 4 ≤ cap ∧ w.cell? ⟨g, o + k * 2, none⟩ = some (.slice (some ⟨pb, po, none⟩) 4 cap) ∧ w.cell? ⟨g, o + k * 2 + 1, none⟩ = some (.int .i64 b.worn) ∧
   w.frozen? ⟨g,o + k * 2,none⟩ = false∧w.frozen? ⟨g,o + k * 2 + 1,none⟩ = false∧Row w (some ⟨pb,po,none⟩) (pgs b.pages):=by
 obtain ⟨b,hb⟩:=zc (l:=f) (k:=k) (by omega);have hb4:=hp b (List.mem_of_getElem? hb);obtain ⟨⟨X,cap⟩,hx,c0,c1,f0,f1,hr,hc⟩:=h.at_ hb;dsimp only at hr hc c0;obtain ⟨pb,po,rfl⟩:=hr.addr (ky (by intro e;rw [e] at hb4;simp at hb4));rw [hb4] at c0 hc;exact ⟨b,pb,po,cap,hb,hx,hb4,hc,c0,c1,f0,f1,hr⟩
def zm8 (B R m:Nat) (w:World) (e:Ending) (w':World):Prop :=
 ∃ (g o c:Nat) (f:List Bk),e = .returned (.slice (some ⟨g,o,none⟩) f.length c)∧Zx f∧OFl w' w.heap.size w'.heap.size (some ⟨g,o,none⟩) f∧Rd w' B R (m + 600)∧Agr (· = R) w w'
theorem zc4 (B R m:Nat) (w:World) (hm:m ≤ 800000) (hR:Rd w B R m) :
 Calls Tryz.prog 107 #[.pointer (some ⟨R,0,none⟩)] w (zm8 B R m w):=by
 have hRl:=hR.lt
 go_enter Tryz.func107,Tryz.ntmps107
 go_wp2_with fail
 refine (Ys B R m _ hm hR).mono ?_;rintro e w1 ⟨v,A,D,c,lo,hi,s,xs,rfl,hlo,hhi,hc,hO,hst,_,_,_,hR1,hA1⟩;obtain ⟨hs,hBk,hApt,_,_⟩:=hO;have hl4:=hst.1.1;have hsm:=Lib.hid (zcm hst.1);have hpl:=Lib.hid (ye hst);obtain ⟨g,o,rfl⟩:=hBk.addr (by intro e;rw [e] at hl4;simp at hl4);have HL:=Lib.hid hl4;generalize s.flash = f at *;have hs1:=hA1.size;have hR1a:=hR1.alloc (.cells #[.slice (some ⟨g,o,none⟩) 4 c, .slice D 6 6] 28);have hBka:=hBk.alloc (.cells #[.slice (some ⟨g,o,none⟩) 4 c, .slice D 6 6] 28);have hAa:Agr (· = R) w (w1.alloc (.cells #[.slice (some ⟨g,o,none⟩) 4 c, .slice D 6 6] 28)):=hA1.alloc _;have hhia:hi ≤ (w1.alloc (.cells #[.slice (some ⟨g,o,none⟩) 4 c, .slice D 6 6] 28)).heap.size:=by simp;omega
 clear hst hl4 hBk hR1 hA1;go_wp2_with fail
 refine (zi 20 20 B R (m + 500) _ rfl (by omega) (by omega) (by omega) hR1a).mono ?_;rintro e w2 ⟨k,rfl,hk,hR2,hA2⟩;have hRlo:R < lo:=by omega
 have hBk2:Bks w2 (some ⟨g,o,none⟩) f hs:=hBka.reader hA2 hApt hRlo;have hs2:=hA2.size;have hA2':=hAa.trans hA2 (fun _ _ h=>h);have hhi2:hi ≤ w2.heap.size:=by omega
 clear hAa hA2 hBka hR1a hs2 hhia hhi;replace hR2:Rd w2 B R (m + 501):=hR2.mono (by omega);have P4:∀ (p:Nat) (W:World),p ≤ 1000000->Rd W B R p->_:=fun p W h hr=>zi 4 4 B R p W rfl (by omega) (by omega) h hr;have HP:=Lib.hid P4;clear P4;by_cases h0:k = 0
 . have t0:((k:Int) == 0) = true:=by subst h0;rfl
   clear h0;have hR2d:=hR2.drew;have hA2d:=hA2'.drew;have hBk2d:=hBk2.drew;have hhid:hi ≤ w2.drew.heap.size:=hhi2;go_wp2_with fail
   go_region_with (first
    | (go_at_call 22;with_reducible refine (HP.out (m + 501) _ (by omega) hR2d).mono ?_;rintro e w3 ⟨k3,rfl,hk3,hR3,hA3⟩;have hk3':(k3:Int) < 4:=(by omega);have hBk3:=hBk2d.reader hA3 hApt hRlo;obtain ⟨b,pb,po,cap,hfb,hhb,hb4,hcap,c0,c1,f0,f1,hRow⟩:=hBk3.pick HL.out hpl.out hk3;have hgl:=zd c0;have hgR:¬ g = R:=(by have:=hApt.top g (zf.2 rfl);omega))
    | (go_at_call 22;with_reducible refine (HP.out (m + 501 + 1) _ (by omega) hR3).mono ?_;rintro e w4 ⟨k4,rfl,hk4,hR4,hA4⟩;have hk4':(k4:Int) < 4:=(by omega);have hBk4:=hBk3.reader hA4 hApt hRlo;have d0:=(hA4.cell hgl hgR _).trans c0;have hgl4:=zd d0)
    | (go_at_call 22;with_reducible refine (HP.out (m + 501 + 1 + 1) _ (by omega) hR4).mono ?_;rintro e w5 ⟨k5,rfl,hk5,hR5,hA5⟩;have hBk5:=hBk4.reader hA5 hApt hRlo;have e0:=(hA5.cell hgl4 hgR _).trans d0;have hgl5:=zd e0)
    | (go_at_call 132;with_reducible refine (zgq B R (m + 501 + 1 + 1 + 1) _ (by omega) hR5).mono ?_;rintro e w6 ⟨x,rfl,hx,hR6,hA6⟩;have hBk6:=hBk5.reader hA6 hApt hRlo;have g0:=(hA6.cell hgl5 hgR _).trans e0;have hRow6:=(hBk6.pg k3 b _ hfb hhb).1;obtain ⟨q,hq⟩:=zc (l:=b.pages) (k:=k4) (by omega);obtain ⟨p0,p1,p2,p3,p4⟩:=hRow6.pg hq;obtain ⟨z0,z1,z2,z3,z4⟩:=hRow6.pgf hq))
   all_goals
    have hW:xt w6 (((((w6.setCell ⟨pb,po + k4 * 5,none⟩ (.int .i64 k5)).setCell ⟨pb,po + k4 * 5 + 1,none⟩ (.int .i64 x.kind)).setCell ⟨pb,po + k4 * 5 + 2,none⟩ (.int .i64 x.seq)).setCell ⟨pb,po + k4 * 5 + 3,none⟩ (.int .i64 x.addr)).setCell ⟨pb,po + k4 * 5 + 4,none⟩ (.int .i64 x.val)) pb (po + k4 * 5) (⟨k5,x⟩:Pg).vs :=
     zp pb (⟨k5,x⟩:Pg).vs (po + k4 * 5) w6 (fun j hj=>by
      match j,hj with
      | 0,_=>exact ⟨_,p0⟩
      | 1,_=>exact ⟨_,p1⟩
      | 2,_=>exact ⟨_,p2⟩
      | 3,_=>exact ⟨_,p3⟩
      | 4,_=>exact ⟨_,p4⟩)
    have hA6':=(((hA2d.trans hA3 (fun _ _ h=>h)).trans hA4 (fun _ _ h=>h)).trans hA5 (fun _ _ h=>h)).trans hA6 (fun _ _ h=>h);have hsz:hi ≤ w6.heap.size:=by have h1:=hA3.size;have h2:=hA4.size;have h3:=hA5.size;have h4:=hA6.size;omega
    have hpi:=hApt.in_ k3 _ pb hhb (zf.2 rfl);have hRf:=(hR6.agr hW.agr (by omega) (fun b hb e=>by have:=hR6.le;omega)).mono (n:=m + 600) (by omega);have hAf:=hA6'.trans (S':=(· = pb)) hW.agr (fun b hb e=>by omega);have hBf:=hBk6.setPage (p:=⟨k5,x⟩) hApt hfb hhb (j:=k4) (by omega) hW;have hss:=hW.size;have hsf:Zx (f.set k3 { b with pages:=b.pages.set k4 ⟨k5,x⟩ }):=by
     refine K5 hsm.out ?_ _;have hb0:=hsm.out.2.2 b (List.mem_of_getElem? hfb);refine ⟨by simpa using hb0.1,hb0.2.1,fun q hq=>?_⟩;rcases Ky hq with hq | rfl
     . exact hb0.2.2 q hq
     exact ⟨⟨by dsimp only;omega,by dsimp only;omega⟩,hx⟩
    clear hW hA3 hA4 hA5 hA6 p0 p1 p2 p3 p4;go_wp2;go_ret;exact ⟨g,o,c,f.set k3 { b with pages:=b.pages.set k4 ⟨k5,x⟩ },by rw [List.length_set,HL.out];rfl,hsf,⟨hs,hBf,hApt.mono hlo (by omega)⟩,hRf,hAf⟩
 have t0:((k:Int) == 0) = false:=by rw [beq_eq_false_iff_ne];omega
 by_cases h1:k = 1
 . have t1:((k:Int) == 1) = true:=by subst h1;rfl
   clear h0 h1;go_wp2_with fail
   refine (HP.out (m + 501) _ (by omega) hR2).mono ?_;rintro e w3 ⟨k3,rfl,hk3,hR3,hA3⟩;have hk3':(k3:Int) < 4:=by omega
   have hBk3:=hBk2.reader hA3 hApt hRlo;have hz:=Row.new w3 #[.int .i64 (-1), .int .i64 200, .int .i64 201] 3;have hR3a:=hR3.alloc (.cells #[.int .i64 (-1), .int .i64 200, .int .i64 201] 3);have hBk3a:=hBk3.alloc (.cells #[.int .i64 (-1), .int .i64 200, .int .i64 201] 3);have hA3a:=(hA2'.trans hA3 (fun _ _ h=>h)).alloc (.cells #[.int .i64 (-1), .int .i64 200, .int .i64 201] 3);have hs3:=hA3.size;have hsw:=hA2'.size;have hsa:w3.heap.size < (w3.alloc (.cells #[.int .i64 (-1), .int .i64 200, .int .i64 201] 3)).heap.size:=by simp
   have hne:¬ w3.heap.size = R:=by omega
   go_wp2_with fail
   refine (zi 3 3 B R (m + 501 + 1) _ rfl (by omega) (by omega) (by omega) hR3a).mono ?_;rintro e w4 ⟨k4,rfl,hk4,hR4,hA4⟩;obtain ⟨v4,hv,hv1,hv2⟩:∃ v:Int,(#[.int .i64 (-1), .int .i64 200, .int .i64 201]:Array Value).toList[k4]? = some (.int .i64 v)∧-1 ≤ v∧v ≤ 1000:=by
    rcases (by omega:k4 = 0∨k4 = 1∨k4 = 2) with rfl | rfl | rfl <;> exact ⟨_,rfl,by omega,by omega⟩
   have z0:=(hA4.cell hsa hne k4).trans (hz.at0 hv).1;have hk4':(k4:Int) < 3:=by omega
   have hBk4:=hBk3a.reader hA4 hApt hRlo;obtain ⟨b,pb,po,cap,hfb,hhb,hb4,hcap,c0,c1,f0,f1,hRow⟩:=hBk4.pick HL.out hpl.out hk3;have hW:=(zq c1 (.int .i64 v4)).less c0;have hgi:=hApt.top g (zf.2 rfl);have hs4:=hA4.size;have hA4':=hA3a.trans hA4 (fun _ _ h=>h);have hBf:=hBk4.setHdr (n:=v4) hApt hfb hhb (by rw [hb4];exact hW);have hRf:=(hR4.agr hW.agr (by omega) (fun b hb e=>by have:=hR4.le;omega)).mono (n:=m + 600) (by omega);have hAf:=hA4'.trans (S':=(· = g)) hW.agr (fun b hb e=>by omega);have hss:=hW.size;have hsf:Zx (f.set k3 { b with worn:=v4 }):=by
    refine K5 hsm.out ?_ _;have hb0:=hsm.out.2.2 b (List.mem_of_getElem? hfb);exact ⟨hb0.1,⟨hv1,hv2⟩,hb0.2.2⟩
   have hsz:hi ≤ w4.heap.size:=by simp at hs4;omega
   clear hW hz hR3a hBk3a hA3a hBk3 hA3 hA4 hRow;go_wp2;go_ret;exact ⟨g,o,c,f.set k3 { b with worn:=v4 },by rw [List.length_set,HL.out];rfl,hsf,⟨hs,hBf,hApt.mono hlo (by omega)⟩,hRf,hAf⟩
 have t1:((k:Int) == 1) = false:=by rw [beq_eq_false_iff_ne];omega
 by_cases h2:k = 2
 . have t2:((k:Int) == 2) = true:=by subst h2;rfl
   clear h0 h1 h2;go_wp2;go_ret;have hl4:=HL.out;cases f with
   | nil=>simp at hl4
   | cons b f =>
     cases hs with
     | nil=>have:=hBk2.len;simp at this
     | cons x hs =>
       have hl3:f.length = 3:=by simpa using hl4
       exact ⟨g,o + 2,c - 1,f,by rw [hl3];rfl,⟨by omega,by omega,fun y hy=>hsm.out.2.2 y (List.mem_cons_of_mem _ hy)⟩,⟨hs,hBk2.tail,(hApt.mono hlo hhi2).tail⟩,hR2.mono (by omega),hA2'⟩
 have t2:((k:Int) == 2) = false:=by rw [beq_eq_false_iff_ne];omega
 by_cases h3:k = 3
 . have t3:((k:Int) == 3) = true:=by subst h3;rfl
   clear h0 h1 h2 h3;go_wp2_with fail
   refine (HP.out (m + 501) _ (by omega) hR2).mono ?_;rintro e w3 ⟨k3,rfl,hk3,hR3,hA3⟩;have hk3':(k3:Int) < 4:=by omega
   have hBk3:=hBk2.reader hA3 hApt hRlo;obtain ⟨b,pb,po,cap,hfb,hhb,hb4,hcap,c0,c1,f0,f1,hRow⟩:=hBk3.pick HL.out hpl.out hk3;have hW:=(zq c0 (.slice (some ⟨pb,po + 5,none⟩) 3 (cap - 1))).more c1;have hgi:=hApt.top g (zf.2 rfl);have hpi:=hApt.in_ k3 _ pb hhb (zf.2 rfl);have hs3:=hA3.size;have hA3':=hA2'.trans hA3 (fun _ _ h=>h);obtain ⟨q,ps,hbp⟩:∃ q ps,b.pages = q :: ps:=by
    cases h:b.pages with
    | nil=>rw [h] at hb4;simp at hb4
    | cons q ps=>exact ⟨q,ps,rfl⟩
   have hps:ps.length = 3:=by rw [hbp] at hb4;simpa using hb4
   have hRow2:Row w3 (some ⟨pb,po + 5,none⟩) (pgs ps):=by
    have:=hRow.drop 5;rw [hbp] at this;exact this
   have hBf:=hBk3.setBlock (c:=⟨ps,b.worn⟩) (x:=(some ⟨pb,po + 5,none⟩,cap - 1)) (by rw [HL.out];exact hk3) (fun j y hy e=>(hApt.in_ j y g hy e).2.2 (zf.2 rfl)) (by rw [zf];intro e;exact hpi.2.2 (zf.2 e.symm)) hRow2 (by show ps.length ≤ cap - 1;omega) (by show xt _ _ _ _ [.slice _ ps.length _,_];rw [hps];exact hW);have hApf:=hApt.same (x:=(some ⟨pb,po + 5,none⟩,cap - 1)) hhb (fun b hb=>by rw [zf] at hb ⊢;exact hb);have hRf:=(hR3.agr hW.agr (by omega) (fun b hb e=>by have:=hR3.le;omega)).mono (n:=m + 600) (by omega);have hAf:=hA3'.trans (S':=(· = g)) hW.agr (fun b hb e=>by omega);have hss:=hW.size;have hsf:Zx (f.set k3 ⟨ps,b.worn⟩):=by
    refine K5 hsm.out ?_ _;have hb0:=hsm.out.2.2 b (List.mem_of_getElem? hfb);exact ⟨by show ps.length ≤ 4;omega,hb0.2.1,fun y hy=>hb0.2.2 y (by rw [hbp];exact List.mem_cons_of_mem _ hy)⟩
   clear hW hA3 hRow hRow2 hbp;have hcap':(1:Int) ≤ 4:=by omega
   go_wp2;go_ret;exact ⟨g,o,c,f.set k3 ⟨ps,b.worn⟩,by rw [List.length_set,HL.out];rfl,hsf,⟨_,hBf,hApf.mono hlo (by omega)⟩,hRf,hAf⟩
 have t3:((k:Int) == 3) = false:=by rw [beq_eq_false_iff_ne];omega
 clear h0 h1 h2 h3;go_wp2;go_ret;exact ⟨g,o,c,f,by rw [HL.out];rfl,hsm.out,⟨hs,hBk2,hApt.mono hlo hhi2⟩,hR2.mono (by omega),hA2'⟩
end
section
open Go.RowKit Go.Maps
structure Code (w:World) (A:Option Addr) (bs:List Nat) (c:Nat):Prop where
 len:bs.length ≤ c
 cap:c ≤ 9223372036854775807
 byte:∀ b ∈ bs,b < 256
 row:RRow w A (bytes bs)
end
section
open Go.RowKit Go.Maps
end
section
open Go.RowKit Go.Conc
def Lain (W:World) (A:Option Addr):Prop:=∀ a,A = some a->a.spot = none∧∃ cs t fr,W.heap[a.block]? = some (.cells cs t fr)
theorem zae {P:Program} {W:World} {r:Reach} {base:Nat} {t e:TypeId} {a:Option Addr} {l c:Nat} (ht:P.underlying t = some (.slice e)) (h:Value.okWide P W r base t (.slice a l c)):Lain W a:=by
 rintro a rfl;simp only [Value.okWide,ht,Cell.okWide,Cell.ok] at h;obtain ⟨_,_,_,h1,row,cells,h2,_⟩:=h;refine ⟨h1, ?_⟩;unfold World.shape? at h2;split at h2
 . rename_i cs t' fr ho;exact ⟨_,_,_,ho⟩
 cases h2
theorem zk1 {W:World} {A:Option Addr} {bs:List Nat} {c:Nat} (hc:Code W A bs c) (hl:Lain W A) :
 ∃ Gd A0,Co (good Gd) (fun _=>False) A0 W W∧VIn (good Gd) A0 (.slice A bs.length c)∧Code (cutW (good Gd) W) A bs c∧∀ b x,Gd b = some x->∃ a,A = some a∧a.block = b:=by
 cases A with
 | none =>
   refine ⟨fun _=>none,fun _=>False,⟨⟨fun r hr=>hr.elim,fun c l h e=>by cases e⟩,fun b hb=>hb.elim, .refl W⟩, .slice0 _ _, ?_,fun _ _ e=>by cases e⟩;rw [zmw fun _=>rfl];exact hc
 | some a =>
   obtain ⟨hs,cs,t,fr,ho⟩:=hl a rfl;obtain ⟨cb,off,spot⟩:=a;simp only at hs ho;subst hs;have hlt:cb < W.heap.size:=(Array.getElem?_eq_some_iff.1 ho).1;have hrow:∀ j,j < bs.length->∃ n:Int,W.cell? ⟨cb,off + j,none⟩ = some (.int .u8 n):=by
    intro j hj;obtain ⟨b,o,e,hr⟩:=hc.row (by intro e;rw [List.map_eq_nil_iff.1 e] at hj;simp at hj);cases e;refine ⟨(bs[j]:Nat),hr j _ ?_⟩;simp [bytes,hj]
   obtain ⟨D,hD⟩:∃ D:Nat->Option (Nat × Nat),D = fun i=>if i = cb then some (off,off + bs.length) else none:=⟨_,rfl⟩
   have hDc:(good D).dead cb = some (off,off + bs.length):=by rw [hD];exact if_pos rfl
   have hlo:(good D).lo cb = off:=by unfold Cfg.lo;rw [hDc]
   have hDb:∀ c x,D c = some x->c = cb:=by
    intro c x e;by_cases h:c = cb
    . exact h
    rw [hD] at e;have e':(if c = cb then some (off,off + bs.length) else none) = some x:=e;rw [if_neg h] at e';cases e'
   have hcut:(cutW (good D) W).heap[cb]? = some (.cells (cs.extract 0 (off + bs.length)) t fr):=by
    rw [X8,hDc,ho];rfl
   have hcell:∀ j u,W.cell? ⟨cb,j,none⟩ = some u->cs[j]? = some u:=by
    intro j u h
    simpa [World.cell?,ho] using h
   refine ⟨D,fun b=>b = cb,⟨⟨?_, ?_⟩,fun b hb=>hb.elim, .refl W⟩, .slice _ _ ⟨rfl, ?_⟩,⟨hc.len,hc.cap,hc.byte,fun hn=>?_⟩,fun b x e=>⟨_,rfl,(hDb b x e).symm⟩⟩
   . rintro r rfl;refine ⟨_,hcut, .cells fun j v hj hv=>?_⟩;rw [hlo] at hj;rw [Array.getElem?_extract] at hv;split at hv
     . rename_i hlt2;obtain ⟨n,hn⟩:=hrow (j - off) (by omega);rw [show off + (j - off) = j by omega] at hn;have:=hcell j _ hn;rw [show 0 + j = j by omega,this] at hv;cases hv;exact .int _ _
     cases hv
   . intro c l h e;rw [hDb c _ e,zy];exact hlt
   . rw [hlo];exact Nat.le_refl _
   obtain ⟨b,o,e,hr⟩:=hc.row hn;cases e;refine ⟨cb,off,rfl,fun j u hj=>?_⟩;have hjl:j < bs.length:=by have:=(List.getElem?_eq_some_iff.1 hj).1;simpa [bytes] using this
   have h1:=hcell _ _ (hr j u hj);have h2:(cs.extract 0 (off + bs.length))[off + j]? = some u:=by
    rw [Array.getElem?_extract];have hsz:=(Array.getElem?_eq_some_iff.1 h1).1;rw [if_pos (by omega)]
    simpa using h1
   simp [World.cell?,hcut,h2]
theorem zgy {Post:Value->World->Prop} {fr:Frame} {W:World} (h:Fine Tryz.prog Post (fun _=>False) (Go.Conc.G fr []) W) :
 ∃ M last o w' t',runNT Tryz.prog (M + 1) (solo (Go.Conc.G fr []) W) #[] = (.ended o w',t')∧runN Tryz.prog M (solo (Go.Conc.G fr []) W) = .next last∧step Tryz.prog last = .ended o w'∧Go.Conc.Good Tryz.prog Post last o w' t':=by
 have hE:=k9.mono (B:=0) h (Nat.zero_le _) W.tape W.drawn #[Go.Conc.G fr []] none #[] (fun _=>0) (fun _=>False) (fun l hl=>hl.elim) rfl (leavers_one _ _) past_nil;rw [Xs,← solo_eq_crowd] at hE;exact hE
end
section
open Go.RowKit Go.Shelf
attribute [local go_sem] Oper.semAt_some
abbrev PgAt:=Nat × Nat × Pg
def kv (i:Nat):Nat->List Pg->List PgAt
 | _,[]=>[]
 | j,p :: ps=>(i,j,p) :: kv i (j + 1) ps
def zl:Nat->List Bk->List PgAt
 | _,[]=>[]
 | i,b :: f=>kv i 0 b.pages ++ zl (i + 1) f
def encP (x:PgAt):Array Value:=#[.agg #[.int .i64 (x.1:Int), .int .i64 (x.2.1:Int)], .agg #[.int .i64 x.2.2.state, .int .i64 x.2.2.rc.kind, .int .i64 x.2.2.rc.seq, .int .i64 x.2.2.rc.addr, .int .i64 x.2.2.rc.val]]
theorem zon {f:List Bk} {k:Nat} {B:Bk} (h:f[k]? = some B):zl k (f.drop k) = kv k 0 (B.pages.drop 0) ++ zl (k + 1) (f.drop (k + 1)):=by rw [zr h];rfl
theorem znm {ps:List Pg} {i m:Nat} {p:Pg} (h:ps[m]? = some p):kv i m (ps.drop m) = (i,m,p) :: kv i (m + 1) (ps.drop (m + 1)):=by rw [zr h];rfl
theorem X6 (F:Fence) (n:Nat) (hF:F.fn 73) (hro:F.round = none) (hn:1 ≤ n) (l Bs n₀ g o c:Nat) (f:List Bk) (hs:List (Option Addr × Nat)) (J Jx:List PgAt->World->Prop)
 (W:World) (hn₀:n₀ ≤ W.heap.size) (hJ:AbidesFrom W.heap.size J)
 (hY:∀ pre (x:PgAt) W1,J pre W1->pre.length < (zl 0 f).length->x.1 < f.length∧x ∈ zl 0 f->YieldAt F (n - 1) Tryz.prog l (encP x) W1 fun e W' =>
  (e = .returned (.bool true)∧J (pre ++ [x]) W'∧Below n₀ W1 W')∨(e = .returned (.bool false)∧Jx (pre ++ [x]) W'))
 (hBs:W.cell? ⟨Bs,0,none⟩ = some (.slice (some ⟨g,o,none⟩) f.length c)) (hl:f.length < 1000000000000) (hp:∀ b ∈ f,b.pages.length < 1000000000000)
 (hBk:Bks W (some ⟨g,o,none⟩) f hs) (hlow:∀ b,fblk (some ⟨g,o,none⟩) hs b->b < n₀) (h0:J [] W) :
 CallsIn F n Tryz.prog 73 #[.func (.yield l) #[] #[], .pointer (some ⟨Bs,0,none⟩)] W fun e W'=>(∃ v,e = .returned v) ∧
  ((∃ ys,ys = zl 0 f∧J ys W')∨(∃ pre,pre <+: zl 0 f∧Jx pre W')):=by
 have HP:=Lib.hid hp;have HLOW:=Lib.hid hlow;have hT0:Hid (zl 0 f = [] ++ zl 0 (f.drop 0)):=rfl;have hJa:∀ pre (V:World) (o:Obj),J pre V->J pre (V.alloc o):=fun pre V o h=>hJ pre V _ none h (World.grownBy_alloc V o none) (fun r e=>by cases e);have HJA:=Lib.hid hJa;clear hp hlow hJa hJ;refine callsIn_of_wp Tryz.func73 rfl hF ?_ hro;simp only [Tryz.ntmps73,List.size_toArray,List.length_cons,List.length_nil,Nat.reduceAdd,Nat.reduceSub,Array.replicate_succ,Array.replicate_zero,List.push_toArray,List.append_toArray,List.nil_append,List.cons_append]
 gi_wp2
 gi_loopw [9] (fun i wr=>∃ (k:Nat) (pre:List PgAt),k ≤ f.length∧i = .int .i64 k∧J pre wr∧Below n₀ W wr∧Hid (zl 0 f = pre ++ zl k (f.drop k)))
  (fun i _=>f.length - (intOf i).toNat)
 case atStart=>exact ⟨0,[],Nat.zero_le _,rfl,h0,Below.refl _ _,hT0⟩
 case round =>
  clear hT0;obtain ⟨k,pre,hk,rfl,hJs,hB,hT⟩:=hrel;by_cases hlt:k < f.length
  . obtain ⟨B,hb⟩:=zc hlt;have hBkr:Bks wr (some ⟨g,o,none⟩) f hs:=hBk.keep fun q hq hl=>hB.block q (HLOW.out q (by
     rcases hq with hq | ⟨x,hx,hq⟩
     . exact .inl hq
     obtain ⟨i,hi⟩:=List.getElem?_of_mem hx;exact .inr ⟨i,x,hi,hq⟩))
    obtain ⟨⟨Ap,cp⟩,_,z0,z1,_,_,_,_⟩:=hBkr.at_ hb;have hT1:Hid (zl 0 f = pre ++ (kv k 0 (B.pages.drop 0) ++ zl (k + 1) (f.drop (k + 1)))):=by rw [Hid,hT.out,zon hb]
    have hpl:=HP.out B (List.mem_of_getElem? hb);have hk1:(k:Int) < f.length:=by omega
    have HB:=Lib.hid hb;have hJb:=HJA.out pre wr (.cells #[.slice Ap B.pages.length cp, .int .i64 B.worn] 99) hJs;have hBb:Below n₀ W (wr.alloc (.cells #[.slice Ap B.pages.length cp, .int .i64 B.worn] 99)):=hB.alloc (by have:=hB.size;omega) _;dsimp only at *;clear hb hBkr hT
    gi_wp2
    gi_loopw [17] (fun j wl=>∃ (m:Nat) (pre2:List PgAt),m ≤ B.pages.length∧j = .int .i64 m∧J pre2 wl∧Below n₀ W wl∧Hid (zl 0 f = pre2 ++ (kv k m (B.pages.drop m) ++ zl (k + 1) (f.drop (k + 1)))))
     (fun j _=>B.pages.length - (intOf j).toNat)
    case atStart=>exact ⟨0,pre,Nat.zero_le _,rfl,hJb,hBb,hT1⟩
    case round =>
     clear hT1 hJb hBb z0 z1;obtain ⟨m,pre2,hm,rfl,hJm,hBm,hTm⟩:=hrel;by_cases hltm:m < B.pages.length
     . obtain ⟨p,hq⟩:=zc hltm;have hBkm:=hBk.keep (fun q hq hl=>hBm.block q (HLOW.out q (by
        rcases hq with hq | ⟨x,hx,hq⟩
        . exact .inl hq
        obtain ⟨i,hi⟩:=List.getElem?_of_mem hx;exact .inr ⟨i,x,hi,hq⟩)))
       have hRm:=(hBkm.pg k B _ HB.out (by assumption)).1;obtain ⟨pb,po,rfl⟩:=hRm.addr (ky (by intro e;rw [e] at hltm;simp at hltm));obtain ⟨c0,c1,c2,c3,c4⟩:=hRm.pg hq;have hm1:(m:Int) < B.pages.length:=by omega
       have hJp:=HJA.out pre2 _ (.cells #[.int .i64 p.state, .int .i64 p.rc.kind, .int .i64 p.rc.seq, .int .i64 p.rc.addr, .int .i64 p.rc.val] 76) hJm;have hBp:=hBm.alloc (by have:=hBm.size;omega) (.cells #[.int .i64 p.state, .int .i64 p.rc.kind, .int .i64 p.rc.seq, .int .i64 p.rc.addr, .int .i64 p.rc.val] 76);have hT2:Hid (zl 0 f = (pre2 ++ [(k,m,p)]) ++ (kv k (m + 1) (B.pages.drop (m + 1)) ++ zl (k + 1) (f.drop (k + 1)))):=by
        rw [Hid,hTm.out,znm hq,List.append_assoc];rfl
       have hlen:pre2.length < (zl 0 f).length:=by rw [hT2.out,List.length_append,List.length_append];simp;omega
       obtain ⟨fn,tmps,assign,body,hy,hR⟩:=hY pre2 (k,m,p) _ hJp hlen ⟨hlt,by rw [hT2.out];simp⟩;dsimp only [encP] at hy;clear hq hlen hTm hJm
       gi_wp2
       refine hR.mono ?_;rintro e W3 (⟨rfl,hJ3,hk3⟩ | ⟨rfl,hJx3⟩)
       . gi_wp2
         go_roundw
         case rel=>exact ⟨m + 1,pre2 ++ [(k,m,p)],by omega,by simp,hJ3,hBp.trans hk3,hT2⟩
         case measure=>simp [intOf];omega
       gi_wp2
       refine bodyPost_ret (results_none rfl _ _ _) rfl ?_;exact ⟨⟨_,rfl⟩, .inr ⟨_,by rw [hT2.out];exact List.prefix_append _ _,hJx3⟩⟩
     obtain rfl:m = B.pages.length:=by omega
     have hT3:Hid (zl 0 f = pre2 ++ zl (k + 1) (f.drop (k + 1))):=by rw [Hid,hTm.out,List.drop_of_length_le nl];rfl
     gi_wp2
     go_roundw
     case rel=>exact ⟨k + 1,pre2,by omega,by simp,hJm,hBm,hT3⟩
     case measure=>simp [intOf];omega
  obtain rfl:k = f.length:=by omega
  have hend:pre = zl 0 f:=by rw [hT.out,List.drop_of_length_le nl];simp [zl]
  clear hT
  gi_wp2
  go_end0
  exact ⟨⟨_,rfl⟩, .inl ⟨_,hend,hJs⟩⟩
end
section
open Go.RowKit Go.Shelf
attribute [local go_sem] Oper.semAt_some
theorem Xh (F:Fence) (n:Nat) (h:F.fn 39) (hro:F.round = none) (a:Option Addr) (len cap:Nat) (w:World) :
 CallsIn F n Tryz.prog 39 #[.slice a len cap] w fun e w'=>e = .returned (.func (.func 73) #[] #[.pointer (some ⟨w.heap.size,0,none⟩)])∧w' = w.alloc (.cells #[.slice a len cap] 25):=by
 refine callsIn_of_wp Tryz.func39 rfl h ?_ hro;simp only [Tryz.ntmps39,List.size_toArray,List.length_cons,List.length_nil,Nat.reduceAdd,Nat.reduceSub,Array.replicate_succ,Array.replicate_zero,List.push_toArray,List.append_toArray,List.nil_append,List.cons_append]
 gi_wp2
 go_ret;exact ⟨rfl,rfl⟩
theorem Ko (F:Fence) (n:Nat) (hF:F.fn 73) (hro:F.round = none) (hn:1 ≤ n) (Bs n₀ g o c:Nat) (f:List Bk) (hs:List (Option Addr × Nat)) (w:World) (hB:Bs < w.heap.size) (hn₀:n₀ ≤ w.heap.size)
 (hBs:w.cell? ⟨Bs,0,none⟩ = some (.slice (some ⟨g,o,none⟩) f.length c)) (hl:f.length < 1000000000000) (hp:∀ b ∈ f,b.pages.length < 1000000000000)
 (hBk:Bks w (some ⟨g,o,none⟩) f hs) (hlow:∀ b,fblk (some ⟨g,o,none⟩) hs b->b < n₀) :
 SeqStopsK F n Tryz.prog 73 #[.pointer (some ⟨Bs,0,none⟩)] encP (Below n₀) (fun ys=>ys = zl 0 f) (fun pre=>pre <+: zl 0 f) (zl 0 f).length w:=fun l J Jx W hW hJ _ hY h0=>by
 refine X6 F n hF hro hn l Bs n₀ g o c f hs J Jx W (Nat.le_trans hn₀ hW.size) hJ (fun pre x W1 h1 h2 _=>hY pre x W1 h1 h2) ((hW.cell (p:=⟨Bs,0,none⟩) hB).trans hBs) hl hp (hBk.keep fun q hq hl=>hW.block q (by omega)) hlow h0
def yz (n:Int) (x:PgAt):Int:=if x.2.2.state = 1 then max n x.2.2.rc.seq else n
def Xq (pre:List PgAt):Int:=pre.foldl yz 0
theorem zct (pre:List PgAt) (x:PgAt):Xq (pre ++ [x]) = yz (Xq pre) x:=by unfold Xq;rw [List.foldl_append];rfl
theorem zlo {i:Nat} {x:PgAt}:∀ {ps:List Pg} {j:Nat},x ∈ kv i j ps->x.2.2 ∈ ps
 | [],_,h=>by simp [kv] at h
 | p :: ps, j, h => by
   rw [kv] at h;rcases List.mem_cons.1 h with rfl | h
   . exact List.mem_cons_self ..
   exact List.mem_cons_of_mem _ (zlo h)
theorem zhc {x:PgAt}:∀ {f:List Bk} {i:Nat},x ∈ zl i f->∃ b ∈ f,x.2.2 ∈ b.pages
 | [],_,h=>by simp [zl] at h
 | b :: f, i, h => by
   rw [zl] at h;rcases List.mem_append.1 h with h | h
   . exact ⟨b,List.mem_cons_self ..,zlo h⟩
   obtain ⟨c,hc,hx⟩:=zhc h;exact ⟨c,List.mem_cons_of_mem _ hc,hx⟩
theorem zgb:∀ {xs:List PgAt} {n:Int},(∀ x ∈ xs,zn x.2.2 = true)->0 ≤ n->n ≤ 600->0 ≤ xs.foldl yz n∧xs.foldl yz n ≤ 600
 | [],n,_,h1,h2=>⟨h1,h2⟩
 | x :: xs, n, h, h1, h2 => by
   have hx:=zb8 (h x (List.mem_cons_self ..));refine zgb (xs:=xs) (n:=yz n x) (fun y hy=>h y (List.mem_cons_of_mem _ hy)) ?_ ?_
   . unfold yz;split <;> omega
   unfold yz;split <;> omega
theorem zhv {f:List Bk} (h:ze f = true):0 ≤ Xq (zl 0 f)∧Xq (zl 0 f) ≤ 600:=by
 refine zgb (fun x hx=>?_) (by omega) (by omega);obtain ⟨b,hb,hx⟩:=zhc hx;have:=qr (f:=f) (seen:=[]) (by unfold ze at h;simp at h;exact h.2) b hb;exact this.2 _ hx
def Laid (W:World) (B:Nat) (t:TypeId) (cs:Array Value):Prop:=W.heap[B]? = some (.cells cs t (0,0))
theorem Laid.lt {W:World} {B:Nat} {t:TypeId} {cs:Array Value} (h:Laid W B t cs):B < W.heap.size:=(Array.getElem?_eq_some_iff.1 h).1
theorem Laid.cell {W:World} {B:Nat} {t:TypeId} {cs:Array Value} (h:Laid W B t cs) (i:Nat) {u:Value} (hu:cs[i]? = some u):W.cell? ⟨B,i,none⟩ = some u:=by simp [World.cell?,show W.heap[B]? = _ from h,hu]
theorem Jm (B:Nat) (t:TypeId) (cs:Array Value) (n₀:Nat):OwnFrom n₀ (fun (_:Unit) W=>Laid W B t cs):=fun _ X Y row hs hg hr =>
 (hg.block B hs.lt (fun e'=>by obtain ⟨_,o,ho,hc⟩:=hr B e'.symm;rw [show X.heap[B]? = _ from hs] at ho;cases ho;cases hc)).trans hs
def pgv (p:Pg):Array Value:=#[.int .i64 p.state, .int .i64 p.rc.kind, .int .i64 p.rc.seq, .int .i64 p.rc.addr, .int .i64 p.rc.val]
def qa (f:List Bk):Int:=if ze f = true then Xq (zl 0 f) + 1 else 0
theorem Jo (f:List Bk) (A:Option Addr) (n c:Nat) (w:World) (hn:n = f.length) (hF:Fl w A f) :
 Calls Tryz.prog 15 #[.slice A n c] w fun e w'=>e = .returned (.int .i64 (qa f))∧Below w.heap.size w w':=by
 subst hn;refine (callsIn_wide (n:=6)).1 ?_;refine callsIn_of_wp_marks Tryz.func15 rfl trivial ?_ rfl;simp only [Tryz.ntmps15,List.size_toArray,List.length_cons,List.length_nil,Nat.reduceAdd,Nat.reduceSub,Array.replicate_succ,Array.replicate_zero,List.push_toArray,List.append_toArray,List.nil_append,List.cons_append];by_cases hok:ze f = true
 . have hfl:=zh hok;have HFL:=Lib.hid hfl;have hfin:Hid (qa f = Xq (zl 0 f) + 1):=by unfold Hid qa;rw [if_pos hok]
   have HP:=Lib.hid (show ∀ b ∈ f,b.pages.length < 1000000000000 from fun b hb=>by rw [(zo hok b hb).1];omega);obtain ⟨hs,hBk⟩:=hF;have hFc:=Lib.hid (xh f A c w ⟨hs,hBk⟩);rw [hok] at hFc;have hrg:=zhv hok;have HPL:=Lib.hid (fun b hb=>(zo hok b hb).1);clear hfl hok
   gi_wp2_with (first | (refine ⟨trivial, ?_⟩;gi_at_call 29;refine (callsIn_wide.2 hFc.out).mono ?_;rintro e w1 ⟨rfl,hb1⟩) | (refine ⟨trivial, ?_⟩;gi_at_call 39;refine (Xh Fence.wide _ trivial rfl _ _ _ _).mono ?_;rintro e w2 ⟨rfl,rfl⟩))
   obtain ⟨g,o,rfl⟩:=hBk.addr (by intro e;have:=HFL.out;rw [e] at this;simp at this);have hlow:∀ b,fblk (some ⟨g,o,none⟩) hs b->b < w1.heap.size:=fun b hb=>by
    have h4:=HFL.out;have hs1:=hb1.size;rcases hb with hb | ⟨i,x,hx,hb⟩
    . rw [zf] at hb;subst hb;obtain ⟨B,hB⟩:=zc (l:=f) (k:=0) (by omega);obtain ⟨_,_,c0,_⟩:=hBk.at_ hB;have:=zd c0;omega
    obtain ⟨B,hB⟩:=zc (l:=f) (k:=i) (by rw [← hBk.len];exact (List.getElem?_eq_some_iff.1 hx).1);have hr:=(hBk.pg i B x hB hx).1;by_cases hn:B.pages = []
    . have:=HPL.out B (List.mem_of_getElem? hB);rw [hn] at this;simp at this
    obtain ⟨b',o',he,hc⟩:=hr (ky hn);rw [he,zf] at hb;subst hb;obtain ⟨q,hq⟩:=zc (l:=pgs B.pages) (k:=0) (by rw [qh];have:=List.length_pos_iff.2 hn;omega);have:=zd (hc 0 q hq).1;omega
   have hBk1:=hBk.below hb1 nl;have bS:=(Boxed.new w1 3 (.int .i64 0)).alloc (.cells #[.slice (some ⟨g,o,none⟩) f.length c] 25);have bA:=Boxed.new (w1.alloc (.cells #[.int .i64 0] 3)) 25 (.slice (some ⟨g,o,none⟩) f.length c);simp only [World.size_alloc] at bA;have hB0:Below w1.heap.size w1 ((w1.alloc (.cells #[.int .i64 0] 3)).alloc (.cells #[.slice (some ⟨g,o,none⟩) f.length c] 25)):=((Below.refl _ w1).alloc nl _).alloc (by simp) _;have hsz:((w1.alloc (.cells #[.int .i64 0] 3)).alloc (.cells #[.slice (some ⟨g,o,none⟩) f.length c] 25)).heap.size = w1.heap.size + 2:=by simp
   have hBk2:=(hBk1.alloc (.cells #[.int .i64 0] 3)).alloc (.cells #[.slice (some ⟨g,o,none⟩) f.length c] 25);obtain ⟨W0,hW0⟩:∃ W0,(w1.alloc (.cells #[.int .i64 0] 3)).alloc (.cells #[.slice (some ⟨g,o,none⟩) f.length c] 25) = W0:=⟨_,rfl⟩;rw [hW0] at bS bA hB0 hsz hBk2 ⊢;have hl4:f.length < 1000000000000:=by rw [HFL.out];omega
   clear hW0 hBk hBk1;refine wpIn_rangeFunc_ownH rfl (by omega) (gf:=73) (lb:=#[.pointer (some ⟨w1.heap.size + 1,0,none⟩)]) rfl trivial (enters_of Tryz.func73 (by kernel_rfl) rfl)
    (Ko Fence.wide _ trivial rfl (by omega) (w1.heap.size + 1) w1.heap.size g o c f hs W0 (by omega) (by omega) bA.cell hl4 HP.out hBk2 hlow) belowK_t (belowK_b (by omega)) (Below.refl _ _) (fun _=>rfl)
    (fun pre W=>Boxed W w1.heap.size 3 (.int .i64 (Xq pre))∧Below w1.heap.size w1 W)
    (fun _ _ _=>False)
    (OwnFrom.and (Own.from (boxed_own _ _ _) _) (ownFrom_below nl (by omega)))
    (fun _ _ _ _ _ hs _ _=>hs)
    ⟨bS,hB0⟩
    (fun x a' W=>∃ Bx,w1.heap.size < Bx∧Laid W Bx 76 (pgv x.2.2)∧a' = { tmps:=#[.slice (some ⟨g,o,none⟩) f.length c,undef, .int .i64 0, .pointer (some ⟨w1.heap.size,0,none⟩),undef, .pointer (some ⟨Bx,0,none⟩), .slice (some ⟨g,o,none⟩) f.length c, .bool true, .bool false, .slice (some ⟨g,o,none⟩) f.length c, .func (.func 73) #[] #[.pointer (some ⟨w1.heap.size + 1,0,none⟩)], .agg #[.int .i64 (x.1:Int), .int .i64 (x.2.1:Int)], .agg (pgv x.2.2),undef,undef,undef,undef,undef,undef,undef,undef,undef,undef],defers:=[] })
    (fun x a' _ X Y row hs hg hr=>by obtain ⟨Bx,h1,h2,h3⟩:=hs;exact ⟨Bx,h1,Jm Bx _ _ _ () X Y row h2 hg hr,h3⟩)
    ?assign ?body ?done ?stop
   case assign =>
    rintro l pre x W K ⟨bS1,hB1⟩ hK;dsimp only [encP]
    gi_wp2
    exact hK _ _ ((KeepsOthers.alloc _ _).from _) ((Below.refl _ W).alloc hB1.size _) ⟨bS1.alloc _,hB1.alloc hB1.size _⟩ ⟨W.heap.size,bS1.lt,World.alloc_heap_new W _,rfl⟩
   case body =>
    rintro l pre x a' W hl ⟨r,hr⟩ ⟨bS1,hB1⟩ ⟨Bx,hBx,bX,rfl⟩ hlt;have cS:=bS1.cell;have fS:=bS1.frozen;have x0:W.cell? ⟨Bx,0,none⟩ = some (.int .i64 x.2.2.state):=bX.cell 0 rfl;have x1:W.cell? ⟨Bx,1,none⟩ = some (.int .i64 x.2.2.rc.kind):=bX.cell 1 rfl;have x2:W.cell? ⟨Bx,2,none⟩ = some (.int .i64 x.2.2.rc.seq):=bX.cell 2 rfl;have x3:W.cell? ⟨Bx,3,none⟩ = some (.int .i64 x.2.2.rc.addr):=bX.cell 3 rfl;have x4:W.cell? ⟨Bx,4,none⟩ = some (.int .i64 x.2.2.rc.val):=bX.cell 4 rfl;by_cases h1:x.2.2.state = 1
    . have hst:Hid (Xq (pre ++ [x]) = max (Xq pre) x.2.2.rc.seq):=by rw [Hid,zct];unfold yz;rw [if_pos h1]
      rw [h1] at x0
      gi_wp2
      . have hm:max (Xq pre) x.2.2.rc.seq = x.2.2.rc.seq:=by omega
        exact ⟨(KeepsOthers.setCell _ _ _).from _,(Below.refl _ W).setCell (p:=⟨w1.heap.size,0,none⟩) nl _,by rw [hst.out,hm];exact bS1.set _,hB1.setCell (p:=⟨w1.heap.size,0,none⟩) nl _⟩
      have hm:max (Xq pre) x.2.2.rc.seq = Xq pre:=by omega
      exact ⟨(KeepsOthers.setCell _ _ _).from _,(Below.refl _ W).setCell (p:=⟨w1.heap.size,0,none⟩) nl _,by rw [hst.out,hm];exact bS1.set _,hB1.setCell (p:=⟨w1.heap.size,0,none⟩) nl _⟩
    have hst:Hid (Xq (pre ++ [x]) = Xq pre):=by rw [Hid,zct];unfold yz;rw [if_neg h1]
    have h1':(x.2.2.state == 1) = false:=by simpa using h1
    gi_wp2
    exact ⟨KeepsFrom.refl _ _,Below.refl _ _,by rw [hst.out];exact bS1,hB1⟩
   case done =>
    rintro D ys W hD rfl ⟨bS1,hB1⟩ hK;have cS:=bS1.cell;have hr:=hrg;have e1:IntKind.i64.wrap (Xq (zl 0 f) + 1) = Xq (zl 0 f) + 1:=IntWalk.i64_in _ (by omega)
    gi_wp2
    refine ⟨by simp, .inl ⟨_,_,rfl,run_takeDeferred hK, ?_⟩⟩;exact ⟨_,results_tmp rfl _ _ _,by rw [hfin.out];rfl,hb1.trans ((hB1.trans (belowK_b (w:=w1) nl W D _ _ (by omega) hK rfl rfl)).mono hb1.size)⟩
   case stop =>
    rintro D c pre W _ _ h _;exact h.elim
 have hok':ze f = false:=by simpa using hok
 have hfin:Hid (qa f = 0):=by unfold Hid qa;rw [if_neg hok]
 have hFc:=Lib.hid (xh f A c w hF);rw [hok'] at hFc
 gi_wp2_with (first | (refine ⟨trivial, ?_⟩;gi_at_call 29;refine (callsIn_wide.2 hFc.out).mono ?_;rintro e w1 ⟨rfl,hb1⟩))
 exact ⟨_,results_tmp rfl _ _ _,by rw [hfin.out];rfl,hb1⟩
end
section
open Go.RowKit Go.Maps
end
section
open Go.RowKit Go.Maps
theorem zpa {f:List Bk} {i:Nat} {b:Bk} (h:f[i]? = some b) (t:Bool):(wipe f i t)[i]? = some ⟨List.replicate 4 (if t then ⟨2,rc0⟩ else pg0),b.worn + 1⟩:=by
 rw [zpb (List.getElem?_eq_some_iff.1 h).1 t,List.getD_eq_getElem?_getD,h];rfl
theorem Xd {f:List Bk} {i:Nat} {b:Bk} (h:f[i]? = some b):f.getD i zbk = b:=by rw [List.getD_eq_getElem?_getD,h];rfl
end
section
open Go.RowKit Go.Maps
theorem Jr {f:List Bk} (h:ze f = true):Zp f:=by
 have h2:=qr (f:=f) (seen:=[]) (by unfold ze at h;simp at h;exact h.2);exact ⟨zh h,fun b hb=>⟨(zo h b hb).1,(zo h b hb).2.1,(zo h b hb).2.2,(h2 b hb).2⟩⟩
theorem zca:∀ (ps:List Pg) (n m:Int),jr (max n m) ps = max n (jr m ps)
 | [],_,_=>rfl
 | p :: ps, n, m => by
   show jr (max (max n m) p.rc.seq) ps = max n (jr (max m p.rc.seq) ps);rw [show max (max n m) p.rc.seq = max n (max m p.rc.seq) by omega];exact zca ps n _
theorem Js {p:Pg} (h:zn p = true) (h1:p.state ≠ 1):p.rc.seq = 0:=by
 unfold zn at h;rw [if_neg h1] at h;split at h
 . have:p.rc = rc0:=by simpa using h
   rw [this];rfl
 cases h
theorem zh3:∀ (ps:List Pg) (i j:Nat) (n:Int),(∀ p ∈ ps,zn p = true)->0 ≤ n->(kv i j ps).foldl yz n = jr n ps∧0 ≤ jr n ps
 | [],_,_,_,_,h=>⟨rfl,h⟩
 | p :: ps, i, j, n, hp, h => by
   have hs:yz n (i,j,p) = max n p.rc.seq:=by
    unfold yz;dsimp only;split
    . rfl
    rename_i h1;have:=Js (hp p (List.mem_cons_self ..)) h1;omega
   have ih:=zh3 ps i (j + 1) (max n p.rc.seq) (fun q hq=>hp q (List.mem_cons_of_mem _ hq)) (by omega);rw [kv,List.foldl_cons,hs];exact ih
theorem zi0:∀ (f:List Bk) (i:Nat) (n:Int),(∀ b ∈ f,∀ p ∈ b.pages,zn p = true)->0 ≤ n->(zl i f).foldl yz n = f.foldl (fun n b=>max n (most b)) n
 | [],_,_,_,_=>rfl
 | b :: f, i, n, hp, h => by
   obtain ⟨h1,h2⟩:=zh3 b.pages i 0 n (hp b (List.mem_cons_self ..)) h;rw [zl,List.foldl_append,h1,List.foldl_cons];have h3:jr n b.pages = max n (most b):=by
    have:=zca b.pages n 0;rw [show max n 0 = n by omega] at this;exact this
   rw [← h3];exact zi0 f (i + 1) _ (fun c hc=>hp c (List.mem_cons_of_mem _ hc)) h2
theorem za1 {f:List Bk} (h:ze f = true):qa f = next f:=by
 unfold qa next qi Xq;rw [if_pos h,zi0 f 0 0 (X5 (Jr h)) (by omega)]
end
section
open Go.RowKit Go.Maps
theorem jh (b:Bk) (A:Option Addr) (n c:Nat) (w:World) (hn:n = b.pages.length) (hl:b.pages.length < 1000000000000) (hR:Row w A (pgs b.pages)) :
 Calls Tryz.prog 106 #[.agg #[.slice A n c, .int .i64 b.worn]] w fun e w'=>e = .returned (.int .i64 (clean b))∧Below w.heap.size w w':=by
 subst hn;obtain ⟨ps,n⟩:=b;dsimp only at *;have hB0:Below w.heap.size w (w.alloc (.cells #[.slice A ps.length c, .int .i64 n] 99)):=bw;have hT:Hid ((clean ⟨ps,n⟩:Int) = 0 + (ps.drop 0).countP xw):=by unfold Hid clean;simp
 go_enter Tryz.func106,Tryz.ntmps106
 go_wp2
 go_loopw [3,9] (fun q i wr=>∃ (k m:Nat),k ≤ ps.length∧i = .int .i64 k∧q = .int .i64 m∧m ≤ k∧Below w.heap.size w wr∧Hid ((clean ⟨ps,n⟩:Int) = m + (ps.drop k).countP xw)) (fun _ i _=>ps.length - (intOf i).toNat)
 case atStart=>exact ⟨0,0,by omega,rfl,rfl,by omega,hB0,hT⟩
 case round =>
  clear hT hB0;obtain ⟨k,m,hk,rfl,rfl,hm,hB,hT⟩:=hrel;by_cases hlt:k < ps.length
  . obtain ⟨p,hp⟩:=zc hlt;obtain ⟨bk,o,rfl⟩:=hR.addr (ky (by rintro rfl;simp at hlt));obtain ⟨c0,c1,c2,c3,c4⟩:=(hR.below hB nl).pg hp;have hd:=Lib.hid (zr hp);have hk1:(k:Int) < ps.length:=by omega
    have hB2:∀ o,Below w.heap.size w (wr.alloc o):=fun o=>hB.alloc hB.size o;clear hp;by_cases h0:p.state = 0
    . have hi:Hid (xw p = true):=by unfold Hid xw;simp [h0]
      rw [h0] at c0;clear h0;go_wp2;go_roundw
      case rel=>exact ⟨k + 1,m + 1,by omega,by go_num,by go_num,by omega,hB2 _,by rw [Hid,hT.out,hd.out,List.countP_cons,hi.out];simp;omega⟩
      case measure=>simp [intOf];omega
    have hi:Hid (xw p = false):=by unfold Hid xw;simp [h0]
    go_wp2;go_roundw
    case rel=>exact ⟨k + 1,m,by omega,by go_num,rfl,by omega,hB2 _,by rw [Hid,hT.out,hd.out,List.countP_cons,hi.out];simp⟩
    case measure=>simp [intOf];omega
  obtain rfl:k = ps.length:=by omega
  go_wp2;go_ret;exact ⟨qg (by rw [hT.out,List.drop_of_length_le nl];simp),hB⟩
theorem zfj (f:List Bk) (s:Int) (A:Option Addr) (n c:Nat) (w:World) (hn:n = f.length) (hl:f.length < 1000000000000) (hp:∀ b ∈ f,b.pages.length < 1000000000000) (hF:Fl w A f) :
 Calls Tryz.prog 116 #[.slice A n c, .int .i64 s] w fun e w'=>e = .returned (.bool (qo f s))∧Below w.heap.size w w':=by
 subst hn;obtain ⟨hs,hBk⟩:=hF;have HP:=Lib.hid hp;have hT:Hid (qo f s = (f.drop 0).any (zbr s)):=rfl;clear hp
 go_enter Tryz.func116,Tryz.ntmps116
 go_wp2
 go_loopw [11] (fun i wr=>∃ (k:Nat),k ≤ f.length∧i = .int .i64 k∧Below w.heap.size w wr∧Hid (qo f s = (f.drop k).any (zbr s))) (fun i _=>f.length - (intOf i).toNat)
 case atStart=>exact ⟨0,by omega,rfl,Below.refl _ _,hT⟩
 case round =>
  clear hT;obtain ⟨k,hk,rfl,hB,hT⟩:=hrel;by_cases hlt:k < f.length
  . obtain ⟨B,hBb⟩:=zc hlt;obtain ⟨g,o,rfl⟩:=hBk.addr (by rintro rfl;simp at hlt);obtain ⟨⟨Ap,cp⟩,_,z0,z1,_,_,hR,_⟩:=(hBk.below hB nl).at_ hBb;have hd:=Lib.hid (zr hBb);have hpl:=HP.out B (List.mem_of_getElem? hBb);have hk1:(k:Int) < f.length:=by omega
    obtain ⟨ps,n⟩:=B;dsimp only at *;have hB2:Below w.heap.size w (wr.alloc (.cells #[.slice Ap ps.length cp, .int .i64 n] 99)):=hB.alloc hB.size _;have hR2:=hR.alloc (.cells #[.slice Ap ps.length cp, .int .i64 n] 99);have hT0:Hid (qo f s = ((ps.drop 0).any (jl s) || (f.drop (k + 1)).any (zbr s))):=by rw [Hid,hT.out,hd.out];rfl
    clear hBb hT hd;go_wp2
    go_loopw [18] (fun j wl=>∃ (m:Nat),m ≤ ps.length∧j = .int .i64 m∧Below w.heap.size w wl∧Row wl Ap (pgs ps)∧Hid (qo f s = ((ps.drop m).any (jl s) || (f.drop (k + 1)).any (zbr s)))) (fun j _=>ps.length - (intOf j).toNat)
    case atStart=>exact ⟨0,by omega,rfl,hB2,hR2,hT0⟩
    case round =>
     clear hT0 hB2 hR2;obtain ⟨m,hm,rfl,hBl,hRl,hT⟩:=hrel;by_cases hltm:m < ps.length
     . obtain ⟨p,hq⟩:=zc hltm;obtain ⟨pb,po,rfl⟩:=hRl.addr (ky (by rintro rfl;simp at hltm));obtain ⟨c0,c1,c2,c3,c4⟩:=hRl.pg hq;have hd:=Lib.hid (zr hq);have hm1:(m:Int) < ps.length:=by omega
       have hT1:Hid (qo f s = (jl s p || ((ps.drop (m + 1)).any (jl s) || (f.drop (k + 1)).any (zbr s)))):=by rw [Hid,hT.out,hd.out,List.any_cons,Bool.or_assoc]
       have hB3:=fun (o:Obj)=>hBl.alloc hBl.size o;have hR3:=fun (o:Obj)=>hRl.alloc o;clear hq hT hd;by_cases h1:p.state = 1
       . by_cases h2:p.rc.seq = s
         . have hi:Hid (jl s p = true):=by unfold Hid jl;simp [h1,h2]
           rw [h1] at c0;rw [h2] at c2;clear h1 h2;go_wp2;go_ret;exact ⟨zg (by rw [hT1.out,hi.out];rfl),hB3 _⟩
         have hi:Hid (jl s p = false):=by unfold Hid jl;simp [h1,h2]
         rw [h1] at c0;have h2':(p.rc.seq == s) = false:=by simpa using h2
         clear h1;go_wp2;go_roundw
         case rel=>exact ⟨m + 1,by omega,by go_num,hB3 _,hR3 _,by rw [Hid,hT1.out,hi.out];rfl⟩
         case measure=>simp [intOf];omega
       have hi:Hid (jl s p = false):=by unfold Hid jl;simp [h1]
       have h1':(p.state == 1) = false:=by simpa using h1
       go_wp2;go_roundw
       case rel=>exact ⟨m + 1,by omega,by go_num,hB3 _,hR3 _,by rw [Hid,hT1.out,hi.out];rfl⟩
       case measure=>simp [intOf];omega
     obtain rfl:m = ps.length:=by omega
     go_wp2;go_roundw
     case rel=>exact ⟨k + 1,by omega,by go_num,hBl,by rw [Hid,hT.out,List.drop_of_length_le nl];rfl⟩
     case measure=>simp [intOf];omega
  obtain rfl:k = f.length:=by omega
  go_wp2;go_ret;exact ⟨zg (by rw [hT.out,List.drop_of_length_le nl];rfl),hB⟩
def k8 (f:List Bk) (block:Int) (r:Rc) (torn:Bool):List Bk × Bool :=
 if ze f = false∨j9 block = false∨xj r = false then ([],false) else x8 f block.toNat r torn
theorem X9 {b:Bk} (h:b.pages.length = 4):clean b ≤ 4:=by rw [← h];exact ziu b
end
section
theorem Ji {q:Int} {ps:List Pg}:q ∈ xg ps ↔ ∃ p ∈ ps,p.state = 1∧p.rc.seq = q:=by
 unfold xg;rw [List.mem_map];constructor
 . rintro ⟨p,hp,rfl⟩;rw [List.mem_filter] at hp;exact ⟨p,hp.1,by simpa using hp.2,rfl⟩
 rintro ⟨p,hp,h1,rfl⟩;exact ⟨p,List.mem_filter.2 ⟨hp,by simpa using h1⟩,rfl⟩
theorem Jj {q:Int} {f:List Bk}:q ∈ ki f ↔ ∃ b ∈ f,q ∈ xg b.pages:=by unfold ki;rw [List.mem_flatMap]
theorem ze4 {f:List Bk} {s:Int}:qo f s = true ↔ s ∈ ki f:=by
 rw [Jj];unfold qo;rw [List.any_eq_true];constructor
 . rintro ⟨b,hb,h⟩;rw [List.any_eq_true] at h;obtain ⟨p,hp,h⟩:=h;unfold jl at h;rw [Bool.and_eq_true,decide_eq_true_iff,decide_eq_true_iff] at h;exact ⟨b,hb,Ji.2 ⟨p,hp,h.1,h.2⟩⟩
 rintro ⟨b,hb,h⟩;obtain ⟨p,hp,h1,h2⟩:=Ji.1 h;refine ⟨b,hb,List.any_eq_true.2 ⟨p,hp, ?_⟩⟩;unfold jl;rw [Bool.and_eq_true,decide_eq_true_iff,decide_eq_true_iff];exact ⟨h1,h2⟩
theorem yv:∀ {f:List Bk},(ki f).Nodup->∀ {i j:Nat} {a b:Bk} {q:Int},i ≠ j->f[i]? = some a->f[j]? = some b->q ∈ xg a.pages->q ∉ xg b.pages
 | [],_,i,j,a,b,q,_,h1,_,_=>by simp at h1
 | c :: f, hn, i, j, a, b, q, hij, h1, h2, hq => by
   rw [show ki (c :: f) = xg c.pages ++ ki f from by simp [ki],List.nodup_append] at hn;obtain ⟨n1,n2,n3⟩:=hn;intro hq2;cases i with
   | zero =>
     rw [List.getElem?_cons_zero,Option.some.injEq] at h1;subst h1;cases j with
     | zero=>exact hij rfl
     | succ j =>
       rw [List.getElem?_cons_succ] at h2;exact n3 q hq q (Jj.2 ⟨b,List.mem_of_getElem? h2,hq2⟩) rfl
   | succ i =>
     rw [List.getElem?_cons_succ] at h1;cases j with
     | zero =>
       rw [List.getElem?_cons_zero,Option.some.injEq] at h2;subst h2;exact n3 q hq2 q (Jj.2 ⟨a,List.mem_of_getElem? h1,hq⟩) rfl
     | succ j =>
       rw [List.getElem?_cons_succ] at h2;exact yv n2 (fun e=>hij (by rw [e])) h1 h2 hq hq2
theorem Z9:∀ (ps:List Pg) (n:Int),(∀ p ∈ ps,zn p = true)->0 ≤ n->n ≤ jr n ps∧(∀ q ∈ xg ps,q ≤ jr n ps)∧(jr n ps = n∨jr n ps ∈ xg ps)
 | [],n,_,_=>⟨by unfold jr;simp,fun q h=>by simp [xg] at h, .inl rfl⟩
 | p :: ps, n, hp, h => by
   have ho:=hp p (List.mem_cons_self ..);obtain ⟨i1,i2,i3⟩:=Z9 ps (max n p.rc.seq) (fun q hq=>hp q (List.mem_cons_of_mem _ hq)) (by omega);have he:jr n (p :: ps) = jr (max n p.rc.seq) ps:=rfl;rw [he,kx];by_cases h1:p.state = 1
   . rw [if_pos h1];refine ⟨by omega,fun q hq=>?_, ?_⟩
     . rcases List.mem_cons.1 hq with rfl | hq
       . omega
       exact i2 q hq
     rcases i3 with i3 | i3
     . rw [i3];by_cases hm:n ≤ p.rc.seq
       . right;rw [show max n p.rc.seq = p.rc.seq by omega];exact List.mem_cons_self ..
       left;omega
     exact .inr (List.mem_cons_of_mem _ i3)
   rw [if_neg h1];have:=Js ho h1;rw [show max n p.rc.seq = n by omega] at *;exact ⟨i1,i2,i3⟩
theorem Q8 {ps:List Pg} (hp:∀ p ∈ ps,zn p = true) {q:Int} (hq:q ∈ xg ps):1 ≤ q∧q ≤ 600:=by
 obtain ⟨p,h,h1,rfl⟩:=Ji.1 hq;have:=xx (xk (hp p h) h1);omega
theorem qd:∀ (ps:List Pg) (n:Int),(∀ p ∈ ps,zn p = true)->0 ≤ n ->
 (ps.foldl zv n = n∧(n = 0->xg ps = [])∨ps.foldl zv n ∈ xg ps)∧(∀ q ∈ xg ps,ps.foldl zv n ≤ q)∧(0 < n->0 < ps.foldl zv n∧ps.foldl zv n ≤ n)∧0 ≤ ps.foldl zv n
 | [],n,_,h=>⟨.inl ⟨rfl,fun _=>rfl⟩,fun q hq=>by simp [xg] at hq,fun h=>⟨h,Int.le_refl _⟩,h⟩
 | p :: ps, n, hp, h => by
   have ho:=hp p (List.mem_cons_self ..);have hps:=fun q hq=>hp q (List.mem_cons_of_mem _ hq);rw [List.foldl_cons,kx];by_cases h1:p.state = 1
   . have hr:=xx (xk ho h1);rw [if_pos h1];unfold zv;by_cases hc:0 < p.rc.seq∧(n = 0∨p.rc.seq < n)
     . rw [if_pos hc];obtain ⟨i1,i2,i3,i4⟩:=qd ps p.rc.seq hps (by omega);have i5:=i3 (by omega);unfold zv at *;refine ⟨.inr ?_,fun q hq=>?_,fun h0=>⟨i5.1,by omega⟩,i4⟩
       . rcases i1 with ⟨i1,_⟩ | i1
         . rw [i1];exact List.mem_cons_self ..
         exact List.mem_cons_of_mem _ i1
       rcases List.mem_cons.1 hq with rfl | hq
       . exact i5.2
       exact i2 q hq
     rw [if_neg hc];obtain ⟨i1,i2,i3,i4⟩:=qd ps n hps h;have h0:0 < n:=by
      by_cases h0:0 < n
      . exact h0
      exact absurd ⟨by omega, .inl (by omega)⟩ hc
     have i5:=i3 h0;unfold zv at *;refine ⟨?_,fun q hq=>?_,i3,i4⟩
     . rcases i1 with ⟨i1,_⟩ | i1
       . exact .inl ⟨i1,fun e=>by omega⟩
       exact .inr (List.mem_cons_of_mem _ i1)
     rcases List.mem_cons.1 hq with rfl | hq
     . have:¬ p.rc.seq < n:=fun e=>hc ⟨by omega, .inr e⟩;omega
     exact i2 q hq
   rw [if_neg h1];have h0:=Js ho h1;have:zv n p = n:=by unfold zv;rw [if_neg (by rintro ⟨h,_⟩;omega)]
   rw [this];exact qd ps n hps h
theorem q9 {b:Bk} (hp:∀ p ∈ b.pages,zn p = true) {q:Int} (hq:q ∈ xg b.pages):q ≤ most b:=(Z9 b.pages 0 hp (Int.le_refl _)).2.1 q hq
theorem y8 {b:Bk} (hp:∀ p ∈ b.pages,zn p = true) (h:0 < most b):most b ∈ xg b.pages:=by
 rcases (Z9 b.pages 0 hp (Int.le_refl _)).2.2 with h1 | h1
 . have:most b = 0:=h1;omega
 exact h1
theorem zha {b:Bk} (hp:∀ p ∈ b.pages,zn p = true):0 ≤ most b:=(Z9 b.pages 0 hp (Int.le_refl _)).1
theorem Kc {b:Bk} (hp:∀ p ∈ b.pages,zn p = true) {q:Int} (hq:q ∈ xg b.pages):ku b ≤ q:=(qd b.pages 0 hp (Int.le_refl _)).2.1 q hq
theorem Za {b:Bk} (hp:∀ p ∈ b.pages,zn p = true) (h:0 < most b):ku b ∈ xg b.pages:=by
 have hm:=y8 hp h;rcases (qd b.pages 0 hp (Int.le_refl _)).1 with ⟨_,h2⟩ | h2
 . rw [h2 rfl] at hm;cases hm
 exact h2
theorem Z2 {b:Bk} (hp:∀ p ∈ b.pages,zn p = true) (h:0 < most b):0 < ku b∧ku b ≤ most b :=
 ⟨by have:=Q8 hp (Za hp h);omega,q9 hp (Za hp h)⟩
theorem zfe {b:Bk} (hp:∀ p ∈ b.pages,zn p = true) (h:xg b.pages = []):most b = 0:=by
 have h0:=zha hp;by_cases hm:0 < most b
 . have:=y8 hp hm;rw [h] at this;cases this
 omega
theorem four {α:Type} {l:List α} (h:l.length = 4):∃ a b c d,l = [a,b,c,d]:=by
 match l,h with
 | [a,b,c,d],_=>exact ⟨a,b,c,d,rfl⟩
theorem ze1 {ps:List Pg} (h4:ps.length = 4) (hs:j0 false ps = true) {q:Pg} (hq:q.state ≠ 0) (hc:ps.countP xw ≠ 0) :
 j0 false (ps.set (4 - ps.countP xw) q) = true∧(∃ p,ps[4 - ps.countP xw]? = some p∧p.state = 0)∧(ps.set (4 - ps.countP xw) q).countP xw + 1 = ps.countP xw:=by
 obtain ⟨a,b,c,d,rfl⟩:=four h4;by_cases ha:a.state = 0 <;> by_cases hb:b.state = 0 <;> by_cases hc':c.state = 0 <;> by_cases hd:d.state = 0 <;>
  simp [j0,xw,List.countP_cons,ha,hb,hc',hd,hq] at hs hc ⊢
theorem ze2:∀ (ps:List Pg) (k:Nat) (p q:Pg),ps[k]? = some p->p.state ≠ 1->q.state = 1->(xg (ps.set k q)).Perm (q.rc.seq :: xg ps)
 | [],k,p,q,h,_,_=>by simp at h
 | a :: ps, 0, p, q, h, h1, hq => by
   rw [List.getElem?_cons_zero,Option.some.injEq] at h;subst h;rw [List.set_cons_zero,kx,kx,if_pos hq,if_neg h1]
 | a :: ps, k + 1, p, q, h, h1, hq => by
   rw [List.getElem?_cons_succ] at h;have ih:=ze2 ps k p q h h1 hq;rw [List.set_cons_succ,kx,kx];split
   . exact (ih.cons _).trans (List.Perm.swap _ _ _)
   exact ih
theorem zb6:∀ (ps:List Pg) (k:Nat) (p q:Pg),ps[k]? = some p->p.state ≠ 1->q.state ≠ 1->xg (ps.set k q) = xg ps
 | [],k,p,q,h,_,_=>by simp at h
 | a :: ps, 0, p, q, h, h1, hq => by
   rw [List.getElem?_cons_zero,Option.some.injEq] at h;subst h;rw [List.set_cons_zero,kx,kx,if_neg hq,if_neg h1]
 | a :: ps, k + 1, p, q, h, h1, hq => by
   rw [List.getElem?_cons_succ] at h;have ih:=zb6 ps k p q h h1 hq;rw [List.set_cons_succ,kx,kx,ih]
theorem Q7:∀ (f:List Bk) (i:Nat) (b c:Bk) (xs:List Int),f[i]? = some b->(xg c.pages).Perm (xs ++ xg b.pages)->(ki (f.set i c)).Perm (xs ++ ki f)
 | [],i,b,c,xs,h,_=>by simp at h
 | a :: f, 0, b, c, xs, h, hc => by
   rw [List.getElem?_cons_zero,Option.some.injEq] at h;subst h;rw [List.set_cons_zero,show ki (c :: f) = xg c.pages ++ ki f from by simp [ki],show ki (a :: f) = xg a.pages ++ ki f from by simp [ki],← List.append_assoc];exact hc.append_right _
 | a :: f, i + 1, b, c, xs, h, hc => by
   rw [List.getElem?_cons_succ] at h;have ih:=Q7 f i b c xs h hc;rw [List.set_cons_succ,show ki (a :: f.set i c) = xg a.pages ++ ki (f.set i c) from by simp [ki],show ki (a :: f) = xg a.pages ++ ki f from by simp [ki]];refine (ih.append_left _).trans ?_;rw [← List.append_assoc,← List.append_assoc];exact List.perm_append_comm.append_right _
def znr (r:Rc) (torn:Bool):Pg:=if torn then ⟨2,rc0⟩ else ⟨1,r⟩
def j5 (b:Bk) (r:Rc) (torn:Bool):Bk:={ b with pages:=b.pages.set (4 - clean b) (znr r torn) }
theorem zh9 {r:Rc} (h:xj r = true) (torn:Bool):zn (znr r torn) = true∧(znr r torn).state ≠ 0:=by
 cases torn
 . exact ⟨zot h,by show (1:Int) ≠ 0;decide⟩
 exact ⟨zgm,by show (2:Int) ≠ 0;decide⟩
theorem xi {f:List Bk} (h:ze f = true) {b:Bk} (hb:b ∈ f):b.pages.length = 4∧(0 ≤ b.worn∧b.worn ≤ 200)∧j0 false b.pages = true∧∀ p ∈ b.pages,zn p = true:=by
 obtain ⟨h1,h2⟩:=((jt f).1 h).2.1 b hb;unfold zw at h1;rw [Bool.and_eq_true,Bool.and_eq_true,Bool.and_eq_true,decide_eq_true_iff,decide_eq_true_iff,decide_eq_true_iff] at h1;exact ⟨h1.1,⟨h1.2.1,h1.2.2.1⟩,h1.2.2.2,h2⟩
theorem Ks {f:List Bk} (h:ze f = true) {b:Bk} (hb:b ∈ f) {r:Rc} (hr:xj r = true) (torn:Bool) (hc:clean b ≠ 0) :
 zw (j5 b r torn) = true∧(∀ p ∈ (j5 b r torn).pages,zn p = true)∧clean (j5 b r torn) + 1 = clean b ∧
 (torn = true->xg (j5 b r torn).pages = xg b.pages)∧(torn = false->(xg (j5 b r torn).pages).Perm ([r.seq] ++ xg b.pages)):=by
 obtain ⟨h1,h2,h3,h4⟩:=xi h hb;obtain ⟨p1,p2⟩:=zh9 hr torn;obtain ⟨s1,⟨p,hp,hp0⟩,s3⟩:=ze1 h1 h3 p2 hc;refine ⟨?_,fun q hq=>?_,s3, ?_, ?_⟩
 . unfold zw j5;rw [Bool.and_eq_true,Bool.and_eq_true,Bool.and_eq_true,decide_eq_true_iff,decide_eq_true_iff,decide_eq_true_iff];exact ⟨by rw [List.length_set];exact h1,h2.1,h2.2,s1⟩
 . rcases List.mem_or_eq_of_mem_set hq with hq | rfl
   . exact h4 q hq
   exact p1
 . rintro rfl;exact zb6 _ _ p _ hp (by omega) (by show (2:Int) ≠ 1;decide)
 rintro rfl;exact ze2 _ _ p _ hp (by omega) rfl
theorem zdj {f:List Bk} (h:ze f = true) {i:Nat} {b:Bk} (hb:f[i]? = some b) {r:Rc} (hr:xj r = true) (torn:Bool) (hc:clean b ≠ 0) (hs:qo f r.seq ≠ true):ze (f.set i (j5 b r torn)) = true:=by
 obtain ⟨k1,k2,_,k4,k5⟩:=Ks h (List.mem_of_getElem? hb) hr torn hc;replace hs:r.seq ∉ ki f:=fun e=>hs (ze4.2 e);rw [jt] at h ⊢;obtain ⟨a,b',c⟩:=h;refine ⟨by simpa using a,fun x hx=>?_, ?_⟩
 . rcases List.mem_or_eq_of_mem_set hx with hx | rfl
   . exact b' x hx
   exact ⟨k1,k2⟩
 cases torn
 . exact (Q7 f i b _ [r.seq] hb (k5 rfl)).nodup_iff.2 (List.nodup_cons.2 ⟨hs,c⟩)
 exact (Q7 f i b _ [] hb (by rw [k4 rfl];exact List.Perm.refl _)).nodup_iff.2 c
end
section
open Go.RowKit Go.Maps Go.Shelf
attribute [local go_sem] Oper.semAt_some
def rcV (r:Rc):Value:=.agg #[.int .i64 r.kind, .int .i64 r.seq, .int .i64 r.addr, .int .i64 r.val]
def recD (r:Rc):DataW Unit:=.agg [.lit (.int .i64 r.kind), .lit (.int .i64 r.seq), .lit (.int .i64 r.addr), .lit (.int .i64 r.val)]
def recL:List Value->Option Rc
 | [.int .i64 a, .int .i64 b, .int .i64 c, .int .i64 d]=>some ⟨a,b,c,d⟩
 | _=>none
def zdi (v:Value):Option (DataW Unit × List MemPlace):=match v with
 | .agg cs=>(recL cs.toList).map fun r=>(recD r,[])
 | _=>none
theorem J0 (r:Rc):zdi (rcV r) = some (recD r,[]):=rfl
theorem znp {l:List Value} {r:Rc} (h:recL l = some r):l = [.int .i64 r.kind, .int .i64 r.seq, .int .i64 r.addr, .int .i64 r.val]:=by
 unfold recL at h;split at h
 . cases h;rfl
 cases h
theorem znq {r s:Rc} (h:recD r = recD s):r = s:=by
 unfold recD at h;cases r;cases s;simp only [DataW.agg.injEq,List.cons.injEq,DataW.lit.injEq,Lit.int.injEq,true_and,and_true] at h;obtain ⟨rfl,rfl,rfl,rfl⟩:=h;rfl
theorem zaa {v:Value} {r:Rc} {ps:List MemPlace} (h:zdi v = some (recD r,ps)):v = rcV r:=by
 unfold zdi at h;cases v with
 | agg cs =>
   dsimp only at h;cases hl:recL cs.toList with
   | none=>rw [hl] at h;cases h
   | some s =>
     rw [hl] at h;simp only [Option.map_some,Option.some.injEq,Prod.mk.injEq] at h;have hr:=znq h.1;subst hr;have:=znp hl;unfold rcV;rw [← this]
 | _=>cases h
def RMap (P:Program) (K:TypeId) (w:World) (b n:Nat) (F:Int->Option Rc):Prop :=
 ∃ D:DataW Unit,w.ownsMap P K zdi b n D∧IsMap D∧∀ k,(Lit.int .i64 k).wf = true->D.atKey (.int .i64 k) (recD rc0) = recD ((F k).getD rc0)∧has D (.int .i64 k) = (F k).isSome
section
variable {P:Program} {t K E:TypeId} {w w':World} {b n:Nat} {F:Int->Option Rc}
theorem RMap.made (P:Program) (K:TypeId) (w:World):RMap P K (w.alloc (.map #[] 0)) w.heap.size 0 (fun _=>none):=⟨_,World.ownsMap_made _ _ _ _,isMap_empty,fun k _=>⟨rfl,rfl⟩⟩
theorem RMap.mono (h:RMap P K w b n F) {m:Nat} (hm:n ≤ m):RMap P K w b m F:=by
 obtain ⟨D,h1,h2⟩:=h;exact ⟨D,h1.mono hm,h2⟩
theorem RMap.lt (h:RMap P K w b n F):b < w.heap.size:=by obtain ⟨D,h1,_⟩:=h;exact h1.lt
theorem RMap.at_ (h:RMap P K w b n F):∃ es clock,w.heap[b]? = some (.map es clock):=by obtain ⟨D,⟨es,clock,e,_⟩,_⟩:=h;exact ⟨es,clock,e⟩
theorem RMap.below {B:Nat} (h:RMap P K w b n F) (hb:Below B w w') (hB:b < B):RMap P K w' b n F:=by
 obtain ⟨D,⟨es,clock,e,r⟩,h2⟩:=h;exact ⟨D,⟨es,clock,(hb.block b hB).trans e,r⟩,h2⟩
theorem RMap.kept {row:Option Nat} (h:RMap P K w b n F) (hg:w.grownBy w' row) (hne:some b ≠ row):RMap P K w' b n F:=by
 obtain ⟨D,h1,h2⟩:=h;exact ⟨D,h1.kept hg hne,h2⟩
theorem RMap.alloc (h:RMap P K w b n F) (o:Obj):RMap P K (w.alloc o) b n F:=by
 obtain ⟨D,h1,h2⟩:=h;exact ⟨D,h1.alloc o,h2⟩
theorem RMap.look (h:RMap P K w b n F) (ht:P.underlying t = some (.map K E)) (hK:P.underlying K = some (.int .i64)) (hz:∀ w:World,(zeroValue E).run P w = .ok (rcV rc0) w) {k:Int} (hk:(Lit.int .i64 k).wf = true) :
 (Instr.lookup t (.map (some b)) (.int .i64 k) false).run P w = .ok (rcV ((F k).getD rc0)) w:=by
 obtain ⟨D,h1,_,h3⟩:=h;obtain ⟨v,ps,hrun,hv⟩:=h1.lookup (int_keyed hK) ht (hz w) (J0 rc0) (keyOf_int_mk hK hk);rw [(h3 k hk).1] at hv;rw [hrun,zaa hv]
theorem RMap.look_ok (h:RMap P K w b n F) (ht:P.underlying t = some (.map K E)) (hK:P.underlying K = some (.int .i64)) (hz:∀ w:World,(zeroValue E).run P w = .ok (rcV rc0) w) {k:Int} (hk:(Lit.int .i64 k).wf = true) :
 (Instr.lookup t (.map (some b)) (.int .i64 k) true).run P w = .ok (.tuple #[rcV ((F k).getD rc0), .bool (F k).isSome]) w:=by
 obtain ⟨D,h1,_,h3⟩:=h;obtain ⟨v,ps,hrun,hv⟩:=h1.look_ok (int_keyed hK) ht (hz w) (J0 rc0) (keyOf_int_mk hK hk);rw [(h3 k hk).1] at hv;rw [(h3 k hk).2] at hrun;rw [hrun,zaa hv]
theorem RMap.put (h:RMap P K w b n F) (ht:P.underlying t = some (.map K E)) (hK:P.underlying K = some (.int .i64)) (hn:n < maxLen) {k:Int} (r:Rc) (hk:(Lit.int .i64 k).wf = true) :
 ∃ w',(Instr.mapUpdate t (.map (some b)) (.int .i64 k) (rcV r)).run P w = .ok () w'∧RMap P K w' b (n + 1) (fun x=>if x = k then some r else F x)∧w.grownBy w' (some b):=by
 obtain ⟨D,h1,h2,h3⟩:=h;obtain ⟨w',hrun,g1,g2⟩:=h1.update (int_keyed hK) ht hn (keyOf_int_mk hK hk) (J0 r);refine ⟨w',hrun,⟨_,g1,h2.put _ _,fun x hx=>?_⟩,g2⟩;dsimp only;by_cases e:x = k
 . subst e;rw [if_pos rfl,atKey_put_same h2 (Xz _ hk),has_put_same h2 (Xz _ hk)];exact ⟨rfl,rfl⟩
 have hne:Lit.int .i64 x ≠ Lit.int .i64 k:=by intro e';injection e' with _ e'';exact e e''
 rw [if_neg e,atKey_put_other hne,has_put_other hne];exact h3 x hx
end
def qk (F:Int->Option Rc) (x:PgAt):Int->Option Rc :=
 if x.2.2.state = 1∧((F x.2.2.rc.addr).getD rc0).seq < x.2.2.rc.seq then fun a=>if a = x.2.2.rc.addr then some x.2.2.rc else F a else F
def Xy (pre:List PgAt):Int->Option Rc:=pre.foldl qk (fun _=>none)
theorem zfh (pre:List PgAt) (x:PgAt):Xy (pre ++ [x]) = qk (Xy pre) x:=by unfold Xy;rw [List.foldl_append];rfl
def Zo (r:Rc):Option Rc:=if 0 < r.seq then some r else none
theorem zaz {r:Rc} (h:r = rc0∨0 < r.seq):(Zo r).getD rc0 = r:=by
 unfold Zo;split
 . rfl
 rcases h with rfl | h
 . rfl
 contradiction
theorem zpn {F:Int->Option Rc} {o:Int->Rc} {x:PgAt} (hx:zn x.2.2 = true) (h:∀ a,F a = Zo (o a)) (h0:∀ a,o a = rc0∨0 < (o a).seq) (a:Int) :
 qk F x a = Zo (zz a (o a) x.2.2)∧(zz a (o a) x.2.2 = rc0∨0 < (zz a (o a) x.2.2).seq):=by
 have hL0:∀ r:Rc,¬ (x.2.2.state = 1∧x.2.2.rc.addr = a∧r.seq < x.2.2.rc.seq)->zz a r x.2.2 = r:=fun r hr=>by unfold zz;rw [if_neg hr]
 by_cases hc:x.2.2.state = 1∧(o x.2.2.rc.addr).seq < x.2.2.rc.seq
 . have hs:=(xx (xk hx hc.1)).2.2.2.2.1;have hM:qk F x = fun a=>if a = x.2.2.rc.addr then some x.2.2.rc else F a:=by unfold qk;rw [h,zaz (h0 _),if_pos hc]
   rw [hM];by_cases ha:a = x.2.2.rc.addr
   . have hL:zz a (o a) x.2.2 = x.2.2.rc:=by rw [ha];unfold zz;rw [if_pos ⟨hc.1,rfl,hc.2⟩]
     rw [hL];exact ⟨by dsimp only;rw [if_pos ha];unfold Zo;rw [if_pos (by omega)], .inr (by omega)⟩
   rw [hL0 _ (fun e=>ha e.2.1.symm)];exact ⟨by dsimp only;rw [if_neg ha];exact h a,h0 a⟩
 have hM:qk F x = F:=by unfold qk;rw [h,zaz (h0 _),if_neg hc]
 rw [hM,hL0 _ (fun e=>hc ⟨e.1,by rw [e.2.1];exact e.2.2⟩)];exact ⟨h a,h0 a⟩
theorem zoy:∀ (ps:List Pg) (i j:Nat) (F:Int->Option Rc) (o:Int->Rc),(∀ p ∈ ps,zn p = true)->(∀ a,F a = Zo (o a))->(∀ a,o a = rc0∨0 < (o a).seq) ->
 ∀ a,(kv i j ps).foldl qk F a = Zo (xr a (o a) ps)∧(xr a (o a) ps = rc0∨0 < (xr a (o a) ps).seq)
 | [],_,_,F,o,_,h,h0,a=>⟨h a,h0 a⟩
 | p :: ps, i, j, F, o, hp, h, h0, a => by
   have hst:=fun a=>zpn (x:=(i,j,p)) (hp p (List.mem_cons_self ..)) h h0 a;rw [kv,List.foldl_cons];exact zoy ps i (j + 1) (qk F (i,j,p)) (fun a=>zz a (o a) p) (fun q hq=>hp q (List.mem_cons_of_mem _ hq)) (fun a=>(hst a).1) (fun a=>(hst a).2) a
theorem zoz:∀ (f:List Bk) (i:Nat) (F:Int->Option Rc) (o:Int->Rc),(∀ b ∈ f,∀ p ∈ b.pages,zn p = true)->(∀ a,F a = Zo (o a))->(∀ a,o a = rc0∨0 < (o a).seq) ->
 ∀ a,(zl i f).foldl qk F a = Zo (f.foldl (fun o b=>xr a o b.pages) (o a))
 | [],_,F,o,_,h,_,a=>h a
 | b :: f, i, F, o, hp, h, h0, a => by
   have hst:=fun a=>zoy b.pages i 0 F o (hp b (List.mem_cons_self ..)) h h0 a;rw [zl,List.foldl_append];exact zoz f (i + 1) _ (fun a=>xr a (o a) b.pages) (fun c hc=>hp c (List.mem_cons_of_mem _ hc)) (fun a=>(hst a).1) (fun a=>(hst a).2) a
theorem zcf {f:List Bk} (h:ze f = true) (a:Int):Xy (zl 0 f) a = Zo (last f a) :=
 zoz f 0 (fun _=>none) (fun _=>rc0) (fun b hb=>(xi h hb).2.2.2) (fun _=>rfl) (fun _=>.inl rfl) a
theorem zk0 (i:Nat):∀ (ps:List Pg) (j:Nat),(kv i j ps).length = ps.length
 | [],_=>rfl
 | _ :: ps,j=>by rw [kv,List.length_cons,zk0 i ps,List.length_cons]
theorem zm1:∀ (f:List Bk) (i:Nat),(∀ b ∈ f,b.pages.length = 4)->(zl i f).length = 4 * f.length
 | [],_,_=>rfl
 | b :: f, i, h => by
   rw [zl,List.length_append,zk0,zm1 f (i + 1) (fun c hc=>h c (List.mem_cons_of_mem _ hc)),h b (List.mem_cons_self ..),List.length_cons];omega
theorem zcz (w:World):(zeroValue 64).run Tryz.prog w = .ok (rcV rc0) w:=by kernel_rfl
theorem zmj (a b c d:Int) (w:World):(Instr.field 64 (.agg #[.int .i64 a, .int .i64 b, .int .i64 c, .int .i64 d]) 1).run Tryz.prog w = .ok (.int .i64 b) w:=by kernel_rfl
theorem zkk {k:Int} (h:-1000 ≤ k∧k ≤ 1000):(Lit.int .i64 k).wf = true:=by
 have h1:IntKind.i64.min ≤ k:=Int.le_trans (by decide) h.1;have h2:k ≤ IntKind.i64.max:=Int.le_trans h.2 (by decide);simp only [Lit.wf,Bool.and_eq_true,decide_eq_true_iff];exact ⟨h1,h2⟩
abbrev PgOf (f:List Bk):={ x:PgAt // x ∈ zl 0 f }
theorem za6 (F:Fence) (n:Nat) (hF:F.fn 73) (hro:F.round = none) (hn:1 ≤ n) (Bs n₀ g o c:Nat) (f:List Bk) (hs:List (Option Addr × Nat)) (w:World) (hB:Bs < w.heap.size) (hn₀:n₀ ≤ w.heap.size)
 (hBs:w.cell? ⟨Bs,0,none⟩ = some (.slice (some ⟨g,o,none⟩) f.length c)) (hl:f.length < 1000000000000) (hp:∀ b ∈ f,b.pages.length < 1000000000000)
 (hBk:Bks w (some ⟨g,o,none⟩) f hs) (hlow:∀ b,fblk (some ⟨g,o,none⟩) hs b->b < n₀) :
 SeqStopsK F n Tryz.prog 73 #[.pointer (some ⟨Bs,0,none⟩)] (fun x:PgOf f=>encP x.1) (Below n₀) (fun ys=>ys.map Subtype.val = zl 0 f) (fun pre=>pre.map Subtype.val <+: zl 0 f) (zl 0 f).length w:=fun l J Jx W hW hJ _ hY h0=>by
 refine (X6 F n hF hro hn l Bs n₀ g o c f hs (fun pre V=>∃ pre':List (PgOf f),pre'.map Subtype.val = pre∧J pre' V) (fun pre V=>∃ pre':List (PgOf f),pre'.map Subtype.val = pre∧Jx pre' V) W (Nat.le_trans hn₀ hW.size)
  (fun s X Y row hs hg hr=>by obtain ⟨p,e,h⟩:=hs;exact ⟨p,e,hJ p X Y row h hg hr⟩) (fun pre x W1 h1 h2 h3=>?_) ((hW.cell (p:=⟨Bs,0,none⟩) hB).trans hBs) hl hp (hBk.keep fun q hq hl=>hW.block q (by omega)) hlow ⟨[],rfl,h0⟩).mono ?_
 . obtain ⟨pre',rfl,hj⟩:=h1;refine (hY pre' ⟨x,h3.2⟩ W1 hj (by simpa using h2)).mono ?_;rintro e V (⟨rfl,hj2,hk⟩ | ⟨rfl,hj2⟩)
   . exact .inl ⟨rfl,⟨_,by simp,hj2⟩,hk⟩
   exact .inr ⟨rfl,_,by simp,hj2⟩
 rintro e V ⟨he,⟨ys,rfl,pre',h1,h2⟩ | ⟨pre,h0,pre',rfl,h2⟩⟩
 . exact ⟨he, .inl ⟨pre',h1,h2⟩⟩
 exact ⟨he, .inr ⟨pre',h0,h2⟩⟩
theorem zph {f:List Bk} (h:ze f = true) (x:PgOf f):zn x.1.2.2 = true:=by
 obtain ⟨b,hb,hx⟩:=zhc x.2;exact (xi h hb).2.2.2 _ hx
def lmOf {f:List Bk} (pre:List (PgOf f)):Int->Option Rc:=Xy (pre.map Subtype.val)
theorem zlt {f:List Bk} (pre:List (PgOf f)) (x:PgOf f):lmOf (pre ++ [x]) = qk (lmOf pre) x.1:=by unfold lmOf;rw [List.map_append];exact zfh _ _
theorem zk7 {P:Program} {K:TypeId} {f:List Bk} (b n₀:Nat) (hb:b < n₀):OwnFrom n₀ (fun (pre:List (PgOf f)) W=>RMap P K W b pre.length (lmOf pre)):=fun _ _ _ _ hs hg hr =>
 hs.kept hg (fun e=>by have:=(hr _ e.symm).1;omega)
theorem Xl (f:List Bk) (A:Option Addr) (n c:Nat) (w:World) (hn:n = f.length) (hok:ze f = true) (hF:Fl w A f) :
 Calls Tryz.prog 32 #[.slice A n c] w fun e w'=>e = .returned (.map (some w.heap.size))∧RMap Tryz.prog 3 w' w.heap.size 16 (Xy (zl 0 f))∧Below w.heap.size w w':=by
 subst hn;refine (callsIn_wide (n:=6)).1 ?_;refine callsIn_of_wp_marks Tryz.func32 rfl trivial ?_ rfl;simp only [Tryz.ntmps32,List.size_toArray,List.length_cons,List.length_nil,Nat.reduceAdd,Nat.reduceSub,Array.replicate_succ,Array.replicate_zero,List.push_toArray,List.append_toArray,List.nil_append,List.cons_append];have hmm:=@run_makeMap Tryz.prog;have hfd:=zmj;have hfl:=zh hok;have HFL:=Lib.hid hfl;have HOK:=Lib.hid hok;have HP:=Lib.hid (show ∀ b ∈ f,b.pages.length < 1000000000000 from fun b hb=>by rw [(zo hok b hb).1];omega);have HPL:=Lib.hid (fun b hb=>(zo hok b hb).1);have HAL:=Lib.hid (zm1 f 0 HPL.out);obtain ⟨hs,hBk⟩:=hF;obtain ⟨g,o,rfl⟩:=hBk.addr (by intro e;have:=HFL.out;rw [e] at this;simp at this);clear hfl hok
 gi_wp2_with (refine ⟨trivial, ?_⟩;gi_at_call 39;refine (Xh Fence.wide _ trivial rfl _ _ _ _).mono ?_;rintro e w2 ⟨rfl,rfl⟩)
 have hlow:∀ b,fblk (some ⟨g,o,none⟩) hs b->b < w.heap.size:=fun b hb=>by
  have h4:=HFL.out;rcases hb with hb | ⟨i,x,hx,hb⟩
  . rw [zf] at hb;subst hb;obtain ⟨B,hB⟩:=zc (l:=f) (k:=0) (by omega);obtain ⟨_,_,c0,_⟩:=hBk.at_ hB;exact zd c0
  obtain ⟨B,hB⟩:=zc (l:=f) (k:=i) (by rw [← hBk.len];exact (List.getElem?_eq_some_iff.1 hx).1);have hr:=(hBk.pg i B x hB hx).1;have hn:B.pages ≠ []:=by intro hn;have:=HPL.out B (List.mem_of_getElem? hB);rw [hn] at this;simp at this
  obtain ⟨b',o',he,hc⟩:=hr (ky hn);rw [he,zf] at hb;subst hb;obtain ⟨q,hq⟩:=zc (l:=pgs B.pages) (k:=0) (by rw [qh];have:=List.length_pos_iff.2 hn;omega);exact zd (hc 0 q hq).1
 have hm0:=((RMap.made Tryz.prog 3 w).alloc (.cells #[.map (some w.heap.size)] 59)).alloc (.cells #[.slice (some ⟨g,o,none⟩) f.length c] 25);have bS:=(Boxed.new (w.alloc (.map #[] 0)) 59 (.map (some w.heap.size))).alloc (.cells #[.slice (some ⟨g,o,none⟩) f.length c] 25);have bA:=Boxed.new ((w.alloc (.map #[] 0)).alloc (.cells #[.map (some w.heap.size)] 59)) 25 (.slice (some ⟨g,o,none⟩) f.length c);simp only [World.size_alloc] at bS bA;have hB0:Below w.heap.size w (((w.alloc (.map #[] 0)).alloc (.cells #[.map (some w.heap.size)] 59)).alloc (.cells #[.slice (some ⟨g,o,none⟩) f.length c] 25)):=(((Below.refl _ w).alloc nl _).alloc (by simp) _).alloc (by simp;omega) _;have hsz:(((w.alloc (.map #[] 0)).alloc (.cells #[.map (some w.heap.size)] 59)).alloc (.cells #[.slice (some ⟨g,o,none⟩) f.length c] 25)).heap.size = w.heap.size + 3:=by simp
 have hBk2:=((hBk.alloc (.map #[] 0)).alloc (.cells #[.map (some w.heap.size)] 59)).alloc (.cells #[.slice (some ⟨g,o,none⟩) f.length c] 25);obtain ⟨W0,hW0⟩:∃ W0,((w.alloc (.map #[] 0)).alloc (.cells #[.map (some w.heap.size)] 59)).alloc (.cells #[.slice (some ⟨g,o,none⟩) f.length c] 25) = W0:=⟨_,rfl⟩;rw [hW0] at bS bA hB0 hsz hBk2 hm0 ⊢;have hl4:f.length < 1000000000000:=by rw [HFL.out];omega
 clear hW0 hBk;refine wpIn_rangeFunc_ownH rfl (by omega) (gf:=73) (lb:=#[.pointer (some ⟨w.heap.size + 1 + 1,0,none⟩)]) rfl trivial (enters_of Tryz.func73 (by kernel_rfl) rfl)
  (za6 Fence.wide _ trivial rfl (by omega) (w.heap.size + 1 + 1) w.heap.size g o c f hs W0 (by omega) (by omega) bA.cell hl4 HP.out hBk2 hlow) belowK_t (belowK_b (by omega)) (Below.refl _ _) (fun _=>rfl)
  (fun pre W=>(Boxed W (w.heap.size + 1) 59 (.map (some w.heap.size))∧RMap Tryz.prog 3 W w.heap.size pre.length (lmOf pre))∧Below w.heap.size w W)
  (fun _ _ _=>False)
  (OwnFrom.and (OwnFrom.and (Own.from (boxed_own _ _ (fun _=>_)) _) (zk7 _ _ (by omega))) (ownFrom_below nl (by omega)))
  (fun _ _ _ _ _ hs _ _=>hs)
  ⟨⟨bS,hm0⟩,hB0⟩
  (fun x a' W=>∃ Bx,w.heap.size + 1 < Bx∧Laid W Bx 76 (pgv x.1.2.2)∧a' = { tmps:=#[.slice (some ⟨g,o,none⟩) f.length c,undef, .map none, .pointer (some ⟨w.heap.size + 1,0,none⟩),undef, .pointer (some ⟨Bx,0,none⟩), .map (some w.heap.size), .slice (some ⟨g,o,none⟩) f.length c, .func (.func 73) #[] #[.pointer (some ⟨w.heap.size + 1 + 1,0,none⟩)], .agg #[.int .i64 (x.1.1:Int), .int .i64 (x.1.2.1:Int)], .agg (pgv x.1.2.2),undef,undef,undef,undef,undef,undef,undef,undef,undef,undef,undef,undef,undef,undef,undef,undef,undef,undef,undef,undef,undef,undef],defers:=[] })
  (fun x a' _ X Y row hs hg hr=>by obtain ⟨Bx,h1,h2,h3⟩:=hs;exact ⟨Bx,h1,Jm Bx _ _ _ () X Y row h2 hg hr,h3⟩)
  ?assign ?body ?done ?stop
 case assign =>
  rintro l pre x W K ⟨⟨bS1,hR1⟩,hB1⟩ hK;dsimp only [encP]
  gi_wp2
  exact hK _ _ ((KeepsOthers.alloc _ _).from _) ((Below.refl _ W).alloc hB1.size _) ⟨⟨bS1.alloc _,hR1.alloc _⟩,hB1.alloc hB1.size _⟩ ⟨W.heap.size,bS1.lt,World.alloc_heap_new W _,rfl⟩
 case body =>
  rintro l pre x a' W hl ⟨r,hr⟩ ⟨⟨bS1,hR1⟩,hB1⟩ ⟨Bx,hBx,bX,rfl⟩ hlt;have hpk:=zph HOK.out x;have cS:=bS1.cell;have x0:W.cell? ⟨Bx,0,none⟩ = some (.int .i64 x.1.2.2.state):=bX.cell 0 rfl;have x1:W.cell? ⟨Bx,1,none⟩ = some (.int .i64 x.1.2.2.rc.kind):=bX.cell 1 rfl;have x2:W.cell? ⟨Bx,2,none⟩ = some (.int .i64 x.1.2.2.rc.seq):=bX.cell 2 rfl;have x3:W.cell? ⟨Bx,3,none⟩ = some (.int .i64 x.1.2.2.rc.addr):=bX.cell 3 rfl;have x4:W.cell? ⟨Bx,4,none⟩ = some (.int .i64 x.1.2.2.rc.val):=bX.cell 4 rfl;have hst:Hid (lmOf (pre ++ [x]) = qk (lmOf pre) x.1):=zlt pre x;have hll:(pre ++ [x]).length = pre.length + 1:=by simp
  by_cases h1:x.1.2.2.state = 1
  . have hra:=xx (xk hpk h1);have hwf:=zkk (k:=x.1.2.2.rc.addr) (by omega);have hlk:=hR1.look (t:=59) Tryz.underlying59 Tryz.underlying3 zcz hwf;have hmax:pre.length < maxLen:=by have:=HAL.out;have:=HFL.out;unfold maxLen;omega
    obtain ⟨w1,hrun,hR2,hg⟩:=hR1.put (t:=59) Tryz.underlying59 Tryz.underlying3 hmax x.1.2.2.rc hwf;have HSM:=Lib.hid (show qk (lmOf pre) x.1 = if (((lmOf pre) x.1.2.2.rc.addr).getD rc0).seq < x.1.2.2.rc.seq then (fun a=>if a = x.1.2.2.rc.addr then some x.1.2.2.rc else lmOf pre a) else lmOf pre from by
     unfold qk;by_cases hc:(((lmOf pre) x.1.2.2.rc.addr).getD rc0).seq < x.1.2.2.rc.seq
     . rw [if_pos ⟨h1,hc⟩,if_pos hc]
     rw [if_neg (fun e=>hc e.2),if_neg hc])
    unfold rcV at hlk hrun;obtain ⟨es,ck,hmap⟩:=hR1.at_;generalize ((lmOf pre) x.1.2.2.rc.addr).getD rc0 = q at *;rw [h1] at x0;clear h1 hra hwf hmax hpk;by_cases hc:q.seq < x.1.2.2.rc.seq
    . have hH:=HSM.out;rw [if_pos hc] at hH;replace HSM:=Lib.hid hH;have H2:=Lib.hid hR2;have HM:=Lib.hid hmap;clear hH hmap hR2
      gi_wp2
      exact ⟨KeepsFrom.of_grownBy hg (fun j e=>by cases e;omega),(Below.refl _ W).grown hg hB1.size (fun k e=>by cases e;exact Nat.le_refl _),
       ⟨bS1.kept hg (fun e=>by injection e with e;omega),by rw [hst.out,HSM.out,hll];exact H2.out⟩,hB1.grown hg hB1.size (fun k e=>by cases e;exact Nat.le_refl _)⟩
    have hH:=HSM.out;rw [if_neg hc] at hH;replace HSM:=Lib.hid hH;clear hH hmap hR2 hg hrun
    gi_wp2
    exact ⟨KeepsFrom.refl _ _,Below.refl _ _,⟨bS1,by rw [hst.out,HSM.out];exact hR1.mono (by omega)⟩,hB1⟩
  have hH:qk (lmOf pre) x.1 = lmOf pre:=by unfold qk;rw [if_neg (fun e=>h1 e.1)]
  have HSM:=Lib.hid hH;have h1':(x.1.2.2.state == 1) = false:=by simpa using h1
  clear hH h1 hpk
  gi_wp2
  exact ⟨KeepsFrom.refl _ _,Below.refl _ _,⟨bS1,by rw [hst.out,HSM.out];exact hR1.mono (by omega)⟩,hB1⟩
 case done =>
  rintro D ys W hD hys ⟨⟨bS1,hR1⟩,hB1⟩ hK;have cS:=bS1.cell
  gi_wp2
  refine ⟨by simp, .inl ⟨_,_,rfl,run_takeDeferred hK, ?_⟩⟩;have hyl:ys.length ≤ 16:=by have h1:=HAL.out;have h2:=HFL.out;rw [← hys,List.length_map] at h1;omega
  have hRf:RMap Tryz.prog 3 W w.heap.size 16 (Xy (zl 0 f)):=by rw [← hys];exact hR1.mono hyl
  exact ⟨_,results_tmp rfl _ _ _,rfl,hRf.kept (grownBy_putObj' _ D _) (fun e=>by cases e;omega),hB1.trans (belowK_b (w:=w) nl W D _ _ (by omega) hK rfl rfl)⟩
 case stop =>
  rintro D c pre W _ _ h _;exact h.elim
end
section
open Go.RowKit
def xd (K:Act->World->Prop):Exit->Act->World->Prop
 | .normal,a,w=>K a w
 | _,_,_=>False
def J1 (o:Oper):Bool:=match o.op with
 | .defer _=>false
 | _=>true
theorem zfd {o:Oper} (h:J1 o = true):∀ c,o.op ≠ .defer c:=fun c e=>by
 unfold J1 at h;rw [e] at h;cases h
section
variable {P:Program} {ops:Array Oper} {md:Region.Mode} {K:Act->World->Prop} {Q:Exit->Act->World->Prop} {l n:Nat}
theorem znu {i:Nat} {K1 K2:Act->World->Prop} {a:Act} {w:World} (hnd:ops.all J1 = true) (hK:∀ a w,K1 a w->K2 a w) (h:wpOp P ops (xd K) i K1 a w) :
 wpOpIn (Fence.wide.inRound l) n P ops Q i K2 a w:=by
 unfold wpOp at h;unfold wpOpIn;cases ho:ops[i]? with
 | none=>simp only [ho] at h ⊢;exact hK _ _ h
 | some o =>
   simp only [ho] at h ⊢;have hd:∀ c,o.op ≠ .defer c:=zfd (by
    rw [Array.all_eq_true'] at hnd;exact hnd o (Array.mem_of_getElem? ho))
   split
   . rename_i hw;simp only [hw,if_true] at h;rcases h with h | ⟨_,_,_,h⟩
     . unfold Oper.wp at h;refine ⟨fun _ _=>trivial, ?_⟩;rw [Oper.semAt_eq _ _ _ hd];generalize (execOp a.eval o).run P w = r at h;cases r with
       | ok nx w' =>
         cases nx with
         | value v=>exact hK _ _ h
         | skip=>exact hK _ _ h
         | defer d=>exact hK _ _ h
         | enter f args =>
           refine ⟨fun hd=>(by cases hd), ?_⟩;refine (callsIn_wide.2 (Calls.mono (R:=fun | .returned v,w''=>K1 (a.put o.dst v) w'' | .panicked chain,w''=>xd K (.panic chain) a w'' | .outgrown,_=>LetsOut (xd K)) h fun e w'' he=>?_)).inRound l;cases e with
           | returned v=>exact hK _ _ he
           | panicked c=>exact he.elim
           | outgrown=>obtain ⟨_,_,hf⟩:=he;exact hf.elim
         | row row args=>exact ⟨fun hd=>(by cases hd),fun c cs _=>by
          obtain ⟨v,w'',r,s⟩:=h c cs;exact ⟨v,w'',hK _ _ r,stepsIn_wide.2 s⟩⟩
         | round _ _ _ _ _=>exact h.elim
         | _=>exact h.elim
       | halt hh w' =>
         cases hh with
         | panic v=>exact h.elim
         | _=>exact h.elim
     exact h.elim
   rename_i hw;simp only [hw] at h;exact ⟨fun _ _=>trivial,hK _ _ h⟩
theorem zgc (hnd:ops.all J1 = true) (hQ:∀ a w,K a w->Q .normal a w):∀ (fuel:Nat) (listed:Array Bool) (a:Act) (w:World),wpAny P md ops (xd K) fuel listed a w->wpAnyIn (Fence.wide.inRound l) n P md ops Q fuel listed a w
 | 0,_,_,_,h=>⟨h.1,hQ _ _ h.2⟩
 | fuel + 1,listed,a,w,h=>⟨fun e=>hQ _ _ (h.1 e),fun i hi=>znu hnd (fun a w=>zgc hnd hQ fuel _ a w) (h.2 i hi)⟩
theorem jo {id:Nat} {a:Act} {w:World} (hm:P.follows .mixedOrders = true) (hnd:ops.all J1 = true)
 (h:wpAny P .any ops (xd fun a w=>Q .normal a w) ops.size (Array.replicate ops.size false) a w.drew):(Code.region id ops true).wpIn (Fence.wide.inRound l) n P Q a w :=
 wpIn_region_any hm (zgc hnd (fun _ _ h=>h) _ _ _ _ h)
theorem yw {S:World->Prop} {id:Nat} {a:Act} {w:World} (hm:P.follows .mixedOrders = true) (hnd:ops.all J1 = true) (hS:S w.drew)
 (h:S w.drew->wpAnyH P .any ops (xd fun a w=>Q .normal a w) S ops.size (Array.replicate ops.size false) a w.drew):(Code.region id ops true).wpIn (Fence.wide.inRound l) n P Q a w :=
 jo hm hnd (wpAny_of_held _ _ _ _ (h hS))
end
end
section
open Go.RowKit Go.Shelf
attribute [local go_sem] Oper.semAt_some
abbrev Sub (n:Nat):={ x:PgAt // x.1 < n }
theorem za5 (F:Fence) (n:Nat) (hF:F.fn 73) (hro:F.round = none) (hn:1 ≤ n) (Bs n₀ g o c:Nat) (f:List Bk) (hs:List (Option Addr × Nat)) (w:World) (hB:Bs < w.heap.size) (hn₀:n₀ ≤ w.heap.size)
 (hBs:w.cell? ⟨Bs,0,none⟩ = some (.slice (some ⟨g,o,none⟩) f.length c)) (hl:f.length < 1000000000000) (hp:∀ b ∈ f,b.pages.length < 1000000000000)
 (hBk:Bks w (some ⟨g,o,none⟩) f hs) (hlow:∀ b,fblk (some ⟨g,o,none⟩) hs b->b < n₀) :
 SeqStopsK F n Tryz.prog 73 #[.pointer (some ⟨Bs,0,none⟩)] (fun x:Sub f.length=>encP x.1) (Below n₀) (fun ys=>ys.map Subtype.val = zl 0 f) (fun pre=>pre.map Subtype.val <+: zl 0 f) (zl 0 f).length w:=fun l J Jx W hW hJ _ hY h0=>by
 refine (X6 F n hF hro hn l Bs n₀ g o c f hs (fun pre V=>∃ pre':List (Sub f.length),pre'.map Subtype.val = pre∧J pre' V) (fun pre V=>∃ pre':List (Sub f.length),pre'.map Subtype.val = pre∧Jx pre' V) W (Nat.le_trans hn₀ hW.size)
  (fun s X Y row hs hg hr=>by obtain ⟨p,e,h⟩:=hs;exact ⟨p,e,hJ p X Y row h hg hr⟩) (fun pre x W1 h1 h2 h3=>?_) ((hW.cell (p:=⟨Bs,0,none⟩) hB).trans hBs) hl hp (hBk.keep fun q hq hl=>hW.block q (by omega)) hlow ⟨[],rfl,h0⟩).mono ?_
 . obtain ⟨pre',rfl,hj⟩:=h1;refine (hY pre' ⟨x,h3.1⟩ W1 hj (by simpa using h2)).mono ?_;rintro e V (⟨rfl,hj2,hk⟩ | ⟨rfl,hj2⟩)
   . exact .inl ⟨rfl,⟨_,by simp,hj2⟩,hk⟩
   exact .inr ⟨rfl,_,by simp,hj2⟩
 rintro e V ⟨he,⟨ys,rfl,pre',h1,h2⟩ | ⟨pre,h0,pre',rfl,h2⟩⟩
 . exact ⟨he, .inl ⟨pre',h1,h2⟩⟩
 exact ⟨he, .inr ⟨pre',h0,h2⟩⟩
abbrev Span:=Int × Int
def Spn (s:Span):List Value:=[.int .i64 s.1, .int .i64 s.2]
def spv (ss:List Span):List Value:=ss.flatMap Spn
def Zh (s:Span) (q:Int):Int:=if s.1 = 0∨q < s.1 then q else s.1
def Zk (ss:List Span) (x:PgAt):List Span:=if x.2.2.state = 1 then ss.set x.1 (Zh (ss.getD x.1 (0,0)) x.2.2.rc.seq,max (ss.getD x.1 (0,0)).2 x.2.2.rc.seq) else ss
def spOf (pre:List PgAt):List Span:=pre.foldl Zk (List.replicate 4 (0,0))
theorem zk4 (pre:List PgAt) (x:PgAt):spOf (pre ++ [x]) = Zk (spOf pre) x:=by unfold spOf;rw [List.foldl_append];rfl
theorem zjk (ss:List Span) (x:PgAt):(Zk ss x).length = ss.length:=by unfold Zk;split <;> simp
theorem zdd (pre:List PgAt):(spOf pre).length = 4:=by
 have:∀ (pre:List PgAt) (ss:List Span),(pre.foldl Zk ss).length = ss.length:=by
  intro pre
  induction pre with
  | nil=>intro ss;rfl
  | cons x pre ih=>intro ss;rw [List.foldl_cons,ih,zjk]
 rw [spOf,this];rfl
theorem zgz (A:Option Addr) (vs:List Value) (n₀:Nat):OwnFrom n₀ (fun (_:Unit) W=>Row W A vs):=fun _ X Y row hs hg hr hn=>by
 obtain ⟨b,o,rfl,hc⟩:=hs hn;exact ⟨b,o,rfl,fun j u hj=>⟨cell_kept (hc j u hj).1 hg (fun r e=>(hr r e).2),(frozen_kept (hc j u hj).1 hg (fun r e=>(hr r e).2)).trans (hc j u hj).2⟩⟩
theorem Row.span {w:World} {b k:Nat} {ss:List Span} {s:Span} (h:Row w (some ⟨b,0,none⟩) (spv ss)) (hk:ss[k]? = some s) :
 w.cell? ⟨b,k * 2,none⟩ = some (.int .i64 s.1)∧w.cell? ⟨b,k * 2 + 1,none⟩ = some (.int .i64 s.2)∧w.frozen? ⟨b,k * 2,none⟩ = false∧w.frozen? ⟨b,k * 2 + 1,none⟩ = false:=by
 have hne:spv ss ≠ []:=by
  intro e;cases ss with
  | nil=>simp at hk
  | cons a ss=>simp [spv,Spn] at e
 obtain ⟨b',o',he,hc⟩:=h hne;cases he;have hg:∀ j u,(Spn s)[j]? = some u->j < 2->w.cell? ⟨b,0 + (k * 2 + j),none⟩ = some u∧w.frozen? ⟨b,0 + (k * 2 + j),none⟩ = false:=fun j u hj hl=>hc (k * 2 + j) u (by rw [spv,yn _ 2 (fun _=>rfl) ss k j s hk hl];exact hj);have h0:=hg 0 _ rfl (by omega);have h1:=hg 1 _ rfl (by omega);rw [Nat.zero_add] at h0 h1;exact ⟨h0.1,h1.1,h0.2,h1.2⟩
theorem zk2:∀ (ss:List Span) (k:Nat) (s:Span),k < ss.length->spv (ss.set k s) = setL (spv ss) (k * 2) (Spn s)
 | [],k,s,h=>by simp at h
 | q :: ss,0,s,_=>by simp [spv,Spn,setL]
 | q :: ss, k + 1, s, h => by
   have ih:=zk2 ss k s (by simpa using h);rw [List.set_cons_succ];show Spn q ++ spv (ss.set k s) = setL (Spn q ++ spv ss) _ _;rw [ih,show (k + 1) * 2 = (Spn q).length + k * 2 by simp [Spn];omega,Zz]
theorem zpd (ss:List Span):(spv ss).length = ss.length * 2:=Kh _ 2 (fun _=>rfl) ss
theorem zjt (w:World):(Instr.makeSlice 116 (.int .i64 4) (.int .i64 4)).run Tryz.prog w = .ok (.slice (some ⟨w.heap.size,0,none⟩) 4 4) (w.alloc (.cells #[.int .i64 0, .int .i64 0, .int .i64 0, .int .i64 0, .int .i64 0, .int .i64 0, .int .i64 0, .int .i64 0] 119)):=by kernel_rfl
theorem Y0 (f:List Bk) (hs:List (Option Addr × Nat)) (g o c:Nat) (w:World) (hl:f.length = 4) (hp:∀ b ∈ f,b.pages.length = 4) (hBk:Bks w (some ⟨g,o,none⟩) f hs) (hlow:∀ b,fblk (some ⟨g,o,none⟩) hs b->b < w.heap.size) :
 Calls Tryz.prog 58 #[.slice (some ⟨g,o,none⟩) 4 c] w fun e w'=>∃ b,e = .returned (.slice (some ⟨b,0,none⟩) 4 4)∧w.heap.size ≤ b∧Row w' (some ⟨b,0,none⟩) (spv (spOf (zl 0 f)))∧Below w.heap.size w w':=by
 refine (callsIn_wide (n:=6)).1 ?_;refine callsIn_of_wp_marks Tryz.func58 rfl trivial ?_ rfl;simp only [Tryz.ntmps58,List.size_toArray,List.length_cons,List.length_nil,Nat.reduceAdd,Nat.reduceSub,Array.replicate_succ,Array.replicate_zero,List.push_toArray,List.append_toArray,List.nil_append,List.cons_append];have hmk:=zjt;have HL:=Lib.hid hl;have HP:=Lib.hid hp;clear hl hp
 gi_wp2_with (first | (refine ⟨trivial, ?_⟩;gi_at_call 39;refine (Xh Fence.wide _ trivial rfl _ _ _ _).mono ?_;rintro e w2 ⟨rfl,rfl⟩))
 have hsz:((((w.alloc (.cells #[.int .i64 0, .int .i64 0, .int .i64 0, .int .i64 0, .int .i64 0, .int .i64 0, .int .i64 0, .int .i64 0] 119)).alloc (.cells #[.slice (some ⟨w.heap.size,0,none⟩) 4 4] 116)).alloc (.cells #[.slice (some ⟨g,o,none⟩) 4 c] 25))).heap.size = w.heap.size + 3:=by simp
 have bV:=(Boxed.new (w.alloc (.cells #[.int .i64 0, .int .i64 0, .int .i64 0, .int .i64 0, .int .i64 0, .int .i64 0, .int .i64 0, .int .i64 0] 119)) 116 (.slice (some ⟨w.heap.size,0,none⟩) 4 4)).alloc (.cells #[.slice (some ⟨g,o,none⟩) 4 c] 25);have bA:=Boxed.new ((w.alloc (.cells #[.int .i64 0, .int .i64 0, .int .i64 0, .int .i64 0, .int .i64 0, .int .i64 0, .int .i64 0, .int .i64 0] 119)).alloc (.cells #[.slice (some ⟨w.heap.size,0,none⟩) 4 4] 116)) 25 (.slice (some ⟨g,o,none⟩) 4 c);simp only [World.size_alloc] at bV bA;have hR0:Row _ _ (spv (spOf [])):=((Row.new w #[.int .i64 0, .int .i64 0, .int .i64 0, .int .i64 0, .int .i64 0, .int .i64 0, .int .i64 0, .int .i64 0] 119).alloc (.cells #[.slice (some ⟨w.heap.size,0,none⟩) 4 4] 116)).alloc (.cells #[.slice (some ⟨g,o,none⟩) 4 c] 25);have hBk0:=((hBk.alloc (.cells #[.int .i64 0, .int .i64 0, .int .i64 0, .int .i64 0, .int .i64 0, .int .i64 0, .int .i64 0, .int .i64 0] 119)).alloc (.cells #[.slice (some ⟨w.heap.size,0,none⟩) 4 4] 116)).alloc (.cells #[.slice (some ⟨g,o,none⟩) 4 c] 25);have hB0:Below w.heap.size w (((w.alloc (.cells #[.int .i64 0, .int .i64 0, .int .i64 0, .int .i64 0, .int .i64 0, .int .i64 0, .int .i64 0, .int .i64 0] 119)).alloc (.cells #[.slice (some ⟨w.heap.size,0,none⟩) 4 4] 116)).alloc (.cells #[.slice (some ⟨g,o,none⟩) 4 c] 25)):=(((Below.refl _ w).alloc nl _).alloc (by simp) _).alloc (by simp;omega) _;obtain ⟨W0,hW0⟩:∃ W0,((w.alloc (.cells #[.int .i64 0, .int .i64 0, .int .i64 0, .int .i64 0, .int .i64 0, .int .i64 0, .int .i64 0, .int .i64 0] 119)).alloc (.cells #[.slice (some ⟨w.heap.size,0,none⟩) 4 4] 116)).alloc (.cells #[.slice (some ⟨g,o,none⟩) 4 c] 25) = W0:=⟨_,rfl⟩;rw [hW0] at bV bA hR0 hB0 hsz hBk0 ⊢;clear hW0 hmk;have hcA:W0.cell? ⟨w.heap.size + 1 + 1,0,none⟩ = some (.slice (some ⟨g,o,none⟩) f.length c):=by rw [HL.out];exact bA.cell
 refine wpIn_rangeFunc_ownH rfl (by omega) (gf:=73) (lb:=#[.pointer (some ⟨w.heap.size + 1 + 1,0,none⟩)]) rfl trivial (enters_of Tryz.func73 (by kernel_rfl) rfl)
  (za5 Fence.wide _ trivial rfl (by omega) (w.heap.size + 1 + 1) w.heap.size g o c f hs W0 (by omega) (by omega) hcA (by rw [HL.out];omega) (fun b hb=>by rw [HP.out b hb];omega) hBk0 hlow) belowK_t (belowK_b (by omega)) (Below.refl _ _) (fun _=>rfl)
  (fun pre W=>(Boxed W (w.heap.size + 1) 116 (.slice (some ⟨w.heap.size,0,none⟩) 4 4)∧Row W (some ⟨w.heap.size,0,none⟩) (spv (spOf (pre.map Subtype.val))))∧Below w.heap.size w W)
  (fun _ _ _=>False)
  (OwnFrom.and (OwnFrom.and (Own.from (boxed_own _ _ (fun _=>_)) _) (fun pre X Y row h hg hr=>zgz _ _ _ () X Y row h hg hr)) (ownFrom_below nl (by omega)))
  (fun _ _ _ _ _ hs _ _=>hs)
  ⟨⟨bV,hR0⟩,hB0⟩
  (fun x a' W=>∃ B4 B5,w.heap.size + 1 < B4∧w.heap.size + 1 < B5∧Laid W B4 74 #[.int .i64 (x.1.1:Int), .int .i64 (x.1.2.1:Int)]∧Laid W B5 76 (pgv x.1.2.2)∧a' = { tmps:=#[.slice (some ⟨g,o,none⟩) 4 c,undef, .slice none 0 0, .pointer (some ⟨w.heap.size + 1,0,none⟩), .pointer (some ⟨B4,0,none⟩), .pointer (some ⟨B5,0,none⟩),undef, .slice (some ⟨g,o,none⟩) 4 c, .int .i64 4, .slice (some ⟨w.heap.size,0,none⟩) 4 4, .slice (some ⟨g,o,none⟩) 4 c, .func (.func 73) #[] #[.pointer (some ⟨w.heap.size + 1 + 1,0,none⟩)], .agg #[.int .i64 (x.1.1:Int), .int .i64 (x.1.2.1:Int)], .agg (pgv x.1.2.2),undef,undef,undef,undef,undef,undef,undef,undef,undef,undef,undef,undef,undef,undef,undef,undef,undef,undef,undef,undef,undef,undef,undef,undef,undef,undef,undef,undef,undef,undef,undef,undef,undef,undef,undef,undef,undef,undef,undef,undef],defers:=[] })
  (fun x a' _ X Y row hs hg hr=>by obtain ⟨B4,B5,h1,h2,h3,h4,h5⟩:=hs;exact ⟨B4,B5,h1,h2,Jm B4 _ _ _ () X Y row h3 hg hr,Jm B5 _ _ _ () X Y row h4 hg hr,h5⟩)
  ?assign ?body ?done ?stop
 case assign =>
  rintro l pre x W K ⟨⟨bV1,hR1⟩,hB1⟩ hK;dsimp only [encP]
  gi_wp2
  have hlt:=bV1.lt;exact hK _ _ (((KeepsOthers.alloc _ _).trans (KeepsOthers.alloc _ _)).from _) (((Below.refl _ W).alloc hB1.size _).alloc (by simp;omega) _) ⟨⟨(bV1.alloc _).alloc _,(hR1.alloc _).alloc _⟩,(hB1.alloc hB1.size _).alloc (by simp;omega) _⟩ ⟨W.heap.size,W.heap.size + 1,hlt,by omega,(Below.heap_alloc _ _ _ (by simp)).trans (World.alloc_heap_new W _),by have:=World.alloc_heap_new (W.alloc (.cells #[.int .i64 (x.1.1:Int), .int .i64 (x.1.2.1:Int)] 74)) (.cells (pgv x.1.2.2) 76);rwa [World.size_alloc] at this,rfl⟩
 case body =>
  rintro l pre x a' W hl ⟨r,hr⟩ ⟨⟨bV1,hR1⟩,hB1⟩ ⟨B4,B5,h4,h5,L4,L5,rfl⟩ hlt;have hx4:x.1.1 < 4:=Nat.lt_of_lt_of_eq x.2 HL.out;have hlen:=zdd (pre.map Subtype.val);have hst:Hid (spOf ((pre ++ [x]).map Subtype.val) = Zk (spOf (pre.map Subtype.val)) x.1):=by rw [Hid,List.map_append];exact zk4 _ _
  generalize spOf (pre.map Subtype.val) = ss at *;obtain ⟨sp,hsp⟩:=zc (l:=ss) (k:=x.1.1) (by omega);have hgd:ss.getD x.1.1 (0,0) = sp:=by rw [List.getD_eq_getElem?_getD,hsp];rfl
  obtain ⟨l0,l1,l2,l3⟩:=hR1.span hsp;have cV:=bV1.cell;have x0:W.cell? ⟨B5,0,none⟩ = some (.int .i64 x.1.2.2.state):=L5.cell 0 rfl;have x2:W.cell? ⟨B5,2,none⟩ = some (.int .i64 x.1.2.2.rc.seq):=L5.cell 2 rfl;have s0:W.cell? ⟨B4,0,none⟩ = some (.int .i64 (x.1.1:Int)):=L4.cell 0 rfl;have hx4':(x.1.1:Int) < 4:=by omega
  by_cases h1:x.1.2.2.state = 1
  . have hst2:Hid (spOf ((pre ++ [x]).map Subtype.val) = ss.set x.1.1 (Zh sp x.1.2.2.rc.seq,max sp.2 x.1.2.2.rc.seq)):=by rw [Hid,hst.out];unfold Zk;rw [if_pos h1,hgd]
    have hrow:∀ Wf:World,xt W Wf w.heap.size (x.1.1 * 2) (Spn (Zh sp x.1.2.2.rc.seq,max sp.2 x.1.2.2.rc.seq))->Row Wf (some ⟨w.heap.size,0,none⟩) (spv (spOf ((pre ++ [x]).map Subtype.val))):=fun Wf hW=>by
     rw [hst2.out,zk2 _ _ _ (by omega)];exact xt.row (o:=0) (by rw [Nat.zero_add];exact hW) hR1 (by rw [zpd];simp [Spn];omega)
    have HROW:=Lib.hid hrow;rw [h1] at x0;clear hrow hst hst2 hgd hsp h1;by_cases hz:sp.1 = 0
    . have hlo:Hid (Zh sp x.1.2.2.rc.seq = x.1.2.2.rc.seq):=by unfold Hid Zh;rw [if_pos (.inl hz)]
      rw [hz] at l0;clear hz
      gi_wp2
      refine yw (S:=fun w'=>w'.cell? ⟨w.heap.size,x.1.1 * 2,none⟩ = some (.int .i64 0)∧w'.cell? ⟨B5,2,none⟩ = some (.int .i64 x.1.2.2.rc.seq)) (by kernel_rfl) (by kernel_rfl) ⟨l0,x2⟩ (fun hHeld=>?_);refine tA 0 hHeld ?_;try simp only [Act.put,jj]
      refine tA 1 hHeld ?_;try simp only [Act.put,jj]
      refine tA 2 hHeld ?_;try simp only [Act.put,jj]
      refine tA 3 hHeld ?_;try simp only [Act.put,jj]
      refine tA 4 hHeld ?_;try simp only [Act.put,jj]
      refine tA 5 hHeld ?_;try simp only [Act.put,jj]
      refine tB 6 hHeld ?_;try simp only [Act.put,jj]
      refine tB 7 hHeld ?_;try simp only [Act.put,jj]
      refine tB 8 hHeld ?_;try simp only [Act.put,jj]
      refine tB 9 hHeld ?_;try simp only [Act.put,jj]
      refine tB 10 hHeld ?_;try simp only [Act.put,jj]
      refine tB 11 hHeld ?_;try simp only [Act.put,jj]
      refine tB 12 hHeld ?_;try simp only [Act.put,jj]
      refine tB 13 hHeld ?_;try simp only [Act.put,jj]
      refine tA 14 hHeld ?_;try simp only [Act.put,jj]
      refine wpAnyH_done (by kernel_rfl) ?_ _;simp only [xd]
      gi_wp2
      by_cases hmx:sp.2 < x.1.2.2.rc.seq
      . have hmv:Hid (max sp.2 x.1.2.2.rc.seq = x.1.2.2.rc.seq):=by unfold Hid;omega
        refine jo (by kernel_rfl) (by kernel_rfl) ?_;refine tC 0 ?_;try simp only [Act.put,jj]
        refine tC 1 ?_;try simp only [Act.put,jj]
        refine tC 2 ?_;try simp only [Act.put,jj]
        refine tC 3 ?_;try simp only [Act.put,jj]
        refine tC 5 ?_;try simp only [Act.put,jj]
        refine tC 6 ?_;try simp only [Act.put,jj]
        refine wpAny_ready (rs:=[4,7]) (by kernel_rfl) (by simp) ?_;refine AllReady.cons rfl (fun K hK=>?_) (AllReady.cons rfl (fun K hK=>?_) AllReady.nil)
        . go_simp;refine hK _ _ ?_;clear hK K;try simp only [Act.put,jj]
          refine wpAny_ready (rs:=[7]) (by kernel_rfl) (by simp) ?_;refine AllReady.cons rfl (fun K hK=>?_) AllReady.nil;go_simp;refine hK _ _ ?_;clear hK K;try simp only [Act.put,jj]
          refine tC 8 ?_;try simp only [Act.put,jj]
          refine tC 9 ?_;try simp only [Act.put,jj]
          refine tC 10 ?_;try simp only [Act.put,jj]
          refine wpAny_ready (rs:=[11]) (by kernel_rfl) (by simp) ?_;refine AllReady.cons rfl (fun K hK=>?_) AllReady.nil;go_simp;refine hK _ _ ?_;clear hK K;try simp only [Act.put,jj]
          refine wpAny_done (by kernel_rfl) ?_ _;simp only [xd];have hW:xt W ((W.setCell ⟨w.heap.size,x.1.1 * 2,none⟩ (.int .i64 x.1.2.2.rc.seq)).setCell ⟨w.heap.size,x.1.1 * 2 + 1,none⟩ (.int .i64 x.1.2.2.rc.seq)) w.heap.size (x.1.1 * 2) (Spn (Zh sp x.1.2.2.rc.seq,max sp.2 x.1.2.2.rc.seq)):=by
           rw [hlo.out,hmv.out];exact zp w.heap.size [.int .i64 x.1.2.2.rc.seq, .int .i64 x.1.2.2.rc.seq] (x.1.1 * 2) W (fun j hj=>by
            match j,hj with
            | 0,_=>exact ⟨_,l0⟩
            | 1,_=>exact ⟨_,l1⟩)
          have hBL:Below w.heap.size W ((W.setCell ⟨w.heap.size,x.1.1 * 2,none⟩ (.int .i64 x.1.2.2.rc.seq)).setCell ⟨w.heap.size,x.1.1 * 2 + 1,none⟩ (.int .i64 x.1.2.2.rc.seq)).drew.drew:=((((Below.refl w.heap.size W).setCell (p:=⟨w.heap.size,x.1.1 * 2,none⟩) nl (.int .i64 x.1.2.2.rc.seq)).setCell (p:=⟨w.heap.size,x.1.1 * 2 + 1,none⟩) nl (.int .i64 x.1.2.2.rc.seq)).drew).drew;have hBX:Boxed ((W.setCell ⟨w.heap.size,x.1.1 * 2,none⟩ (.int .i64 x.1.2.2.rc.seq)).setCell ⟨w.heap.size,x.1.1 * 2 + 1,none⟩ (.int .i64 x.1.2.2.rc.seq)).drew.drew (w.heap.size + 1) 116 (.slice (some ⟨w.heap.size,0,none⟩) 4 4):=(hW.block (w.heap.size + 1) (by omega)).trans bV1;have hRW:Row ((W.setCell ⟨w.heap.size,x.1.1 * 2,none⟩ (.int .i64 x.1.2.2.rc.seq)).setCell ⟨w.heap.size,x.1.1 * 2 + 1,none⟩ (.int .i64 x.1.2.2.rc.seq)).drew.drew (some ⟨w.heap.size,0,none⟩) (spv (spOf ((pre ++ [x]).map Subtype.val))):=(HROW.out _ hW).drew.drew;clear hW HROW
          gi_wp2
          exact ⟨((((KeepsOthers.setCell _ _ _).trans (KeepsOthers.setCell _ _ _)).trans (KeepsOthers.drew _)).trans (KeepsOthers.drew _)).from _,hBL,⟨hBX,hRW⟩,hB1.trans hBL⟩
        go_simp;refine hK _ _ ?_;clear hK K;try simp only [Act.put,jj]
        refine wpAny_ready (rs:=[4]) (by kernel_rfl) (by simp) ?_;refine AllReady.cons rfl (fun K hK=>?_) AllReady.nil;go_simp;refine hK _ _ ?_;clear hK K;try simp only [Act.put,jj]
        refine tC 8 ?_;try simp only [Act.put,jj]
        refine tC 9 ?_;try simp only [Act.put,jj]
        refine tC 10 ?_;try simp only [Act.put,jj]
        refine wpAny_ready (rs:=[11]) (by kernel_rfl) (by simp) ?_;refine AllReady.cons rfl (fun K hK=>?_) AllReady.nil;go_simp;refine hK _ _ ?_;clear hK K;try simp only [Act.put,jj]
        refine wpAny_done (by kernel_rfl) ?_ _;simp only [xd];have hW:xt W ((W.setCell ⟨w.heap.size,x.1.1 * 2,none⟩ (.int .i64 x.1.2.2.rc.seq)).setCell ⟨w.heap.size,x.1.1 * 2 + 1,none⟩ (.int .i64 x.1.2.2.rc.seq)) w.heap.size (x.1.1 * 2) (Spn (Zh sp x.1.2.2.rc.seq,max sp.2 x.1.2.2.rc.seq)):=by
         rw [hlo.out,hmv.out];exact zp w.heap.size [.int .i64 x.1.2.2.rc.seq, .int .i64 x.1.2.2.rc.seq] (x.1.1 * 2) W (fun j hj=>by
          match j,hj with
          | 0,_=>exact ⟨_,l0⟩
          | 1,_=>exact ⟨_,l1⟩)
        have hBL:Below w.heap.size W ((W.setCell ⟨w.heap.size,x.1.1 * 2,none⟩ (.int .i64 x.1.2.2.rc.seq)).setCell ⟨w.heap.size,x.1.1 * 2 + 1,none⟩ (.int .i64 x.1.2.2.rc.seq)).drew.drew:=((((Below.refl w.heap.size W).setCell (p:=⟨w.heap.size,x.1.1 * 2,none⟩) nl (.int .i64 x.1.2.2.rc.seq)).setCell (p:=⟨w.heap.size,x.1.1 * 2 + 1,none⟩) nl (.int .i64 x.1.2.2.rc.seq)).drew).drew;have hBX:Boxed ((W.setCell ⟨w.heap.size,x.1.1 * 2,none⟩ (.int .i64 x.1.2.2.rc.seq)).setCell ⟨w.heap.size,x.1.1 * 2 + 1,none⟩ (.int .i64 x.1.2.2.rc.seq)).drew.drew (w.heap.size + 1) 116 (.slice (some ⟨w.heap.size,0,none⟩) 4 4):=(hW.block (w.heap.size + 1) (by omega)).trans bV1;have hRW:Row ((W.setCell ⟨w.heap.size,x.1.1 * 2,none⟩ (.int .i64 x.1.2.2.rc.seq)).setCell ⟨w.heap.size,x.1.1 * 2 + 1,none⟩ (.int .i64 x.1.2.2.rc.seq)).drew.drew (some ⟨w.heap.size,0,none⟩) (spv (spOf ((pre ++ [x]).map Subtype.val))):=(HROW.out _ hW).drew.drew;clear hW HROW
        gi_wp2
        exact ⟨((((KeepsOthers.setCell _ _ _).trans (KeepsOthers.setCell _ _ _)).trans (KeepsOthers.drew _)).trans (KeepsOthers.drew _)).from _,hBL,⟨hBX,hRW⟩,hB1.trans hBL⟩
      have hmv:Hid (max sp.2 x.1.2.2.rc.seq = sp.2):=by unfold Hid;omega
      refine jo (by kernel_rfl) (by kernel_rfl) ?_;refine tC 0 ?_;try simp only [Act.put,jj]
      refine tC 1 ?_;try simp only [Act.put,jj]
      refine tC 2 ?_;try simp only [Act.put,jj]
      refine tC 3 ?_;try simp only [Act.put,jj]
      refine tC 5 ?_;try simp only [Act.put,jj]
      refine tC 6 ?_;try simp only [Act.put,jj]
      refine wpAny_ready (rs:=[4,7]) (by kernel_rfl) (by simp) ?_;refine AllReady.cons rfl (fun K hK=>?_) (AllReady.cons rfl (fun K hK=>?_) AllReady.nil)
      . go_simp;refine hK _ _ ?_;clear hK K;try simp only [Act.put,jj]
        refine wpAny_ready (rs:=[7]) (by kernel_rfl) (by simp) ?_;refine AllReady.cons rfl (fun K hK=>?_) AllReady.nil;go_simp;refine hK _ _ ?_;clear hK K;try simp only [Act.put,jj]
        refine tC 8 ?_;try simp only [Act.put,jj]
        refine tC 9 ?_;try simp only [Act.put,jj]
        refine tC 10 ?_;try simp only [Act.put,jj]
        refine wpAny_ready (rs:=[11]) (by kernel_rfl) (by simp) ?_;refine AllReady.cons rfl (fun K hK=>?_) AllReady.nil;go_simp;refine hK _ _ ?_;clear hK K;try simp only [Act.put,jj]
        refine wpAny_done (by kernel_rfl) ?_ _;simp only [xd];have hW:xt W ((W.setCell ⟨w.heap.size,x.1.1 * 2,none⟩ (.int .i64 x.1.2.2.rc.seq)).setCell ⟨w.heap.size,x.1.1 * 2 + 1,none⟩ (.int .i64 sp.2)) w.heap.size (x.1.1 * 2) (Spn (Zh sp x.1.2.2.rc.seq,max sp.2 x.1.2.2.rc.seq)):=by
         rw [hlo.out,hmv.out];exact zp w.heap.size [.int .i64 x.1.2.2.rc.seq, .int .i64 sp.2] (x.1.1 * 2) W (fun j hj=>by
          match j,hj with
          | 0,_=>exact ⟨_,l0⟩
          | 1,_=>exact ⟨_,l1⟩)
        have hBL:Below w.heap.size W ((W.setCell ⟨w.heap.size,x.1.1 * 2,none⟩ (.int .i64 x.1.2.2.rc.seq)).setCell ⟨w.heap.size,x.1.1 * 2 + 1,none⟩ (.int .i64 sp.2)).drew.drew:=((((Below.refl w.heap.size W).setCell (p:=⟨w.heap.size,x.1.1 * 2,none⟩) nl (.int .i64 x.1.2.2.rc.seq)).setCell (p:=⟨w.heap.size,x.1.1 * 2 + 1,none⟩) nl (.int .i64 sp.2)).drew).drew;have hBX:Boxed ((W.setCell ⟨w.heap.size,x.1.1 * 2,none⟩ (.int .i64 x.1.2.2.rc.seq)).setCell ⟨w.heap.size,x.1.1 * 2 + 1,none⟩ (.int .i64 sp.2)).drew.drew (w.heap.size + 1) 116 (.slice (some ⟨w.heap.size,0,none⟩) 4 4):=(hW.block (w.heap.size + 1) (by omega)).trans bV1;have hRW:Row ((W.setCell ⟨w.heap.size,x.1.1 * 2,none⟩ (.int .i64 x.1.2.2.rc.seq)).setCell ⟨w.heap.size,x.1.1 * 2 + 1,none⟩ (.int .i64 sp.2)).drew.drew (some ⟨w.heap.size,0,none⟩) (spv (spOf ((pre ++ [x]).map Subtype.val))):=(HROW.out _ hW).drew.drew;clear hW HROW
        gi_wp2
        exact ⟨((((KeepsOthers.setCell _ _ _).trans (KeepsOthers.setCell _ _ _)).trans (KeepsOthers.drew _)).trans (KeepsOthers.drew _)).from _,hBL,⟨hBX,hRW⟩,hB1.trans hBL⟩
      go_simp;refine hK _ _ ?_;clear hK K;try simp only [Act.put,jj]
      refine wpAny_ready (rs:=[4]) (by kernel_rfl) (by simp) ?_;refine AllReady.cons rfl (fun K hK=>?_) AllReady.nil;go_simp;refine hK _ _ ?_;clear hK K;try simp only [Act.put,jj]
      refine tC 8 ?_;try simp only [Act.put,jj]
      refine tC 9 ?_;try simp only [Act.put,jj]
      refine tC 10 ?_;try simp only [Act.put,jj]
      refine wpAny_ready (rs:=[11]) (by kernel_rfl) (by simp) ?_;refine AllReady.cons rfl (fun K hK=>?_) AllReady.nil;go_simp;refine hK _ _ ?_;clear hK K;try simp only [Act.put,jj]
      refine wpAny_done (by kernel_rfl) ?_ _;simp only [xd];have hW:xt W ((W.setCell ⟨w.heap.size,x.1.1 * 2,none⟩ (.int .i64 x.1.2.2.rc.seq)).setCell ⟨w.heap.size,x.1.1 * 2 + 1,none⟩ (.int .i64 sp.2)) w.heap.size (x.1.1 * 2) (Spn (Zh sp x.1.2.2.rc.seq,max sp.2 x.1.2.2.rc.seq)):=by
       rw [hlo.out,hmv.out];exact zp w.heap.size [.int .i64 x.1.2.2.rc.seq, .int .i64 sp.2] (x.1.1 * 2) W (fun j hj=>by
        match j,hj with
        | 0,_=>exact ⟨_,l0⟩
        | 1,_=>exact ⟨_,l1⟩)
      have hBL:Below w.heap.size W ((W.setCell ⟨w.heap.size,x.1.1 * 2,none⟩ (.int .i64 x.1.2.2.rc.seq)).setCell ⟨w.heap.size,x.1.1 * 2 + 1,none⟩ (.int .i64 sp.2)).drew.drew:=((((Below.refl w.heap.size W).setCell (p:=⟨w.heap.size,x.1.1 * 2,none⟩) nl (.int .i64 x.1.2.2.rc.seq)).setCell (p:=⟨w.heap.size,x.1.1 * 2 + 1,none⟩) nl (.int .i64 sp.2)).drew).drew;have hBX:Boxed ((W.setCell ⟨w.heap.size,x.1.1 * 2,none⟩ (.int .i64 x.1.2.2.rc.seq)).setCell ⟨w.heap.size,x.1.1 * 2 + 1,none⟩ (.int .i64 sp.2)).drew.drew (w.heap.size + 1) 116 (.slice (some ⟨w.heap.size,0,none⟩) 4 4):=(hW.block (w.heap.size + 1) (by omega)).trans bV1;have hRW:Row ((W.setCell ⟨w.heap.size,x.1.1 * 2,none⟩ (.int .i64 x.1.2.2.rc.seq)).setCell ⟨w.heap.size,x.1.1 * 2 + 1,none⟩ (.int .i64 sp.2)).drew.drew (some ⟨w.heap.size,0,none⟩) (spv (spOf ((pre ++ [x]).map Subtype.val))):=(HROW.out _ hW).drew.drew;clear hW HROW
      gi_wp2
      exact ⟨((((KeepsOthers.setCell _ _ _).trans (KeepsOthers.setCell _ _ _)).trans (KeepsOthers.drew _)).trans (KeepsOthers.drew _)).from _,hBL,⟨hBX,hRW⟩,hB1.trans hBL⟩
    have hz':(sp.1 == 0) = false:=by simpa using hz
    by_cases hq:x.1.2.2.rc.seq < sp.1
    . have hlo:Hid (Zh sp x.1.2.2.rc.seq = x.1.2.2.rc.seq):=by unfold Hid Zh;rw [if_pos (.inr hq)]
      gi_wp2
      refine yw (S:=fun w'=>w'.cell? ⟨w.heap.size,x.1.1 * 2,none⟩ = some (.int .i64 sp.1)∧w'.cell? ⟨B5,2,none⟩ = some (.int .i64 x.1.2.2.rc.seq)) (by kernel_rfl) (by kernel_rfl) ⟨l0,x2⟩ (fun hHeld=>?_);refine tA 0 hHeld ?_;try simp only [Act.put,jj]
      refine tA 1 hHeld ?_;try simp only [Act.put,jj]
      refine tA 2 hHeld ?_;try simp only [Act.put,jj]
      refine tA 3 hHeld ?_;try simp only [Act.put,jj]
      refine tA 4 hHeld ?_;try simp only [Act.put,jj]
      refine tA 5 hHeld ?_;try simp only [Act.put,jj]
      refine tA 6 hHeld ?_;try simp only [Act.put,jj]
      refine tA 7 hHeld ?_;try simp only [Act.put,jj]
      refine tA 8 hHeld ?_;try simp only [Act.put,jj]
      refine tA 9 hHeld ?_;try simp only [Act.put,jj]
      refine tA 10 hHeld ?_;try simp only [Act.put,jj]
      refine tA 11 hHeld ?_;try simp only [Act.put,jj]
      refine tA 12 hHeld ?_;try simp only [Act.put,jj]
      refine tA 13 hHeld ?_;try simp only [Act.put,jj]
      refine tA 14 hHeld ?_;try simp only [Act.put,jj]
      refine wpAnyH_done (by kernel_rfl) ?_ _;simp only [xd]
      gi_wp2
      by_cases hmx:sp.2 < x.1.2.2.rc.seq
      . have hmv:Hid (max sp.2 x.1.2.2.rc.seq = x.1.2.2.rc.seq):=by unfold Hid;omega
        refine jo (by kernel_rfl) (by kernel_rfl) ?_;refine tC 0 ?_;try simp only [Act.put,jj]
        refine tC 1 ?_;try simp only [Act.put,jj]
        refine tC 2 ?_;try simp only [Act.put,jj]
        refine tC 3 ?_;try simp only [Act.put,jj]
        refine tC 5 ?_;try simp only [Act.put,jj]
        refine tC 6 ?_;try simp only [Act.put,jj]
        refine wpAny_ready (rs:=[4,7]) (by kernel_rfl) (by simp) ?_;refine AllReady.cons rfl (fun K hK=>?_) (AllReady.cons rfl (fun K hK=>?_) AllReady.nil)
        . go_simp;refine hK _ _ ?_;clear hK K;try simp only [Act.put,jj]
          refine wpAny_ready (rs:=[7]) (by kernel_rfl) (by simp) ?_;refine AllReady.cons rfl (fun K hK=>?_) AllReady.nil;go_simp;refine hK _ _ ?_;clear hK K;try simp only [Act.put,jj]
          refine tC 8 ?_;try simp only [Act.put,jj]
          refine tC 9 ?_;try simp only [Act.put,jj]
          refine tC 10 ?_;try simp only [Act.put,jj]
          refine wpAny_ready (rs:=[11]) (by kernel_rfl) (by simp) ?_;refine AllReady.cons rfl (fun K hK=>?_) AllReady.nil;go_simp;refine hK _ _ ?_;clear hK K;try simp only [Act.put,jj]
          refine wpAny_done (by kernel_rfl) ?_ _;simp only [xd];have hW:xt W ((W.setCell ⟨w.heap.size,x.1.1 * 2,none⟩ (.int .i64 x.1.2.2.rc.seq)).setCell ⟨w.heap.size,x.1.1 * 2 + 1,none⟩ (.int .i64 x.1.2.2.rc.seq)) w.heap.size (x.1.1 * 2) (Spn (Zh sp x.1.2.2.rc.seq,max sp.2 x.1.2.2.rc.seq)):=by
           rw [hlo.out,hmv.out];exact zp w.heap.size [.int .i64 x.1.2.2.rc.seq, .int .i64 x.1.2.2.rc.seq] (x.1.1 * 2) W (fun j hj=>by
            match j,hj with
            | 0,_=>exact ⟨_,l0⟩
            | 1,_=>exact ⟨_,l1⟩)
          have hBL:Below w.heap.size W ((W.setCell ⟨w.heap.size,x.1.1 * 2,none⟩ (.int .i64 x.1.2.2.rc.seq)).setCell ⟨w.heap.size,x.1.1 * 2 + 1,none⟩ (.int .i64 x.1.2.2.rc.seq)).drew.drew:=((((Below.refl w.heap.size W).setCell (p:=⟨w.heap.size,x.1.1 * 2,none⟩) nl (.int .i64 x.1.2.2.rc.seq)).setCell (p:=⟨w.heap.size,x.1.1 * 2 + 1,none⟩) nl (.int .i64 x.1.2.2.rc.seq)).drew).drew;have hBX:Boxed ((W.setCell ⟨w.heap.size,x.1.1 * 2,none⟩ (.int .i64 x.1.2.2.rc.seq)).setCell ⟨w.heap.size,x.1.1 * 2 + 1,none⟩ (.int .i64 x.1.2.2.rc.seq)).drew.drew (w.heap.size + 1) 116 (.slice (some ⟨w.heap.size,0,none⟩) 4 4):=(hW.block (w.heap.size + 1) (by omega)).trans bV1;have hRW:Row ((W.setCell ⟨w.heap.size,x.1.1 * 2,none⟩ (.int .i64 x.1.2.2.rc.seq)).setCell ⟨w.heap.size,x.1.1 * 2 + 1,none⟩ (.int .i64 x.1.2.2.rc.seq)).drew.drew (some ⟨w.heap.size,0,none⟩) (spv (spOf ((pre ++ [x]).map Subtype.val))):=(HROW.out _ hW).drew.drew;clear hW HROW
          gi_wp2
          exact ⟨((((KeepsOthers.setCell _ _ _).trans (KeepsOthers.setCell _ _ _)).trans (KeepsOthers.drew _)).trans (KeepsOthers.drew _)).from _,hBL,⟨hBX,hRW⟩,hB1.trans hBL⟩
        go_simp;refine hK _ _ ?_;clear hK K;try simp only [Act.put,jj]
        refine wpAny_ready (rs:=[4]) (by kernel_rfl) (by simp) ?_;refine AllReady.cons rfl (fun K hK=>?_) AllReady.nil;go_simp;refine hK _ _ ?_;clear hK K;try simp only [Act.put,jj]
        refine tC 8 ?_;try simp only [Act.put,jj]
        refine tC 9 ?_;try simp only [Act.put,jj]
        refine tC 10 ?_;try simp only [Act.put,jj]
        refine wpAny_ready (rs:=[11]) (by kernel_rfl) (by simp) ?_;refine AllReady.cons rfl (fun K hK=>?_) AllReady.nil;go_simp;refine hK _ _ ?_;clear hK K;try simp only [Act.put,jj]
        refine wpAny_done (by kernel_rfl) ?_ _;simp only [xd];have hW:xt W ((W.setCell ⟨w.heap.size,x.1.1 * 2,none⟩ (.int .i64 x.1.2.2.rc.seq)).setCell ⟨w.heap.size,x.1.1 * 2 + 1,none⟩ (.int .i64 x.1.2.2.rc.seq)) w.heap.size (x.1.1 * 2) (Spn (Zh sp x.1.2.2.rc.seq,max sp.2 x.1.2.2.rc.seq)):=by
         rw [hlo.out,hmv.out];exact zp w.heap.size [.int .i64 x.1.2.2.rc.seq, .int .i64 x.1.2.2.rc.seq] (x.1.1 * 2) W (fun j hj=>by
          match j,hj with
          | 0,_=>exact ⟨_,l0⟩
          | 1,_=>exact ⟨_,l1⟩)
        have hBL:Below w.heap.size W ((W.setCell ⟨w.heap.size,x.1.1 * 2,none⟩ (.int .i64 x.1.2.2.rc.seq)).setCell ⟨w.heap.size,x.1.1 * 2 + 1,none⟩ (.int .i64 x.1.2.2.rc.seq)).drew.drew:=((((Below.refl w.heap.size W).setCell (p:=⟨w.heap.size,x.1.1 * 2,none⟩) nl (.int .i64 x.1.2.2.rc.seq)).setCell (p:=⟨w.heap.size,x.1.1 * 2 + 1,none⟩) nl (.int .i64 x.1.2.2.rc.seq)).drew).drew;have hBX:Boxed ((W.setCell ⟨w.heap.size,x.1.1 * 2,none⟩ (.int .i64 x.1.2.2.rc.seq)).setCell ⟨w.heap.size,x.1.1 * 2 + 1,none⟩ (.int .i64 x.1.2.2.rc.seq)).drew.drew (w.heap.size + 1) 116 (.slice (some ⟨w.heap.size,0,none⟩) 4 4):=(hW.block (w.heap.size + 1) (by omega)).trans bV1;have hRW:Row ((W.setCell ⟨w.heap.size,x.1.1 * 2,none⟩ (.int .i64 x.1.2.2.rc.seq)).setCell ⟨w.heap.size,x.1.1 * 2 + 1,none⟩ (.int .i64 x.1.2.2.rc.seq)).drew.drew (some ⟨w.heap.size,0,none⟩) (spv (spOf ((pre ++ [x]).map Subtype.val))):=(HROW.out _ hW).drew.drew;clear hW HROW
        gi_wp2
        exact ⟨((((KeepsOthers.setCell _ _ _).trans (KeepsOthers.setCell _ _ _)).trans (KeepsOthers.drew _)).trans (KeepsOthers.drew _)).from _,hBL,⟨hBX,hRW⟩,hB1.trans hBL⟩
      have hmv:Hid (max sp.2 x.1.2.2.rc.seq = sp.2):=by unfold Hid;omega
      refine jo (by kernel_rfl) (by kernel_rfl) ?_;refine tC 0 ?_;try simp only [Act.put,jj]
      refine tC 1 ?_;try simp only [Act.put,jj]
      refine tC 2 ?_;try simp only [Act.put,jj]
      refine tC 3 ?_;try simp only [Act.put,jj]
      refine tC 5 ?_;try simp only [Act.put,jj]
      refine tC 6 ?_;try simp only [Act.put,jj]
      refine wpAny_ready (rs:=[4,7]) (by kernel_rfl) (by simp) ?_;refine AllReady.cons rfl (fun K hK=>?_) (AllReady.cons rfl (fun K hK=>?_) AllReady.nil)
      . go_simp;refine hK _ _ ?_;clear hK K;try simp only [Act.put,jj]
        refine wpAny_ready (rs:=[7]) (by kernel_rfl) (by simp) ?_;refine AllReady.cons rfl (fun K hK=>?_) AllReady.nil;go_simp;refine hK _ _ ?_;clear hK K;try simp only [Act.put,jj]
        refine tC 8 ?_;try simp only [Act.put,jj]
        refine tC 9 ?_;try simp only [Act.put,jj]
        refine tC 10 ?_;try simp only [Act.put,jj]
        refine wpAny_ready (rs:=[11]) (by kernel_rfl) (by simp) ?_;refine AllReady.cons rfl (fun K hK=>?_) AllReady.nil;go_simp;refine hK _ _ ?_;clear hK K;try simp only [Act.put,jj]
        refine wpAny_done (by kernel_rfl) ?_ _;simp only [xd];have hW:xt W ((W.setCell ⟨w.heap.size,x.1.1 * 2,none⟩ (.int .i64 x.1.2.2.rc.seq)).setCell ⟨w.heap.size,x.1.1 * 2 + 1,none⟩ (.int .i64 sp.2)) w.heap.size (x.1.1 * 2) (Spn (Zh sp x.1.2.2.rc.seq,max sp.2 x.1.2.2.rc.seq)):=by
         rw [hlo.out,hmv.out];exact zp w.heap.size [.int .i64 x.1.2.2.rc.seq, .int .i64 sp.2] (x.1.1 * 2) W (fun j hj=>by
          match j,hj with
          | 0,_=>exact ⟨_,l0⟩
          | 1,_=>exact ⟨_,l1⟩)
        have hBL:Below w.heap.size W ((W.setCell ⟨w.heap.size,x.1.1 * 2,none⟩ (.int .i64 x.1.2.2.rc.seq)).setCell ⟨w.heap.size,x.1.1 * 2 + 1,none⟩ (.int .i64 sp.2)).drew.drew:=((((Below.refl w.heap.size W).setCell (p:=⟨w.heap.size,x.1.1 * 2,none⟩) nl (.int .i64 x.1.2.2.rc.seq)).setCell (p:=⟨w.heap.size,x.1.1 * 2 + 1,none⟩) nl (.int .i64 sp.2)).drew).drew;have hBX:Boxed ((W.setCell ⟨w.heap.size,x.1.1 * 2,none⟩ (.int .i64 x.1.2.2.rc.seq)).setCell ⟨w.heap.size,x.1.1 * 2 + 1,none⟩ (.int .i64 sp.2)).drew.drew (w.heap.size + 1) 116 (.slice (some ⟨w.heap.size,0,none⟩) 4 4):=(hW.block (w.heap.size + 1) (by omega)).trans bV1;have hRW:Row ((W.setCell ⟨w.heap.size,x.1.1 * 2,none⟩ (.int .i64 x.1.2.2.rc.seq)).setCell ⟨w.heap.size,x.1.1 * 2 + 1,none⟩ (.int .i64 sp.2)).drew.drew (some ⟨w.heap.size,0,none⟩) (spv (spOf ((pre ++ [x]).map Subtype.val))):=(HROW.out _ hW).drew.drew;clear hW HROW
        gi_wp2
        exact ⟨((((KeepsOthers.setCell _ _ _).trans (KeepsOthers.setCell _ _ _)).trans (KeepsOthers.drew _)).trans (KeepsOthers.drew _)).from _,hBL,⟨hBX,hRW⟩,hB1.trans hBL⟩
      go_simp;refine hK _ _ ?_;clear hK K;try simp only [Act.put,jj]
      refine wpAny_ready (rs:=[4]) (by kernel_rfl) (by simp) ?_;refine AllReady.cons rfl (fun K hK=>?_) AllReady.nil;go_simp;refine hK _ _ ?_;clear hK K;try simp only [Act.put,jj]
      refine tC 8 ?_;try simp only [Act.put,jj]
      refine tC 9 ?_;try simp only [Act.put,jj]
      refine tC 10 ?_;try simp only [Act.put,jj]
      refine wpAny_ready (rs:=[11]) (by kernel_rfl) (by simp) ?_;refine AllReady.cons rfl (fun K hK=>?_) AllReady.nil;go_simp;refine hK _ _ ?_;clear hK K;try simp only [Act.put,jj]
      refine wpAny_done (by kernel_rfl) ?_ _;simp only [xd];have hW:xt W ((W.setCell ⟨w.heap.size,x.1.1 * 2,none⟩ (.int .i64 x.1.2.2.rc.seq)).setCell ⟨w.heap.size,x.1.1 * 2 + 1,none⟩ (.int .i64 sp.2)) w.heap.size (x.1.1 * 2) (Spn (Zh sp x.1.2.2.rc.seq,max sp.2 x.1.2.2.rc.seq)):=by
       rw [hlo.out,hmv.out];exact zp w.heap.size [.int .i64 x.1.2.2.rc.seq, .int .i64 sp.2] (x.1.1 * 2) W (fun j hj=>by
        match j,hj with
        | 0,_=>exact ⟨_,l0⟩
        | 1,_=>exact ⟨_,l1⟩)
      have hBL:Below w.heap.size W ((W.setCell ⟨w.heap.size,x.1.1 * 2,none⟩ (.int .i64 x.1.2.2.rc.seq)).setCell ⟨w.heap.size,x.1.1 * 2 + 1,none⟩ (.int .i64 sp.2)).drew.drew:=((((Below.refl w.heap.size W).setCell (p:=⟨w.heap.size,x.1.1 * 2,none⟩) nl (.int .i64 x.1.2.2.rc.seq)).setCell (p:=⟨w.heap.size,x.1.1 * 2 + 1,none⟩) nl (.int .i64 sp.2)).drew).drew;have hBX:Boxed ((W.setCell ⟨w.heap.size,x.1.1 * 2,none⟩ (.int .i64 x.1.2.2.rc.seq)).setCell ⟨w.heap.size,x.1.1 * 2 + 1,none⟩ (.int .i64 sp.2)).drew.drew (w.heap.size + 1) 116 (.slice (some ⟨w.heap.size,0,none⟩) 4 4):=(hW.block (w.heap.size + 1) (by omega)).trans bV1;have hRW:Row ((W.setCell ⟨w.heap.size,x.1.1 * 2,none⟩ (.int .i64 x.1.2.2.rc.seq)).setCell ⟨w.heap.size,x.1.1 * 2 + 1,none⟩ (.int .i64 sp.2)).drew.drew (some ⟨w.heap.size,0,none⟩) (spv (spOf ((pre ++ [x]).map Subtype.val))):=(HROW.out _ hW).drew.drew;clear hW HROW
      gi_wp2
      exact ⟨((((KeepsOthers.setCell _ _ _).trans (KeepsOthers.setCell _ _ _)).trans (KeepsOthers.drew _)).trans (KeepsOthers.drew _)).from _,hBL,⟨hBX,hRW⟩,hB1.trans hBL⟩
    have hlo:Hid (Zh sp x.1.2.2.rc.seq = sp.1):=by unfold Hid Zh;rw [if_neg (by rintro (h | h);exact hz h;exact hq h)]
    gi_wp2
    refine yw (S:=fun w'=>w'.cell? ⟨w.heap.size,x.1.1 * 2,none⟩ = some (.int .i64 sp.1)∧w'.cell? ⟨B5,2,none⟩ = some (.int .i64 x.1.2.2.rc.seq)) (by kernel_rfl) (by kernel_rfl) ⟨l0,x2⟩ (fun hHeld=>?_);refine tA 0 hHeld ?_;try simp only [Act.put,jj]
    refine tA 1 hHeld ?_;try simp only [Act.put,jj]
    refine tA 2 hHeld ?_;try simp only [Act.put,jj]
    refine tA 3 hHeld ?_;try simp only [Act.put,jj]
    refine tA 4 hHeld ?_;try simp only [Act.put,jj]
    refine tA 5 hHeld ?_;try simp only [Act.put,jj]
    refine tA 6 hHeld ?_;try simp only [Act.put,jj]
    refine tA 7 hHeld ?_;try simp only [Act.put,jj]
    refine tA 8 hHeld ?_;try simp only [Act.put,jj]
    refine tA 9 hHeld ?_;try simp only [Act.put,jj]
    refine tA 10 hHeld ?_;try simp only [Act.put,jj]
    refine tA 11 hHeld ?_;try simp only [Act.put,jj]
    refine tA 12 hHeld ?_;try simp only [Act.put,jj]
    refine tA 13 hHeld ?_;try simp only [Act.put,jj]
    refine tA 14 hHeld ?_;try simp only [Act.put,jj]
    refine wpAnyH_done (by kernel_rfl) ?_ _;simp only [xd]
    gi_wp2
    by_cases hmx:sp.2 < x.1.2.2.rc.seq
    . have hmv:Hid (max sp.2 x.1.2.2.rc.seq = x.1.2.2.rc.seq):=by unfold Hid;omega
      refine jo (by kernel_rfl) (by kernel_rfl) ?_;refine tC 0 ?_;try simp only [Act.put,jj]
      refine tC 1 ?_;try simp only [Act.put,jj]
      refine tC 2 ?_;try simp only [Act.put,jj]
      refine tC 3 ?_;try simp only [Act.put,jj]
      refine tC 5 ?_;try simp only [Act.put,jj]
      refine tC 6 ?_;try simp only [Act.put,jj]
      refine wpAny_ready (rs:=[4,7]) (by kernel_rfl) (by simp) ?_;refine AllReady.cons rfl (fun K hK=>?_) (AllReady.cons rfl (fun K hK=>?_) AllReady.nil)
      . go_simp;refine hK _ _ ?_;clear hK K;try simp only [Act.put,jj]
        refine wpAny_ready (rs:=[7]) (by kernel_rfl) (by simp) ?_;refine AllReady.cons rfl (fun K hK=>?_) AllReady.nil;go_simp;refine hK _ _ ?_;clear hK K;try simp only [Act.put,jj]
        refine tC 8 ?_;try simp only [Act.put,jj]
        refine tC 9 ?_;try simp only [Act.put,jj]
        refine tC 10 ?_;try simp only [Act.put,jj]
        refine wpAny_ready (rs:=[11]) (by kernel_rfl) (by simp) ?_;refine AllReady.cons rfl (fun K hK=>?_) AllReady.nil;go_simp;refine hK _ _ ?_;clear hK K;try simp only [Act.put,jj]
        refine wpAny_done (by kernel_rfl) ?_ _;simp only [xd];have hW:xt W (W.setCell ⟨w.heap.size,x.1.1 * 2 + 1,none⟩ (.int .i64 x.1.2.2.rc.seq)) w.heap.size (x.1.1 * 2) (Spn (Zh sp x.1.2.2.rc.seq,max sp.2 x.1.2.2.rc.seq)):=by
         rw [hlo.out,hmv.out];exact (zq l1 (.int .i64 x.1.2.2.rc.seq)).less l0
        have hBL:Below w.heap.size W (W.setCell ⟨w.heap.size,x.1.1 * 2 + 1,none⟩ (.int .i64 x.1.2.2.rc.seq)).drew.drew:=(((Below.refl w.heap.size W).setCell (p:=⟨w.heap.size,x.1.1 * 2 + 1,none⟩) nl (.int .i64 x.1.2.2.rc.seq)).drew).drew;have hBX:Boxed (W.setCell ⟨w.heap.size,x.1.1 * 2 + 1,none⟩ (.int .i64 x.1.2.2.rc.seq)).drew.drew (w.heap.size + 1) 116 (.slice (some ⟨w.heap.size,0,none⟩) 4 4):=(hW.block (w.heap.size + 1) (by omega)).trans bV1;have hRW:Row (W.setCell ⟨w.heap.size,x.1.1 * 2 + 1,none⟩ (.int .i64 x.1.2.2.rc.seq)).drew.drew (some ⟨w.heap.size,0,none⟩) (spv (spOf ((pre ++ [x]).map Subtype.val))):=(HROW.out _ hW).drew.drew;clear hW HROW
        gi_wp2
        exact ⟨(((KeepsOthers.setCell _ _ _).trans (KeepsOthers.drew _)).trans (KeepsOthers.drew _)).from _,hBL,⟨hBX,hRW⟩,hB1.trans hBL⟩
      go_simp;refine hK _ _ ?_;clear hK K;try simp only [Act.put,jj]
      refine wpAny_ready (rs:=[4]) (by kernel_rfl) (by simp) ?_;refine AllReady.cons rfl (fun K hK=>?_) AllReady.nil;go_simp;refine hK _ _ ?_;clear hK K;try simp only [Act.put,jj]
      refine tC 8 ?_;try simp only [Act.put,jj]
      refine tC 9 ?_;try simp only [Act.put,jj]
      refine tC 10 ?_;try simp only [Act.put,jj]
      refine wpAny_ready (rs:=[11]) (by kernel_rfl) (by simp) ?_;refine AllReady.cons rfl (fun K hK=>?_) AllReady.nil;go_simp;refine hK _ _ ?_;clear hK K;try simp only [Act.put,jj]
      refine wpAny_done (by kernel_rfl) ?_ _;simp only [xd];have hW:xt W (W.setCell ⟨w.heap.size,x.1.1 * 2 + 1,none⟩ (.int .i64 x.1.2.2.rc.seq)) w.heap.size (x.1.1 * 2) (Spn (Zh sp x.1.2.2.rc.seq,max sp.2 x.1.2.2.rc.seq)):=by
       rw [hlo.out,hmv.out];exact (zq l1 (.int .i64 x.1.2.2.rc.seq)).less l0
      have hBL:Below w.heap.size W (W.setCell ⟨w.heap.size,x.1.1 * 2 + 1,none⟩ (.int .i64 x.1.2.2.rc.seq)).drew.drew:=(((Below.refl w.heap.size W).setCell (p:=⟨w.heap.size,x.1.1 * 2 + 1,none⟩) nl (.int .i64 x.1.2.2.rc.seq)).drew).drew;have hBX:Boxed (W.setCell ⟨w.heap.size,x.1.1 * 2 + 1,none⟩ (.int .i64 x.1.2.2.rc.seq)).drew.drew (w.heap.size + 1) 116 (.slice (some ⟨w.heap.size,0,none⟩) 4 4):=(hW.block (w.heap.size + 1) (by omega)).trans bV1;have hRW:Row (W.setCell ⟨w.heap.size,x.1.1 * 2 + 1,none⟩ (.int .i64 x.1.2.2.rc.seq)).drew.drew (some ⟨w.heap.size,0,none⟩) (spv (spOf ((pre ++ [x]).map Subtype.val))):=(HROW.out _ hW).drew.drew;clear hW HROW
      gi_wp2
      exact ⟨(((KeepsOthers.setCell _ _ _).trans (KeepsOthers.drew _)).trans (KeepsOthers.drew _)).from _,hBL,⟨hBX,hRW⟩,hB1.trans hBL⟩
    have hmv:Hid (max sp.2 x.1.2.2.rc.seq = sp.2):=by unfold Hid;omega
    refine jo (by kernel_rfl) (by kernel_rfl) ?_;refine tC 0 ?_;try simp only [Act.put,jj]
    refine tC 1 ?_;try simp only [Act.put,jj]
    refine tC 2 ?_;try simp only [Act.put,jj]
    refine tC 3 ?_;try simp only [Act.put,jj]
    refine tC 5 ?_;try simp only [Act.put,jj]
    refine tC 6 ?_;try simp only [Act.put,jj]
    refine wpAny_ready (rs:=[4,7]) (by kernel_rfl) (by simp) ?_;refine AllReady.cons rfl (fun K hK=>?_) (AllReady.cons rfl (fun K hK=>?_) AllReady.nil)
    . go_simp;refine hK _ _ ?_;clear hK K;try simp only [Act.put,jj]
      refine wpAny_ready (rs:=[7]) (by kernel_rfl) (by simp) ?_;refine AllReady.cons rfl (fun K hK=>?_) AllReady.nil;go_simp;refine hK _ _ ?_;clear hK K;try simp only [Act.put,jj]
      refine tC 8 ?_;try simp only [Act.put,jj]
      refine tC 9 ?_;try simp only [Act.put,jj]
      refine tC 10 ?_;try simp only [Act.put,jj]
      refine wpAny_ready (rs:=[11]) (by kernel_rfl) (by simp) ?_;refine AllReady.cons rfl (fun K hK=>?_) AllReady.nil;go_simp;refine hK _ _ ?_;clear hK K;try simp only [Act.put,jj]
      refine wpAny_done (by kernel_rfl) ?_ _;simp only [xd];have hW:xt W (W.setCell ⟨w.heap.size,x.1.1 * 2 + 1,none⟩ (.int .i64 sp.2)) w.heap.size (x.1.1 * 2) (Spn (Zh sp x.1.2.2.rc.seq,max sp.2 x.1.2.2.rc.seq)):=by
       rw [hlo.out,hmv.out];exact (zq l1 (.int .i64 sp.2)).less l0
      have hBL:Below w.heap.size W (W.setCell ⟨w.heap.size,x.1.1 * 2 + 1,none⟩ (.int .i64 sp.2)).drew.drew:=(((Below.refl w.heap.size W).setCell (p:=⟨w.heap.size,x.1.1 * 2 + 1,none⟩) nl (.int .i64 sp.2)).drew).drew;have hBX:Boxed (W.setCell ⟨w.heap.size,x.1.1 * 2 + 1,none⟩ (.int .i64 sp.2)).drew.drew (w.heap.size + 1) 116 (.slice (some ⟨w.heap.size,0,none⟩) 4 4):=(hW.block (w.heap.size + 1) (by omega)).trans bV1;have hRW:Row (W.setCell ⟨w.heap.size,x.1.1 * 2 + 1,none⟩ (.int .i64 sp.2)).drew.drew (some ⟨w.heap.size,0,none⟩) (spv (spOf ((pre ++ [x]).map Subtype.val))):=(HROW.out _ hW).drew.drew;clear hW HROW
      gi_wp2
      exact ⟨(((KeepsOthers.setCell _ _ _).trans (KeepsOthers.drew _)).trans (KeepsOthers.drew _)).from _,hBL,⟨hBX,hRW⟩,hB1.trans hBL⟩
    go_simp;refine hK _ _ ?_;clear hK K;try simp only [Act.put,jj]
    refine wpAny_ready (rs:=[4]) (by kernel_rfl) (by simp) ?_;refine AllReady.cons rfl (fun K hK=>?_) AllReady.nil;go_simp;refine hK _ _ ?_;clear hK K;try simp only [Act.put,jj]
    refine tC 8 ?_;try simp only [Act.put,jj]
    refine tC 9 ?_;try simp only [Act.put,jj]
    refine tC 10 ?_;try simp only [Act.put,jj]
    refine wpAny_ready (rs:=[11]) (by kernel_rfl) (by simp) ?_;refine AllReady.cons rfl (fun K hK=>?_) AllReady.nil;go_simp;refine hK _ _ ?_;clear hK K;try simp only [Act.put,jj]
    refine wpAny_done (by kernel_rfl) ?_ _;simp only [xd];have hW:xt W (W.setCell ⟨w.heap.size,x.1.1 * 2 + 1,none⟩ (.int .i64 sp.2)) w.heap.size (x.1.1 * 2) (Spn (Zh sp x.1.2.2.rc.seq,max sp.2 x.1.2.2.rc.seq)):=by
     rw [hlo.out,hmv.out];exact (zq l1 (.int .i64 sp.2)).less l0
    have hBL:Below w.heap.size W (W.setCell ⟨w.heap.size,x.1.1 * 2 + 1,none⟩ (.int .i64 sp.2)).drew.drew:=(((Below.refl w.heap.size W).setCell (p:=⟨w.heap.size,x.1.1 * 2 + 1,none⟩) nl (.int .i64 sp.2)).drew).drew;have hBX:Boxed (W.setCell ⟨w.heap.size,x.1.1 * 2 + 1,none⟩ (.int .i64 sp.2)).drew.drew (w.heap.size + 1) 116 (.slice (some ⟨w.heap.size,0,none⟩) 4 4):=(hW.block (w.heap.size + 1) (by omega)).trans bV1;have hRW:Row (W.setCell ⟨w.heap.size,x.1.1 * 2 + 1,none⟩ (.int .i64 sp.2)).drew.drew (some ⟨w.heap.size,0,none⟩) (spv (spOf ((pre ++ [x]).map Subtype.val))):=(HROW.out _ hW).drew.drew;clear hW HROW
    gi_wp2
    exact ⟨(((KeepsOthers.setCell _ _ _).trans (KeepsOthers.drew _)).trans (KeepsOthers.drew _)).from _,hBL,⟨hBX,hRW⟩,hB1.trans hBL⟩
  have h1':(x.1.2.2.state != 1) = true:=by simpa using h1
  gi_wp2
  exact ⟨KeepsFrom.refl _ _,Below.refl _ _,⟨bV1,by rw [hst.out];unfold Zk;rw [if_neg h1];exact hR1⟩,hB1⟩
 case done =>
  rintro D ys W hD hys ⟨⟨bV1,hR1⟩,hB1⟩ hK;have cV:=bV1.cell
  gi_wp2
  refine ⟨by simp, .inl ⟨_,_,rfl,run_takeDeferred hK, ?_⟩⟩;refine ⟨_,results_tmp rfl _ _ _,w.heap.size,rfl,Nat.le_refl _, ?_,hB1.trans (belowK_b (w:=w) nl W D _ _ (by omega) hK rfl rfl)⟩;rw [← hys];exact zgz _ _ w.heap.size () W _ (some D) hR1 (grownBy_putObj' W D _) (fun r e=>by cases e;exact ⟨by omega,_,hK,rfl⟩)
 case stop =>
  rintro D c pre W _ _ h _;exact h.elim
end
section
open Go.RowKit Go.Maps
def xm (b:Bk):Bool:=decide (0 < clean b) && decide (clean b < 4)
theorem X0 (b:Bk) (A:Option Addr) (n c:Nat) (w:World) (hn:n = b.pages.length) (hl:b.pages.length < 1000000000000) (hR:Row w A (pgs b.pages)) :
 Calls Tryz.prog 59 #[.agg #[.slice A n c, .int .i64 b.worn]] w fun e w'=>e = .returned (.bool (xm b))∧Below w.heap.size w w':=by
 subst hn;have hB0:Below w.heap.size w (w.alloc (.cells #[.slice A b.pages.length c, .int .i64 b.worn] 99)):=bw;have hfin:Hid (xm b = (decide (0 < clean b) && decide (clean b < 4))):=rfl
 go_enter Tryz.func59,Tryz.ntmps59
 go_wp2_with fail
 refine (jh b A _ c _ rfl hl (hR.alloc _)).mono ?_;rintro e w1 ⟨rfl,hb⟩;have hB1:=hB0.trans (hb.mono (by simp));generalize clean b = n at *;clear hb;by_cases h0:0 < n
 . have h0':(0:Int) < n:=by omega
   by_cases h4:n < 4
   . have h4':(n:Int) < 4:=by omega
     go_wp2;go_ret;exact ⟨zg (by rw [hfin.out];first | (simp [h0,h4];done) | (simp [h0,h4];omega)),hB1⟩
   have h4':¬ (n:Int) < 4:=by omega
   go_wp2;go_ret;exact ⟨zg (by rw [hfin.out];first | (simp [h0,h4];done) | (simp [h0,h4];omega)),hB1⟩
 have h0':¬ (0:Int) < n:=by omega
 go_wp2;go_ret;exact ⟨zg (by rw [hfin.out];simp [h0]),hB1⟩
end
section
open Go.RowKit Go.Maps
def yh:Nat->List Bk->Option Nat
 | _,[]=>none
 | i,b :: r=>if xm b = true then some i else yh (i + 1) r
def xu (f:List Bk):Nat->Nat->Bool->List Bk->Nat × Bool
 | _,best,found,[]=>(best,found)
 | i,best,found,b :: r=>if clean b = 4∧(found = false∨b.worn < (f.getD best zbk).worn) then xu f (i + 1) i true r else xu f (i + 1) best found r
def Jh (f:List Bk):Int × Bool :=
 match yh 0 f with
 | some i=>((i:Int),true)
 | none=>(((xu f 0 0 false f).1:Int),(xu f 0 0 false f).2)
theorem zab {f:List Bk}:∀ (r:List Bk) (i best:Nat) (found:Bool) (out:Int),(∀ b ∈ r,b.pages.length = 4)->(found = false->best = 0∧out = -1)->(found = true->out = best) ->
 j6 f i out r = match yh i r with
  | some j=>((j:Int),true)
  | none=>(((xu f i best found r).1:Int),(xu f i best found r).2)
 | [], i, best, found, out, _, h1, h2 => by
   cases found
   . obtain ⟨rfl,rfl⟩:=h1 rfl;rfl
   obtain rfl:=h2 rfl;unfold j6 yh xu;simp
 | b :: r, i, best, found, out, hp, h1, h2 => by
   have hc:=X9 (hp b (List.mem_cons_self ..));have hp':∀ c ∈ r,c.pages.length = 4:=fun c hc=>hp c (List.mem_cons_of_mem _ hc);unfold j6 yh xu;by_cases hpt:0 < clean b∧clean b < 4
   . have hpb:xm b = true:=by unfold xm;simp [hpt.1,hpt.2]
     rw [if_pos hpt,if_pos hpb]
   have hpb:¬ xm b = true:=by unfold xm;simpa using hpt
   rw [if_neg hpt,if_neg hpb];by_cases h4:clean b = 4∧(found = false∨b.worn < (f.getD best zbk).worn)
   . have hcond:0 < clean b∧(out < 0∨b.worn < (f.getD out.toNat zbk).worn):=by
      refine ⟨by omega, ?_⟩;cases found
      . obtain ⟨_,rfl⟩:=h1 rfl;exact .inl (by omega)
      obtain rfl:=h2 rfl;rcases h4.2 with h | h
      . cases h
      exact .inr (by rw [Int.toNat_natCast];exact h)
     rw [if_pos hcond,if_pos h4];exact zab r (i + 1) i true i hp' (fun h=>by cases h) (fun _=>rfl)
   have hcond:¬ (0 < clean b∧(out < 0∨b.worn < (f.getD out.toNat zbk).worn)):=by
    rintro ⟨ha,hb⟩;have hcl:clean b = 4:=by omega
    refine h4 ⟨hcl, ?_⟩;cases found
    . exact .inl rfl
    obtain rfl:=h2 rfl;rcases hb with hb | hb
    . omega
    exact .inr (by rw [Int.toNat_natCast] at hb;exact hb)
   rw [if_neg hcond,if_neg h4];exact zab r (i + 1) best found out hp' h1 h2
theorem Qm {f:List Bk} (h:∀ b ∈ f,b.pages.length = 4):jd f = Jh f:=zab f 0 0 false (-1) h (fun _=>⟨rfl,rfl⟩) (fun h=>by cases h)
def Xf (f:List Bk):Int × Bool:=if ze f = true then jd f else (0,false)
theorem zdv (f:List Bk) (A:Option Addr) (n c:Nat) (w:World) (hn:n = f.length) (hF:Fl w A f) :
 Calls Tryz.prog 63 #[.slice A n c] w fun e w'=>e = .returned (.tuple #[.int .i64 (Xf f).1, .bool (Xf f).2])∧Below w.heap.size w w':=by
 subst hn
 go_enter Tryz.func63,Tryz.ntmps63
 go_wp2_with fail
 refine (xh f A c _ hF).mono ?_;rintro e w1 ⟨rfl,hb1⟩;have hF1:=hF.below hb1 nl;by_cases hok:ze f = true
 . have HSH:=Lib.hid (fun b hb=>(zo hok b hb).1);have hfin:Hid (Xf f = Jh f):=by unfold Hid Xf;rw [if_pos hok,Qm HSH.out]
   have HL:=Lib.hid (zh hok);rw [hok];clear hok;obtain ⟨hs,hBk⟩:=hF1;obtain ⟨g,o,rfl⟩:=hBk.addr (by intro e;have:=HL.out;rw [e] at this;simp at this);go_wp2
   go_loopw [15] (fun i wr=>∃ k:Nat,k ≤ f.length∧i = .int .i64 k∧Below w1.heap.size w1 wr∧Hid (yh 0 f = yh k (f.drop k))) (fun i _=>f.length - (intOf i).toNat)
   case atStart=>exact ⟨0,by omega,rfl,Below.refl _ _,rfl⟩
   case round =>
    obtain ⟨k,hk,rfl,hB,hT⟩:=hrel;by_cases hlt:k < f.length
    . obtain ⟨B,hb⟩:=zc hlt;obtain ⟨⟨Z,cz⟩,_,c0,c1,_,_,hR,_⟩:=(hBk.below hB nl).at_ hb;dsimp only at c0 hR;have hpl:B.pages.length < 1000000000000:=by rw [HSH.out B (List.mem_of_getElem? hb)];omega
      have hk1:(k:Int) < f.length:=by omega
      have hl4:=HL.out;have e1:IntKind.i64.wrap ((k:Int) + 1) = (k:Int) + 1:=IntWalk.i64_in _ (by omega);clear hl4;have hT2:Hid (yh 0 f = if xm B = true then some k else yh (k + 1) (f.drop (k + 1))):=by rw [Hid,hT.out,zr hb];rfl
      have hRa:=hR.alloc (.cells #[.slice Z B.pages.length cz, .int .i64 B.worn] 99);have hBa:Below w1.heap.size w1 (wr.alloc (.cells #[.slice Z B.pages.length cz, .int .i64 B.worn] 99)):=hB.alloc hB.size _;have hsz:(wr.alloc (.cells #[.slice Z B.pages.length cz, .int .i64 B.worn] 99)).heap.size = wr.heap.size + 1:=by simp
      clear hb hT;go_wp2_with fail
      refine (X0 B Z _ cz _ rfl hpl hRa).mono ?_;rintro e w2 ⟨rfl,hb2⟩;have hB2:=hBa.trans (hb2.mono (by have:=hB.size;omega));by_cases hpt:xm B = true
      . have h3:Hid (Jh f = ((k:Int),true)):=by rw [Hid];unfold Jh;rw [hT2.out,if_pos hpt]
        rw [hpt];go_wp2
        go_ret2
        exact ⟨by rw [hfin.out,h3.out];rfl,hb1.trans (hB2.mono hb1.size)⟩
      have h3:Hid (yh 0 f = yh (k + 1) (f.drop (k + 1))):=by rw [Hid,hT2.out,if_neg hpt]
      rw [show xm B = false from by simpa using hpt];go_wp2;go_roundw
      (case rel=>exact ⟨k + 1,by omega,by go_num,hB2,h3⟩)
      (case measure=>simp [intOf];omega)
    obtain rfl:k = f.length:=by omega
    have hnone:Hid (Jh f = (((xu f 0 0 false f).1:Int),(xu f 0 0 false f).2)):=by
     rw [Hid];unfold Jh;rw [hT.out,List.drop_of_length_le nl];rfl
    clear hT;have hl4:=HL.out;have hfp:0 < f.length:=by omega
    clear hl4;go_wp2
    go_loopw [6,7,26] (fun q u i wl=>∃ (k m:Nat) (fd:Bool),k ≤ f.length∧m < f.length∧i = .int .i64 k∧q = .int .i64 m∧u = .bool fd∧Below w1.heap.size w1 wl∧Hid (xu f 0 0 false f = xu f k m fd (f.drop k))) (fun _ _ i _=>f.length - (intOf i).toNat)
    case atStart=>exact ⟨0,0,false,by omega,hfp,rfl,rfl,rfl,hB,rfl⟩
    case round =>
     obtain ⟨k,m,fd,hk,hm,rfl,rfl,rfl,hBl,hT⟩:=hrel;by_cases hlt:k < f.length
     . obtain ⟨B,hb⟩:=zc hlt;obtain ⟨Bm,hbm⟩:=zc hm;have hBkl:=hBk.below hBl nl;obtain ⟨⟨Z,cz⟩,_,c0,c1,_,_,hR,_⟩:=hBkl.at_ hb;obtain ⟨_,_,_,m1,_⟩:=hBkl.at_ hbm;dsimp only at c0 hR;have hpl:B.pages.length < 1000000000000:=by rw [HSH.out B (List.mem_of_getElem? hb)];omega
       have hcl:=X9 (HSH.out B (List.mem_of_getElem? hb));have hgm:f.getD m zbk = Bm:=by rw [List.getD_eq_getElem?_getD,hbm];rfl
       have hT2:Hid (xu f 0 0 false f = if clean B = 4∧(fd = false∨B.worn < Bm.worn) then xu f (k + 1) k true (f.drop (k + 1)) else xu f (k + 1) m fd (f.drop (k + 1))):=by rw [Hid,hT.out,zr hb,xu,hgm]
       have hk1:(k:Int) < f.length:=by omega
       have hm1:(m:Int) < f.length:=by omega
       clear hb hbm hgm hT hBkl;have hl4:=HL.out;have e1:IntKind.i64.wrap ((k:Int) + 1) = (k:Int) + 1:=IntWalk.i64_in _ (by omega);clear hl4;have hnw:=Row.new wr #[.slice Z B.pages.length cz, .int .i64 B.worn] 99;obtain ⟨y0,_⟩:=hnw.at0 (j:=0) rfl;obtain ⟨y1,_⟩:=hnw.at0 (j:=1) rfl;have l9:wr.heap.size < (wr.alloc (.cells #[.slice Z B.pages.length cz, .int .i64 B.worn] 99)).heap.size:=by simp
       have lg0:=zd m1;have y2:(wr.alloc (.cells #[.slice Z B.pages.length cz, .int .i64 B.worn] 99)).cell? ⟨g,o + m * 2 + 1,none⟩ = some (.int .i64 Bm.worn):=(((Below.refl wr.heap.size wr).alloc nl _).cell (p:=⟨g,o + m * 2 + 1,none⟩) lg0).trans m1;have lg:g < (wr.alloc (.cells #[.slice Z B.pages.length cz, .int .i64 B.worn] 99)).heap.size:=by omega
       have hRd:=(hR.alloc (.cells #[.slice Z B.pages.length cz, .int .i64 B.worn] 99)).drew;have hBa:Below w1.heap.size w1 (wr.alloc (.cells #[.slice Z B.pages.length cz, .int .i64 B.worn] 99)):=hBl.alloc hBl.size _;have hsz:=hBa.size;clear hnw;by_cases hq:clean B = 4
       . have HQ:=Lib.hid hq;cases fd
         . have h3:Hid (xu f 0 0 false f = xu f (k + 1) k true (f.drop (k + 1))):=by rw [Hid,hT2.out,if_pos ⟨hq, .inl rfl⟩]
           clear hq;go_wp2;refine wp_region_held_drew (S:=(fun w'=>w'.cell? ⟨wr.heap.size,0,none⟩ = some (.slice Z B.pages.length cz)∧w'.cell? ⟨wr.heap.size,1,none⟩ = some (.int .i64 B.worn)∧w'.cell? ⟨g,o + m * 2 + 1,none⟩ = some (.int .i64 Bm.worn))) (by kernel_rfl) ⟨y0,y1,y2⟩ (fun hHeld=>?_);refine tA 0 hHeld ?_;try simp only [Act.put,jj]
           refine wpAnyH_ready (rs:=[1]) (by kernel_rfl) (by simp) ?_;refine AllReadyH.cons rfl (fun K hK=>?_) AllReadyH.nil;go_simp;refine (jh B Z _ cz _ rfl hpl hRd).mono ?_;rw [HQ.out];rintro e w10 ⟨rfl,hb10⟩;replace hb10:=Xr hb10;go_wp2_with fail
           refine hK.out _ _ ⟨(hb10.cell (p:=⟨wr.heap.size,0,none⟩) l9).trans y0,(hb10.cell (p:=⟨wr.heap.size,1,none⟩) l9).trans y1,(hb10.cell (p:=⟨g,o + m * 2 + 1,none⟩) lg).trans y2⟩ (fun hHeld2=>?_);clear hK K;try simp only [Act.put,jj]
           refine tA 2 hHeld2 ?_;try simp only [Act.put,jj]
           refine tA 3 hHeld2 ?_;try simp only [Act.put,jj]
           refine tA 4 hHeld2 ?_;try simp only [Act.put,jj]
           refine tA 5 hHeld2 ?_;try simp only [Act.put,jj]
           refine tA 6 hHeld2 ?_;try simp only [Act.put,jj]
           refine tB 7 hHeld2 ?_;try simp only [Act.put,jj]
           refine tB 8 hHeld2 ?_;try simp only [Act.put,jj]
           refine tB 9 hHeld2 ?_;try simp only [Act.put,jj]
           refine tB 10 hHeld2 ?_;try simp only [Act.put,jj]
           refine tB 11 hHeld2 ?_;try simp only [Act.put,jj]
           refine tB 12 hHeld2 ?_;try simp only [Act.put,jj]
           refine tB 13 hHeld2 ?_;try simp only [Act.put,jj]
           refine tB 14 hHeld2 ?_;try simp only [Act.put,jj]
           refine tA 15 hHeld2 ?_;try simp only [Act.put,jj]
           refine tA 16 hHeld2 ?_;try simp only [Act.put,jj]
           refine wpAnyH_done (by kernel_rfl) ?_ _;have hB10:=hBa.trans (hb10.mono hsz);clear y0 y1 y2 hb10;go_wp2;go_roundw
           (case rel=>exact ⟨k + 1,k,true,by omega,by omega,by go_num,rfl,rfl,hB10,h3⟩)
           (case measure=>simp [intOf];omega)
         by_cases hwn:B.worn < Bm.worn
         . have h3:Hid (xu f 0 0 false f = xu f (k + 1) k true (f.drop (k + 1))):=by rw [Hid,hT2.out,if_pos ⟨hq, .inr hwn⟩]
           clear hq;go_wp2;refine wp_region_held_drew (S:=(fun w'=>w'.cell? ⟨wr.heap.size,0,none⟩ = some (.slice Z B.pages.length cz)∧w'.cell? ⟨wr.heap.size,1,none⟩ = some (.int .i64 B.worn)∧w'.cell? ⟨g,o + m * 2 + 1,none⟩ = some (.int .i64 Bm.worn))) (by kernel_rfl) ⟨y0,y1,y2⟩ (fun hHeld=>?_);refine tA 0 hHeld ?_;try simp only [Act.put,jj]
           refine wpAnyH_ready (rs:=[1]) (by kernel_rfl) (by simp) ?_;refine AllReadyH.cons rfl (fun K hK=>?_) AllReadyH.nil;go_simp;refine (jh B Z _ cz _ rfl hpl hRd).mono ?_;rw [HQ.out];rintro e w10 ⟨rfl,hb10⟩;replace hb10:=Xr hb10;go_wp2_with fail
           refine hK.out _ _ ⟨(hb10.cell (p:=⟨wr.heap.size,0,none⟩) l9).trans y0,(hb10.cell (p:=⟨wr.heap.size,1,none⟩) l9).trans y1,(hb10.cell (p:=⟨g,o + m * 2 + 1,none⟩) lg).trans y2⟩ (fun hHeld2=>?_);clear hK K;try simp only [Act.put,jj]
           refine tA 2 hHeld2 ?_;try simp only [Act.put,jj]
           refine tA 3 hHeld2 ?_;try simp only [Act.put,jj]
           refine tA 4 hHeld2 ?_;try simp only [Act.put,jj]
           refine tA 5 hHeld2 ?_;try simp only [Act.put,jj]
           refine tA 6 hHeld2 ?_;try simp only [Act.put,jj]
           refine tA 7 hHeld2 ?_;try simp only [Act.put,jj]
           refine tA 8 hHeld2 ?_;try simp only [Act.put,jj]
           refine tA 9 hHeld2 ?_;try simp only [Act.put,jj]
           refine tA 10 hHeld2 ?_;try simp only [Act.put,jj]
           refine tA 11 hHeld2 ?_;try simp only [Act.put,jj]
           refine tA 12 hHeld2 ?_;try simp only [Act.put,jj]
           refine tA 13 hHeld2 ?_;try simp only [Act.put,jj]
           refine tA 14 hHeld2 ?_;try simp only [Act.put,jj]
           refine tA 15 hHeld2 ?_;try simp only [Act.put,jj]
           refine tA 16 hHeld2 ?_;try simp only [Act.put,jj]
           refine wpAnyH_done (by kernel_rfl) ?_ _;have hB10:=hBa.trans (hb10.mono hsz);clear y0 y1 y2 hb10;go_wp2;go_roundw
           (case rel=>exact ⟨k + 1,k,true,by omega,by omega,by go_num,rfl,rfl,hB10,h3⟩)
           (case measure=>simp [intOf];omega)
         have h3:Hid (xu f 0 0 false f = xu f (k + 1) m true (f.drop (k + 1))):=by rw [Hid,hT2.out,if_neg (by rintro ⟨_,h | h⟩;cases h;exact hwn h)]
         clear hq;go_wp2;refine wp_region_held_drew (S:=(fun w'=>w'.cell? ⟨wr.heap.size,0,none⟩ = some (.slice Z B.pages.length cz)∧w'.cell? ⟨wr.heap.size,1,none⟩ = some (.int .i64 B.worn)∧w'.cell? ⟨g,o + m * 2 + 1,none⟩ = some (.int .i64 Bm.worn))) (by kernel_rfl) ⟨y0,y1,y2⟩ (fun hHeld=>?_);refine tA 0 hHeld ?_;try simp only [Act.put,jj]
         refine wpAnyH_ready (rs:=[1]) (by kernel_rfl) (by simp) ?_;refine AllReadyH.cons rfl (fun K hK=>?_) AllReadyH.nil;go_simp;refine (jh B Z _ cz _ rfl hpl hRd).mono ?_;rw [HQ.out];rintro e w10 ⟨rfl,hb10⟩;replace hb10:=Xr hb10;go_wp2_with fail
         refine hK.out _ _ ⟨(hb10.cell (p:=⟨wr.heap.size,0,none⟩) l9).trans y0,(hb10.cell (p:=⟨wr.heap.size,1,none⟩) l9).trans y1,(hb10.cell (p:=⟨g,o + m * 2 + 1,none⟩) lg).trans y2⟩ (fun hHeld2=>?_);clear hK K;try simp only [Act.put,jj]
         refine tA 2 hHeld2 ?_;try simp only [Act.put,jj]
         refine tA 3 hHeld2 ?_;try simp only [Act.put,jj]
         refine tA 4 hHeld2 ?_;try simp only [Act.put,jj]
         refine tA 5 hHeld2 ?_;try simp only [Act.put,jj]
         refine tA 6 hHeld2 ?_;try simp only [Act.put,jj]
         refine tA 7 hHeld2 ?_;try simp only [Act.put,jj]
         refine tA 8 hHeld2 ?_;try simp only [Act.put,jj]
         refine tA 9 hHeld2 ?_;try simp only [Act.put,jj]
         refine tA 10 hHeld2 ?_;try simp only [Act.put,jj]
         refine tA 11 hHeld2 ?_;try simp only [Act.put,jj]
         refine tA 12 hHeld2 ?_;try simp only [Act.put,jj]
         refine tA 13 hHeld2 ?_;try simp only [Act.put,jj]
         refine tA 14 hHeld2 ?_;try simp only [Act.put,jj]
         refine tA 15 hHeld2 ?_;try simp only [Act.put,jj]
         refine tA 16 hHeld2 ?_;try simp only [Act.put,jj]
         refine wpAnyH_done (by kernel_rfl) ?_ _;have hB10:=hBa.trans (hb10.mono hsz);clear y0 y1 y2 hb10;go_wp2;go_roundw
         (case rel=>exact ⟨k + 1,m,true,by omega,hm,by go_num,rfl,rfl,hB10,h3⟩)
         (case measure=>simp [intOf];omega)
       have h3:Hid (xu f 0 0 false f = xu f (k + 1) m fd (f.drop (k + 1))):=by rw [Hid,hT2.out,if_neg (fun h=>hq h.1)]
       have e4:((clean B:Int) == 4) = false:=by rw [beq_eq_false_iff_ne];omega
       clear hq;go_wp2;refine wp_region_held_drew (S:=(fun w'=>w'.cell? ⟨wr.heap.size,0,none⟩ = some (.slice Z B.pages.length cz)∧w'.cell? ⟨wr.heap.size,1,none⟩ = some (.int .i64 B.worn)∧w'.cell? ⟨g,o + m * 2 + 1,none⟩ = some (.int .i64 Bm.worn))) (by kernel_rfl) ⟨y0,y1,y2⟩ (fun hHeld=>?_);refine tA 0 hHeld ?_;try simp only [Act.put,jj]
       refine wpAnyH_ready (rs:=[1]) (by kernel_rfl) (by simp) ?_;refine AllReadyH.cons rfl (fun K hK=>?_) AllReadyH.nil;go_simp;refine (jh B Z _ cz _ rfl hpl hRd).mono ?_;rintro e w10 ⟨rfl,hb10⟩;replace hb10:=Xr hb10;go_wp2_with fail
       refine hK.out _ _ ⟨(hb10.cell (p:=⟨wr.heap.size,0,none⟩) l9).trans y0,(hb10.cell (p:=⟨wr.heap.size,1,none⟩) l9).trans y1,(hb10.cell (p:=⟨g,o + m * 2 + 1,none⟩) lg).trans y2⟩ (fun hHeld2=>?_);clear hK K;try simp only [Act.put,jj]
       refine tA 2 hHeld2 ?_;try simp only [Act.put,jj]
       refine tA 3 hHeld2 ?_;try simp only [Act.put,jj]
       refine tB 4 hHeld2 ?_;try simp only [Act.put,jj]
       refine tB 5 hHeld2 ?_;try simp only [Act.put,jj]
       refine tB 6 hHeld2 ?_;try simp only [Act.put,jj]
       refine tB 7 hHeld2 ?_;try simp only [Act.put,jj]
       refine tB 8 hHeld2 ?_;try simp only [Act.put,jj]
       refine tB 9 hHeld2 ?_;try simp only [Act.put,jj]
       refine tB 10 hHeld2 ?_;try simp only [Act.put,jj]
       refine tB 11 hHeld2 ?_;try simp only [Act.put,jj]
       refine tB 12 hHeld2 ?_;try simp only [Act.put,jj]
       refine tB 13 hHeld2 ?_;try simp only [Act.put,jj]
       refine tB 14 hHeld2 ?_;try simp only [Act.put,jj]
       refine tB 15 hHeld2 ?_;try simp only [Act.put,jj]
       refine tA 16 hHeld2 ?_;try simp only [Act.put,jj]
       refine wpAnyH_done (by kernel_rfl) ?_ _;have hB10:=hBa.trans (hb10.mono hsz);clear y0 y1 y2 hb10;go_wp2;go_roundw
       (case rel=>exact ⟨k + 1,m,fd,by omega,hm,by go_num,rfl,rfl,hB10,h3⟩)
       (case measure=>simp [intOf];omega)
     obtain rfl:k = f.length:=by omega
     have h3:Hid (xu f 0 0 false f = (m,fd)):=by rw [Hid,hT.out,List.drop_of_length_le nl];rfl
     go_wp2
     go_ret2
     exact ⟨by rw [hfin.out,hnone.out,h3.out];rfl,hb1.trans (hBl.mono hb1.size)⟩
 have hok':ze f = false:=by simpa using hok
 have hfin:Hid (Xf f = (0,false)):=by unfold Hid Xf;rw [if_neg hok]
 rw [hok'];go_wp2
 go_ret2
 exact ⟨by rw [hfin.out];rfl,hb1⟩
end
section
open Go.RowKit Go.Maps
def hiGo (ss:List Span):Nat->Nat->List Span->Nat
 | _,old,[]=>old
 | i,old,s :: r=>if s.2 < (ss.getD old (0,0)).2 then hiGo ss (i + 1) i r else hiGo ss (i + 1) old r
def Xg (f:List Bk):Int:=if ze f = true then (hiGo (spOf (zl 0 f)) 0 0 (spOf (zl 0 f)):Nat) else -1
theorem zfm (f:List Bk) (A:Option Addr) (n c:Nat) (w:World) (hn:n = f.length) (hF:Fl w A f) :
 Calls Tryz.prog 64 #[.slice A n c] w fun e w'=>e = .returned (.int .i64 (Xg f))∧Below w.heap.size w w':=by
 subst hn
 go_enter Tryz.func64,Tryz.ntmps64
 go_wp2_with fail
 refine (xh f A c _ hF).mono ?_;rintro e w1 ⟨rfl,hb1⟩;by_cases hok:ze f = true
 . have HSH:=Lib.hid (fun b hb=>(zo hok b hb).1);have HL:=Lib.hid (zh hok);have hfin:Hid (Xg f = (hiGo (spOf (zl 0 f)) 0 0 (spOf (zl 0 f)):Nat)):=by unfold Hid Xg;rw [if_pos hok]
   have hln:=zdd (zl 0 f);rw [hok];clear hok;obtain ⟨hs,hBk⟩:=hF;obtain ⟨g,o,rfl⟩:=hBk.addr (by intro e;have:=HL.out;rw [e] at this;simp at this);have hlow:∀ b,fblk (some ⟨g,o,none⟩) hs b->b < w1.heap.size:=fun b hb=>by
    have h4:=HL.out;have hs1:=hb1.size;rcases hb with hb | ⟨i,x,hx,hb⟩
    . rw [zf] at hb;subst hb;obtain ⟨B,hB⟩:=zc (l:=f) (k:=0) (by omega);obtain ⟨_,_,c0,_⟩:=hBk.at_ hB;have:=zd c0;omega
    obtain ⟨B,hB⟩:=zc (l:=f) (k:=i) (by rw [← hBk.len];exact (List.getElem?_eq_some_iff.1 hx).1);have hr:=(hBk.pg i B x hB hx).1;have hB4:=HSH.out B (List.mem_of_getElem? hB);obtain ⟨b',o',he,hc⟩:=hr (ky (by intro e;rw [e] at hB4;simp at hB4));rw [he,zf] at hb;subst hb;obtain ⟨q,hq⟩:=zc (l:=pgs B.pages) (k:=0) (by rw [qh];omega);have:=zd (hc 0 q hq).1;omega
   have hcall:=Y0 f hs g o c _ HL.out HSH.out (hBk.below hb1 nl) hlow;rw [← HL.out] at hcall;go_wp2_with fail
   refine hcall.mono ?_;clear hcall;rw [HL.out];rintro e w2 ⟨sb,rfl,hsb,hR,hb2⟩;generalize spOf (zl 0 f) = ss at *;have HLN:=Lib.hid hln;have hB2:=hb1.trans (hb2.mono hb1.size);clear hln hb2 hlow hBk;go_wp2
   go_loopw [3,14] (fun q i wr=>∃ k m:Nat,k ≤ 4∧m < 4∧i = .int .i64 k∧q = .int .i64 m∧Below w2.heap.size w2 wr∧Hid (hiGo ss 0 0 ss = hiGo ss k m (ss.drop k))) (fun _ i _=>4 - (intOf i).toNat)
   case atStart=>exact ⟨0,0,by omega,by omega,rfl,rfl,Below.refl _ _,rfl⟩
   case round =>
    obtain ⟨k,m,hk,hm,rfl,rfl,hB,hT⟩:=hrel;have hRk:=hR.below hB nl;by_cases hlt:k < 4
    . obtain ⟨s,hsk⟩:=zc (l:=ss) (k:=k) (by rw [HLN.out];exact hlt);obtain ⟨sm,hsm⟩:=zc (l:=ss) (k:=m) (by rw [HLN.out];exact hm);obtain ⟨a0,a1,_,_⟩:=hRk.span hsk;obtain ⟨_,m1,_,_⟩:=hRk.span hsm;have hgm:ss.getD m (0,0) = sm:=by rw [List.getD_eq_getElem?_getD,hsm];rfl
      have hT2:Hid (hiGo ss 0 0 ss = if s.2 < sm.2 then hiGo ss (k + 1) k (ss.drop (k + 1)) else hiGo ss (k + 1) m (ss.drop (k + 1))):=by rw [Hid,hT.out,zr hsk,hiGo,hgm]
      have hk1:(k:Int) < 4:=by omega
      have hm1:(m:Int) < 4:=by omega
      have hBa:=fun (o:Obj)=>hB.alloc hB.size o;have lb:=zd m1;have y1:(wr.alloc (.cells #[.int .i64 s.1, .int .i64 s.2] 119)).cell? ⟨sb,m * 2 + 1,none⟩ = some (.int .i64 sm.2):=(((Below.refl wr.heap.size wr).alloc nl _).cell (p:=⟨sb,m * 2 + 1,none⟩) lb).trans m1;clear hsk hsm hgm hT hRk;by_cases hh:s.2 < sm.2
      . have h3:Hid (hiGo ss 0 0 ss = hiGo ss (k + 1) k (ss.drop (k + 1))):=by rw [Hid,hT2.out,if_pos hh]
        go_wp2;go_quiet (fail);have hBq:Below w2.heap.size w2 ((wr.alloc (.cells #[.int .i64 s.1, .int .i64 s.2] 119)).drewN nq):=(hBa _).trans ⟨rfl,rfl,rfl,Nat.le_refl _,fun _ _=>rfl⟩;go_wp2;go_roundw
        (case rel=>exact ⟨k + 1,k,by omega,by omega,by go_num,rfl,hBq,h3⟩)
        (case measure=>simp [intOf];omega)
      have h3:Hid (hiGo ss 0 0 ss = hiGo ss (k + 1) m (ss.drop (k + 1))):=by rw [Hid,hT2.out,if_neg hh]
      go_wp2;go_quiet (fail);have hBq:Below w2.heap.size w2 ((wr.alloc (.cells #[.int .i64 s.1, .int .i64 s.2] 119)).drewN nq):=(hBa _).trans ⟨rfl,rfl,rfl,Nat.le_refl _,fun _ _=>rfl⟩;go_wp2;go_roundw
      (case rel=>exact ⟨k + 1,m,by omega,by omega,by go_num,rfl,hBq,h3⟩)
      (case measure=>simp [intOf];omega)
    obtain rfl:k = 4:=by omega
    have h3:Hid (hiGo ss 0 0 ss = m):=by rw [Hid,hT.out,List.drop_of_length_le (by rw [HLN.out];omega)];rfl
    go_wp2;go_ret;exact ⟨qg (by rw [hfin.out,h3.out]),hB2.trans (hB.mono hB2.size)⟩
 have hok':ze f = false:=by simpa using hok
 have hfin:Hid (Xg f = -1):=by unfold Hid Xg;rw [if_neg hok]
 rw [hok'];go_wp2;go_ret;exact ⟨qg (by rw [hfin.out]),hb1⟩
end
section
def kh (a b:Span):Bool:=decide (0 < a.2) && (decide (0 < b.2) && (decide (b.1 ≤ a.2) && decide (a.1 ≤ b.2)))
def Xp (ss:List Span):Nat->Int->List Span->Option Int
 | _,n,[]=>some n
 | i,n,a :: r=>if (ss.take i).any (kh a) = true then none else Xp ss (i + 1) (max n a.2) r
def yc (ss:List Span) (n:Int):Nat->Nat->List Bk->Bool
 | _,c,[]=>decide (c ≤ 1)
 | i,c,b :: r=>if xm b = true then (if 0 < (ss.getD i (0,0)).2∧(ss.getD i (0,0)).2 < n then false else yc ss n (i + 1) (c + 1) r) else yc ss n (i + 1) c r
def ordI (ss:List Span) (f:List Bk):Bool:=match Xp ss 0 0 ss with
 | none=>false
 | some n=>yc ss n 0 0 f
def z6 (f:List Bk):Bool:=if ze f = true then ordI (spOf (zl 0 f)) f else false
def bad1 (i k:Nat) (a b:Bk):Bool:=decide (i ≠ k) && (decide (0 < most a) && (decide (0 < most b) && (decide (ku a < most b) && decide (ku b < most a))))
def bad2 (i k:Nat) (a b:Bk):Bool:=decide (i ≠ k) && (xm a && (xm b || (decide (0 < most a) && decide (most a < most b))))
def yq (i:Nat) (a:Bk):Nat->List Bk->Bool
 | _,[]=>true
 | k,b :: r=>if bad1 i k a b = true∨bad2 i k a b = true then false else yq i a (k + 1) r
def qm (f:List Bk):Nat->List Bk->Bool
 | _,[]=>true
 | i,a :: r=>if yq i a 0 f = true then qm f (i + 1) r else false
def j8 (f:List Bk):Bool:=if ze f = true then qm f 0 f else false
end
section
open Go.RowKit Go.Maps
theorem zbp (f:List Bk) (A:Option Addr) (n c:Nat) (w:World) (hn:n = f.length) (hF:Fl w A f) :
 Calls Tryz.prog 31 #[.slice A n c] w fun e w'=>e = .returned (.bool (z6 f))∧Below w.heap.size w w':=by
 subst hn
 go_enter Tryz.func31,Tryz.ntmps31
 go_wp2_with fail
 refine (xh f A c _ hF).mono ?_;rintro e w1 ⟨rfl,hb1⟩;by_cases hok:ze f = true
 . have HSH:=Lib.hid (fun b hb=>(zo hok b hb).1);have HL:=Lib.hid (zh hok);have hfin:Hid (z6 f = ordI (spOf (zl 0 f)) f):=by unfold Hid z6;rw [if_pos hok]
   have hln:=zdd (zl 0 f);rw [hok];clear hok;obtain ⟨hs,hBk⟩:=hF;obtain ⟨g,o,rfl⟩:=hBk.addr (by intro e;have:=HL.out;rw [e] at this;simp at this);have hlow:∀ b,fblk (some ⟨g,o,none⟩) hs b->b < w1.heap.size:=fun b hb=>by
    have h4:=HL.out;have hs1:=hb1.size;rcases hb with hb | ⟨i,x,hx,hb⟩
    . rw [zf] at hb;subst hb;obtain ⟨B,hB⟩:=zc (l:=f) (k:=0) (by omega);obtain ⟨_,_,c0,_⟩:=hBk.at_ hB;have:=zd c0;omega
    obtain ⟨B,hB⟩:=zc (l:=f) (k:=i) (by rw [← hBk.len];exact (List.getElem?_eq_some_iff.1 hx).1);have hr:=(hBk.pg i B x hB hx).1;have hB4:=HSH.out B (List.mem_of_getElem? hB);obtain ⟨b',o',he,hc⟩:=hr (ky (by intro e;rw [e] at hB4;simp at hB4));rw [he,zf] at hb;subst hb;obtain ⟨q,hq⟩:=zc (l:=pgs B.pages) (k:=0) (by rw [qh];omega);have:=zd (hc 0 q hq).1;omega
   have hcall:=Y0 f hs g o c _ HL.out HSH.out (hBk.below hb1 nl) hlow;rw [← HL.out] at hcall;go_wp2_with fail
   refine hcall.mono ?_;clear hcall;rw [HL.out];rintro e w2 ⟨sb,rfl,hsb,hR,hb2⟩;generalize spOf (zl 0 f) = ss at *;have HLN:=Lib.hid hln;have hB2:=hb1.trans (hb2.mono hb1.size);have hBk2:=hBk.below hB2 nl;have hs2:=hb2.size;clear hln hb2 hlow hBk;go_wp2
   go_loopw [4,19] (fun q i wr=>∃ (k:Nat) (m:Int),k ≤ 4∧i = .int .i64 k∧q = .int .i64 m∧Below w2.heap.size w2 wr∧Hid (Xp ss 0 0 ss = Xp ss k m (ss.drop k))) (fun _ i _=>4 - (intOf i).toNat)
   case atStart=>exact ⟨0,0,by omega,rfl,rfl,Below.refl _ _,rfl⟩
   case round =>
    obtain ⟨k,m,hk,rfl,rfl,hB,hT⟩:=hrel;by_cases hlt:k < 4
    . obtain ⟨s,hsk⟩:=zc (l:=ss) (k:=k) (by rw [HLN.out];exact hlt);have hRk:=hR.below hB nl;obtain ⟨a0,a1,_,_⟩:=hRk.span hsk;have hT2:Hid (Xp ss 0 0 ss = if (ss.take k).any (kh s) = true then none else Xp ss (k + 1) (max m s.2) (ss.drop (k + 1))):=by rw [Hid,hT.out,zr hsk,Xp]
      obtain ⟨wo,rfl⟩:∃ wo:World,wo = wr:=⟨_,rfl⟩;have hk1:(k:Int) < 4:=by omega
      have hk4:(k:Int) ≤ 4:=by omega
      have hBa:Below w2.heap.size w2 (wo.alloc (.cells #[.int .i64 s.1, .int .i64 s.2] 119)):=hB.alloc hB.size _;have hsz:(wo.alloc (.cells #[.int .i64 s.1, .int .i64 s.2] 119)).heap.size = wo.heap.size + 1:=by simp
      have p0:(wo.alloc (.cells #[.int .i64 s.1, .int .i64 s.2] 119)).cell? ⟨wo.heap.size,0,none⟩ = some (.int .i64 s.1):=by simp [go_sem]
      have p1:(wo.alloc (.cells #[.int .i64 s.1, .int .i64 s.2] 119)).cell? ⟨wo.heap.size,1,none⟩ = some (.int .i64 s.2):=by simp [go_sem]
      clear hsk hT hRk;rcases Int.lt_or_le m s.2 with hmx | hmx
      case' inl=>have hT3:Hid (Xp ss 0 0 ss = if (ss.take k).any (kh s) = true then none else Xp ss (k + 1) s.2 (ss.drop (k + 1))):=by rw [Hid,hT2.out,Int.max_eq_right (by omega)]
      case' inr=>have hT3:Hid (Xp ss 0 0 ss = if (ss.take k).any (kh s) = true then none else Xp ss (k + 1) m (ss.drop (k + 1))):=by rw [Hid,hT2.out,Int.max_eq_left (by omega)]
      all_goals
       clear hT2;go_wp2
       go_loopw [32] (fun i wl=>∃ j:Nat,j ≤ k∧i = .int .i64 j∧Below w2.heap.size w2 wl∧wo.heap.size < wl.heap.size∧wl.cell? ⟨wo.heap.size,0,none⟩ = some (.int .i64 s.1)∧wl.cell? ⟨wo.heap.size,1,none⟩ = some (.int .i64 s.2)∧Hid (∀ t ∈ ss.take j,kh s t = false)) (fun i _=>k - (intOf i).toNat)
       case atStart=>exact ⟨0,by omega,rfl,hBa,by omega,p0,p1,by rw [Hid];simp⟩
       case round =>
        obtain ⟨j,hj,rfl,hBl,hlt2,q0,q1,hU⟩:=hrel;by_cases hjk:j < k
        . obtain ⟨t,htj⟩:=zc (l:=ss) (k:=j) (by rw [HLN.out];omega);obtain ⟨b0,b1,_,_⟩:=(hR.below hBl nl).span htj;have hjk1:(j:Int) < k:=by omega
          have hBb:=hBl.alloc hBl.size (.cells #[.int .i64 t.1, .int .i64 t.2] 119);have r0:(wr.alloc (.cells #[.int .i64 t.1, .int .i64 t.2] 119)).cell? ⟨wo.heap.size,0,none⟩ = some (.int .i64 s.1):=(((Below.refl wr.heap.size wr).alloc nl _).cell (p:=⟨wo.heap.size,0,none⟩) hlt2).trans q0;have r1:(wr.alloc (.cells #[.int .i64 t.1, .int .i64 t.2] 119)).cell? ⟨wo.heap.size,1,none⟩ = some (.int .i64 s.2):=(((Below.refl wr.heap.size wr).alloc nl _).cell (p:=⟨wo.heap.size,1,none⟩) hlt2).trans q1;have hgt:wo.heap.size < (wr.alloc (.cells #[.int .i64 t.1, .int .i64 t.2] 119)).heap.size:=by simp;omega
          have hcl:kh s t = false->Hid (∀ t ∈ ss.take (j + 1),kh s t = false):=fun hc t' ht'=>by
           rw [List.take_add_one,htj] at ht';rcases List.mem_append.1 ht' with h | h
           . exact hU.out t' h
           simp at h;rw [h];exact hc
          have HCL:=Lib.hid hcl;have hhit:kh s t = true->Hid (Xp ss 0 0 ss = none):=fun hc=>by
           rw [Hid,hT3.out,if_pos];rw [List.any_eq_true];exact ⟨t,List.mem_iff_getElem?.2 ⟨j,by rw [List.getElem?_take,if_pos hjk];exact htj⟩,hc⟩
          have HHIT:=Lib.hid hhit;clear hcl hhit htj hU p0 p1 q0 q1 hmx;by_cases h1:0 < s.2
          . by_cases h2:0 < t.2
            . by_cases h3:t.1 ≤ s.2
              . by_cases h4:s.1 ≤ t.2
                . have hx:=HHIT.out (by simp [kh,h1,h2,h3,h4]);go_wp2;go_ret;exact ⟨zg (by rw [hfin.out];unfold ordI;rw [hx.out]),hB2.trans (hBb.mono hB2.size)⟩
                have hx:=HCL.out (by simp [kh,h4]);go_wp2;go_roundw
                (case rel=>exact ⟨j + 1,by omega,by go_num,hBb,hgt,r0,r1,hx⟩)
                (case measure=>simp [intOf];omega)
              have hx:=HCL.out (by simp [kh,h3]);go_wp2;go_roundw
              (case rel=>exact ⟨j + 1,by omega,by go_num,hBb,hgt,r0,r1,hx⟩)
              (case measure=>simp [intOf];omega)
            have hx:=HCL.out (by simp [kh,h2]);go_wp2;go_roundw
            (case rel=>exact ⟨j + 1,by omega,by go_num,hBb,hgt,r0,r1,hx⟩)
            (case measure=>simp [intOf];omega)
          have hx:=HCL.out (by simp [kh,h1]);go_wp2;go_roundw
          (case rel=>exact ⟨j + 1,by omega,by go_num,hBb,hgt,r0,r1,hx⟩)
          (case measure=>simp [intOf];omega)
        obtain rfl:j = k:=by omega
        have hx:(ss.take j).any (kh s) = false:=by
         rw [List.any_eq_false];exact fun t ht=>by rw [hU.out t ht];simp
        have hT4:=hT3.out;rw [if_neg (by rw [hx];simp)] at hT4;replace hT4:=Lib.hid hT4;clear hx hT3;go_wp2;go_roundw
        (case rel=>exact ⟨j + 1,_,by omega,by go_num,rfl,hBl,hT4⟩)
        (case measure=>simp [intOf];omega)
    have hk4:(4:Int) ≤ (k:Int):=by omega
    have h3:Hid (Xp ss 0 0 ss = some m):=by rw [Hid,hT.out,List.drop_of_length_le (by rw [HLN.out];omega)];rfl
    have hfin2:Hid (z6 f = yc ss m 0 0 f):=by rw [Hid,hfin.out,ordI,h3.out]
    clear hT h3;have hf4:=HL.out;have hBz:=hB;obtain ⟨wo,rfl⟩:∃ wo:World,wo = wr:=⟨_,rfl⟩;go_wp2
    go_loopw [9,62] (fun q i wl=>∃ k c:Nat,k ≤ 4∧c ≤ k∧i = .int .i64 k∧q = .int .i64 c∧Below w2.heap.size w2 wl∧Hid (yc ss m 0 0 f = yc ss m k c (f.drop k))) (fun _ i _=>4 - (intOf i).toNat)
    case atStart=>exact ⟨0,0,by omega,by omega,rfl,rfl,hBz,rfl⟩
    case round =>
     obtain ⟨k,n,hk,hn,rfl,rfl,hB,hT⟩:=hrel;by_cases hlt:k < 4
     . obtain ⟨B,hb⟩:=zc (l:=f) (k:=k) (by omega);obtain ⟨s,hsk⟩:=zc (l:=ss) (k:=k) (by rw [HLN.out];exact hlt);have hgs:ss.getD k (0,0) = s:=by rw [List.getD_eq_getElem?_getD,hsk];rfl
       obtain ⟨⟨Z,cz⟩,_,c0,c1,_,_,hRz,_⟩:=(hBk2.below hB nl).at_ hb;dsimp only at c0 hRz;have hpl:B.pages.length < 1000000000000:=by rw [HSH.out B (List.mem_of_getElem? hb)];omega
       have hk1:(k:Int) < 4:=by omega
       have hT2:Hid (yc ss m 0 0 f = if xm B = true then (if 0 < s.2∧s.2 < m then false else yc ss m (k + 1) (n + 1) (f.drop (k + 1))) else yc ss m (k + 1) n (f.drop (k + 1))):=by rw [Hid,hT.out,zr hb,yc,hgs]
       have hRa:=hRz.alloc (.cells #[.slice Z B.pages.length cz, .int .i64 B.worn] 99);have hBa:Below w2.heap.size w2 (wr.alloc (.cells #[.slice Z B.pages.length cz, .int .i64 B.worn] 99)):=hB.alloc hB.size _;have hsz:(wr.alloc (.cells #[.slice Z B.pages.length cz, .int .i64 B.worn] 99)).heap.size = wr.heap.size + 1:=by simp
       clear hb hT hgs hRz;go_wp2_with fail
       refine (X0 B Z _ cz _ rfl hpl hRa).mono ?_;rintro e w3 ⟨rfl,hb3⟩;have hB3:=hBa.trans (hb3.mono (by have:=hB.size;omega));obtain ⟨_,a1,_,_⟩:=(hR.below hB3 nl).span hsk;clear hsk hb3 hBa hRa;by_cases hpt:xm B = true
       . have hT3:=hT2.out;rw [if_pos hpt] at hT3;replace hT3:=Lib.hid hT3;rw [hpt];clear hpt hT2;by_cases h1:0 < s.2
         . by_cases h2:s.2 < m
           . have hx:=hT3.out;rw [if_pos ⟨h1,h2⟩] at hx;replace hx:=Lib.hid hx;clear hT3;go_wp2;go_ret;exact ⟨zg (by rw [hfin2.out,hx.out]),hB2.trans (hB3.mono hB2.size)⟩
           have hx:=hT3.out;rw [if_neg (fun h=>h2 h.2)] at hx;replace hx:=Lib.hid hx;clear hT3;go_wp2;go_roundw
           (case rel=>exact ⟨k + 1,n + 1,by omega,by omega,by go_num,by go_num,hB3,hx⟩)
           (case measure=>simp [intOf];omega)
         have hx:=hT3.out;rw [if_neg (fun h=>h1 h.1)] at hx;replace hx:=Lib.hid hx;clear hT3;go_wp2;go_roundw
         (case rel=>exact ⟨k + 1,n + 1,by omega,by omega,by go_num,by go_num,hB3,hx⟩)
         (case measure=>simp [intOf];omega)
       have hx:=hT2.out;rw [if_neg hpt] at hx;replace hx:=Lib.hid hx;rw [show xm B = false from by simpa using hpt];clear hT2 hpt;go_wp2;go_roundw
       (case rel=>exact ⟨k + 1,n,by omega,by omega,by go_num,rfl,hB3,hx⟩)
       (case measure=>simp [intOf];omega)
     obtain rfl:k = 4:=by omega
     have hx:Hid (yc ss m 0 0 f = decide (n ≤ 1)):=by rw [Hid,hT.out,List.drop_of_length_le (by omega)];rfl
     have hz:decide ((n:Int) ≤ 1) = decide (n ≤ 1):=by rw [decide_eq_decide];omega
     replace hz:=Lib.hid hz;clear hT;go_wp2;go_ret;exact ⟨zg (by rw [hfin2.out,hx.out];exact hz.out),hB2.trans (hB.mono hB2.size)⟩
 have hok':ze f = false:=by simpa using hok
 have hfin:Hid (z6 f = false):=by unfold Hid z6;rw [if_neg hok]
 rw [hok'];go_wp2;go_ret;exact ⟨zg (by rw [hfin.out]),hb1⟩
end
section
open Go.RowKit Go.Maps
theorem Kv:∀ {r:List Bk} {i j:Nat},yh i r = some j->∃ m b,j = i + m∧r[m]? = some b∧xm b = true
 | [],_,_,h=>by simp [yh] at h
 | b :: r, i, j, h => by
   unfold yh at h;split at h
   . rename_i hp;cases h;exact ⟨0,b,rfl,rfl,hp⟩
   obtain ⟨m,c,h1,h2,h3⟩:=Kv h;exact ⟨m + 1,c,by omega,by simpa using h2,h3⟩
theorem Kw:∀ {r:List Bk} {i:Nat},yh i r = none->∀ b ∈ r,xm b = false
 | [],_,_=>by simp
 | b :: r, i, h => by
   unfold yh at h;split at h
   . cases h
   rename_i hp;intro c hc;rcases List.mem_cons.1 hc with rfl | hc
   . simpa using hp
   exact Kw h c hc
theorem zbc {f:List Bk}:∀ {r:List Bk} {i best j:Nat} {fd:Bool},xu f i best fd r = (j,true)->(fd = true∧j = best)∨∃ m b,j = i + m∧r[m]? = some b∧clean b = 4
 | [], _, _, _, _, h => by
   unfold xu at h;cases h;exact .inl ⟨rfl,rfl⟩
 | b :: r, i, best, j, fd, h => by
   unfold xu at h;split at h
   . rename_i hc;rcases zbc h with ⟨_,rfl⟩ | ⟨m,c,h1,h2,h3⟩
     . exact .inr ⟨0,b,rfl,rfl,hc.1⟩
     exact .inr ⟨m + 1,c,by omega,by simpa using h2,h3⟩
   rcases zbc h with h | ⟨m,c,h1,h2,h3⟩
   . exact .inl h
   exact .inr ⟨m + 1,c,by omega,by simpa using h2,h3⟩
theorem Yi {f:List Bk}:∀ {r:List Bk} {i best j:Nat} {fd:Bool},xu f i best fd r = (j,false)->fd = false∧∀ b ∈ r,clean b ≠ 4
 | [], _, _, _, _, h => by
   unfold xu at h;cases h;exact ⟨rfl,by simp⟩
 | b :: r, i, best, j, fd, h => by
   unfold xu at h;split at h
   . exact absurd (Yi h).1 (by simp)
   rename_i hc;obtain ⟨h1,h2⟩:=Yi h;refine ⟨h1,fun c hcm=>?_⟩;rcases List.mem_cons.1 hcm with rfl | hcm
   . exact fun h4=>hc ⟨h4, .inl h1⟩
   exact h2 c hcm
theorem zns {b:Bk} (h:xm b = true):0 < clean b:=by unfold xm at h;simp at h;exact h.1
theorem zlh {f:List Bk} (h:(Jh f).2 = true):∃ (m:Nat) (b:Bk),(Jh f).1 = (m:Int)∧f[m]? = some b∧0 < clean b:=by
 unfold Jh at h ⊢;cases hp:yh 0 f with
 | some j =>
   obtain ⟨m,b,h1,h2,h3⟩:=Kv hp;have:j = m:=by omega
   subst this;exact ⟨j,b,rfl,h2,zns h3⟩
 | none =>
   rw [hp] at h;dsimp only at h ⊢;have he:xu f 0 0 false f = ((xu f 0 0 false f).1,true):=by rw [← h]
   rcases zbc he with ⟨hc,_⟩ | ⟨m,b,h1,h2,h3⟩
   . cases hc
   have:(xu f 0 0 false f).1 = m:=by omega
   rw [this];exact ⟨m,b,rfl,h2,by omega⟩
theorem zjq {f:List Bk} (hp4:∀ b ∈ f,b.pages.length = 4) (h:(Jh f).2 = false):∀ b ∈ f,clean b = 0:=by
 unfold Jh at h;cases hp:yh 0 f with
 | some j=>rw [hp] at h;cases h
 | none =>
   rw [hp] at h;dsimp only at h;have he:xu f 0 0 false f = ((xu f 0 0 false f).1,false):=Prod.ext rfl h;have h1:=(Yi he).2;intro b hb;have h2:=Kw hp b hb;have h3:=X9 (hp4 b hb);have h4:=h1 b hb;unfold xm at h2;simp at h2;omega
theorem zmy (n:Int):clean ⟨List.replicate 4 pg0,n⟩ = 4:=by
 show (List.replicate 4 pg0).countP xw = 4;decide
end
section
def spn (b:Bk):Span:=(ku b,most b)
theorem zh5 {α:Type} {d:α}:∀ {l:List α} {i:Nat},i < l.length->l.set i (l.getD i d) = l
 | [],i,h=>by simp at h
 | a :: l,0,_=>by simp
 | a :: l, i + 1, h => by
   rw [List.set_cons_succ];have:=zh5 (d:=d) (l:=l) (i:=i) (by simpa using h)
   simpa using this
theorem zkz:∀ (ps:List Pg) (j i:Nat) (ss:List Span),i < ss.length->(∀ p ∈ ps,zn p = true)->0 ≤ (ss.getD i (0,0)).2 ->
 (kv i j ps).foldl Zk ss = ss.set i (ps.foldl zv (ss.getD i (0,0)).1,jr (ss.getD i (0,0)).2 ps)
 | [], j, i, ss, hi, _, _ => by
   show ss = ss.set i ((ss.getD i (0,0)).1,(ss.getD i (0,0)).2);exact (zh5 hi).symm
 | p :: ps, j, i, ss, hi, hp, h => by
   have ho:=hp p (List.mem_cons_self ..);have hps:=fun q hq=>hp q (List.mem_cons_of_mem _ hq);rw [kv,List.foldl_cons];by_cases h1:p.state = 1
   . have hr:=xx (xk ho h1);have e1:Zk ss (i,j,p) = ss.set i (zv (ss.getD i (0,0)).1 p,max (ss.getD i (0,0)).2 p.rc.seq):=by
      unfold Zk;dsimp only;rw [if_pos h1];congr 2;unfold Zh zv;split
      . rename_i hc;rw [if_pos ⟨by omega,hc⟩]
      rename_i hc;rw [if_neg (fun e=>hc e.2)]
     have hg:(ss.set i (zv (ss.getD i (0,0)).1 p,max (ss.getD i (0,0)).2 p.rc.seq)).getD i (0,0) = (zv (ss.getD i (0,0)).1 p,max (ss.getD i (0,0)).2 p.rc.seq):=by
      rw [List.getD_eq_getElem?_getD,List.getElem?_set_self hi];rfl
     rw [e1,zkz ps (j + 1) i _ (by rw [List.length_set];exact hi) hps (by rw [hg];dsimp only;omega),hg,List.set_set];rfl
   have h0:=Js ho h1;have e1:Zk ss (i,j,p) = ss:=by unfold Zk;dsimp only;rw [if_neg h1]
   have e2:zv (ss.getD i (0,0)).1 p = (ss.getD i (0,0)).1:=by unfold zv;rw [if_neg (by rintro ⟨h,_⟩;omega)]
   have e3:jr (ss.getD i (0,0)).2 (p :: ps) = jr (ss.getD i (0,0)).2 ps:=by
    show jr (max (ss.getD i (0,0)).2 p.rc.seq) ps = _;rw [show max (ss.getD i (0,0)).2 p.rc.seq = (ss.getD i (0,0)).2 by omega]
   rw [e1,zkz ps (j + 1) i ss hi hps h,List.foldl_cons,e2,e3]
theorem zo3:∀ (f:List Bk) (pre:List Span),(∀ b ∈ f,∀ p ∈ b.pages,zn p = true)->(zl pre.length f).foldl Zk (pre ++ List.replicate f.length (0,0)) = pre ++ f.map spn
 | [],pre,_=>rfl
 | b :: f, pre, hp => by
   have hg:(pre ++ List.replicate (f.length + 1) ((0,0):Span)).getD pre.length (0,0) = (0,0):=by
    rw [List.getD_eq_getElem?_getD,List.getElem?_append_right nl];simp
   rw [zl,List.foldl_append,List.length_cons,zkz b.pages 0 pre.length _ (by simp) (hp b (List.mem_cons_self ..)) (by rw [hg];exact Int.le_refl _),hg];have e1:(pre ++ List.replicate (f.length + 1) ((0,0):Span)).set pre.length (b.pages.foldl zv 0,jr 0 b.pages) = (pre ++ [spn b]) ++ List.replicate f.length (0,0):=by
    rw [List.set_append_right _ _ nl,Nat.sub_self,List.replicate_succ,List.set_cons_zero];simp [spn,ku,most]
   have e2:(pre ++ [spn b]).length = pre.length + 1:=by simp
   have ih:=zo3 f (pre ++ [spn b]) (fun c hc=>hp c (List.mem_cons_of_mem _ hc));rw [e2] at ih;dsimp only;rw [e1,ih];simp
theorem zgx {f:List Bk} (h:ze f = true):spOf (zl 0 f) = f.map spn:=by
 have:=zo3 f [] (fun b hb=>(xi h hb).2.2.2);rw [zh h] at this;exact this
theorem zb9 {ss:List Span}:∀ (r:List Span) (i:Nat) (n m:Int),Xp ss i n r = some m ↔ (∀ (k:Nat) (a:Span),r[k]? = some a->∀ (j:Nat) (b:Span),j < i + k->ss[j]? = some b->kh a b = false)∧m = r.foldl (fun n a=>max n a.2) n
 | [], i, n, m => by
   unfold Xp;constructor
   . intro h;cases h;exact ⟨fun k a hk=>by simp at hk,rfl⟩
   rintro ⟨_,rfl⟩;rfl
 | a :: r, i, n, m => by
   unfold Xp;have ht:(ss.take i).any (kh a) = true ↔ ∃ (j:Nat) (b:Span),j < i∧ss[j]? = some b∧kh a b = true:=by
    rw [List.any_eq_true];constructor
    . rintro ⟨b,hb,h⟩;obtain ⟨j,hj⟩:=List.mem_iff_getElem?.1 hb;rw [List.getElem?_take] at hj;split at hj
      . rename_i hlt;exact ⟨j,b,hlt,hj,h⟩
      cases hj
    rintro ⟨j,b,hj,hb,h⟩;exact ⟨b,List.mem_iff_getElem?.2 ⟨j,by rw [List.getElem?_take,if_pos hj];exact hb⟩,h⟩
   by_cases hc:(ss.take i).any (kh a) = true
   . rw [if_pos hc];obtain ⟨j,b,hj,hb,h⟩:=ht.1 hc;constructor
     . intro h;cases h
     rintro ⟨h1,_⟩;have:=h1 0 a rfl j b (by omega) hb;rw [h] at this;cases this
   rw [if_neg hc,zb9 r (i + 1) _ m,List.foldl_cons];constructor
   . rintro ⟨h1,h2⟩;refine ⟨fun k x hk j b hj hb=>?_,h2⟩;cases k with
     | zero =>
       rw [List.getElem?_cons_zero,Option.some.injEq] at hk;subst hk;by_cases hx:kh a b = true
       . exact absurd (ht.2 ⟨j,b,by omega,hb,hx⟩) hc
       simpa using hx
     | succ k=>exact h1 k x (by simpa using hk) j b (by omega) hb
   rintro ⟨h1,h2⟩;exact ⟨fun k x hk j b hj hb=>h1 (k + 1) x (by simpa using hk) j b (by omega) hb,h2⟩
theorem Ku {ss:List Span} {n:Int}:∀ (r:List Bk) (i c:Nat),yc ss n i c r = true ↔ (∀ (k:Nat) (b:Bk),r[k]? = some b->xm b = true->¬ (0 < (ss.getD (i + k) (0,0)).2∧(ss.getD (i + k) (0,0)).2 < n))∧c + r.countP xm ≤ 1
 | [],i,c=>by unfold yc;simp
 | b :: r, i, c => by
   unfold yc;rw [List.countP_cons];by_cases hb:xm b = true
   . rw [if_pos hb,if_pos hb];by_cases hx:0 < (ss.getD i (0,0)).2∧(ss.getD i (0,0)).2 < n
     . rw [if_pos hx];constructor
       . intro h;cases h
       rintro ⟨h1,_⟩;exact absurd hx (h1 0 b rfl hb)
     rw [if_neg hx,Ku r (i + 1) (c + 1)];constructor
     . rintro ⟨h1,h2⟩;refine ⟨fun k x hk hp=>?_,by omega⟩;cases k with
       | zero=>exact hx
       | succ k=>have:=h1 k x (by simpa using hk) hp;rwa [show i + 1 + k = i + (k + 1) by omega] at this
     rintro ⟨h1,h2⟩;exact ⟨fun k x hk hp=>by have:=h1 (k + 1) x (by simpa using hk) hp;rwa [show i + (k + 1) = i + 1 + k by omega] at this,by omega⟩
   rw [if_neg hb,if_neg hb,Ku r (i + 1) c];constructor
   . rintro ⟨h1,h2⟩;refine ⟨fun k x hk hp=>?_,by omega⟩;cases k with
     | zero=>rw [List.getElem?_cons_zero,Option.some.injEq] at hk;subst hk;exact absurd hp hb
     | succ k=>have:=h1 k x (by simpa using hk) hp;rwa [show i + 1 + k = i + (k + 1) by omega] at this
   rintro ⟨h1,h2⟩;exact ⟨fun k x hk hp=>by have:=h1 (k + 1) x (by simpa using hk) hp;rwa [show i + (k + 1) = i + 1 + k by omega] at this,by omega⟩
theorem zf7 {α:Type} {p:α->Bool}:∀ (l:List α),l.countP p ≤ 1 ↔ ∀ (i j:Nat) (a b:α),i ≠ j->l[i]? = some a->l[j]? = some b->p a = true->p b = false
 | []=>by simp
 | x :: l => by
   rw [List.countP_cons];by_cases hx:p x = true
   . rw [if_pos hx];constructor
     . intro h i j a b hij ha hb hp;have h0:l.countP p = 0:=by omega
       rw [List.countP_eq_zero] at h0;cases j with
       | zero =>
         cases i with
         | zero=>exact absurd rfl hij
         | succ i=>exact absurd hp (h0 a (List.mem_of_getElem? (by simpa using ha)))
       | succ j=>simpa using h0 b (List.mem_of_getElem? (by simpa using hb))
     intro h;have h0:l.countP p = 0:=by
      rw [List.countP_eq_zero];intro a ha;obtain ⟨j,hj⟩:=List.mem_iff_getElem?.1 ha;have:=h 0 (j + 1) x a (by omega) rfl (by simpa using hj) hx;rw [this];simp
     omega
   rw [if_neg hx,Nat.add_zero,zf7 l];constructor
   . intro h i j a b hij ha hb hp;cases i with
     | zero=>rw [List.getElem?_cons_zero,Option.some.injEq] at ha;subst ha;exact absurd hp hx
     | succ i =>
       cases j with
       | zero=>rw [List.getElem?_cons_zero,Option.some.injEq] at hb;subst hb;simpa using hx
       | succ j=>exact h i j a b (by omega) (by simpa using ha) (by simpa using hb) hp
   intro h i j a b hij ha hb hp;exact h (i + 1) (j + 1) a b (by omega) (by simpa using ha) (by simpa using hb) hp
structure Ord (f:List Bk):Prop where
 apart:∀ (i j:Nat) (a b:Bk),i ≠ j->f[i]? = some a->f[j]? = some b->0 < most a->0 < most b->¬ (ku a < most b∧ku b < most a)
 begun:∀ (i j:Nat) (a b:Bk),i ≠ j->f[i]? = some a->f[j]? = some b->xm a = true->xm b = false∧(0 < most a->most b ≤ most a)
theorem Je {M:Int}:∀ {f:List Bk} {n:Int},n ≤ M->(∀ b ∈ f,most b ≤ M)->f.foldl (fun n b=>max n (most b)) n ≤ M
 | [],_,h,_=>h
 | b :: f, n, h, hb => by
   rw [List.foldl_cons];exact Je (by have:=hb b (List.mem_cons_self ..);omega) (fun c hc=>hb c (List.mem_cons_of_mem _ hc))
theorem J6:∀ {f:List Bk} {n:Int},n ≤ f.foldl (fun n b=>max n (most b)) n
 | [],n=>Int.le_refl n
 | b :: f, n => by
   rw [List.foldl_cons];have:=J6 (f:=f) (n:=max n (most b));omega
theorem zak {b:Bk}:∀ {f:List Bk} {n:Int},b ∈ f->most b ≤ f.foldl (fun n b=>max n (most b)) n
 | a :: f, n, h => by
   rw [List.foldl_cons];rcases List.mem_cons.1 h with rfl | h
   . have:=J6 (f:=f) (n:=max n (most b));omega
   exact zak h
theorem zbb {f:List Bk} (h:ze f = true) {i j:Nat} {a b:Bk} (hij:i ≠ j) (ha:f[i]? = some a) (hb:f[j]? = some b):kh (spn a) (spn b) = false ↔ ¬ (0 < most a∧0 < most b∧ku a < most b∧ku b < most a):=by
 have pa:=(xi h (List.mem_of_getElem? ha)).2.2.2;have pb:=(xi h (List.mem_of_getElem? hb)).2.2.2;have hn:=((jt f).1 h).2.2;have key:kh (spn a) (spn b) = true ↔ (0 < most a∧0 < most b∧ku a < most b∧ku b < most a):=by
  unfold kh spn;simp only [Bool.and_eq_true,decide_eq_true_iff];constructor
  . rintro ⟨h1,h2,h3,h4⟩;have e1:ku b ≠ most a:=fun e=>yv hn hij ha hb (y8 pa h1) (e ▸ Za pb h2);have e2:ku a ≠ most b:=fun e=>yv hn hij ha hb (Za pa h1) (e ▸ y8 pb h2);exact ⟨h1,h2,by omega,by omega⟩
  rintro ⟨h1,h2,h3,h4⟩;exact ⟨h1,h2,by omega,by omega⟩
 rw [← key];cases kh (spn a) (spn b) <;> simp
theorem y9 {f:List Bk} (h:ze f = true):z6 f = true ↔ Ord f:=by
 have hge:∀ k b,f[k]? = some b->((f.map spn).getD k (0,0)).2 = most b:=fun k b hb=>by rw [List.getD_eq_getElem?_getD,List.getElem?_map,hb];rfl
 have htop:∀ n:Int,(f.map spn).foldl (fun n a=>max n a.2) n = f.foldl (fun n b=>max n (most b)) n:=fun n=>by rw [List.foldl_map];rfl
 have hord:∀ m:Int,Xp (f.map spn) 0 0 (f.map spn) = some m ↔ (∀ (i j:Nat) (a b:Bk),i ≠ j->f[i]? = some a->f[j]? = some b->0 < most a->0 < most b->¬ (ku a < most b∧ku b < most a))∧m = qi f:=fun m=>by
  rw [zb9,htop];unfold qi;constructor
  . rintro ⟨h1,h2⟩;refine ⟨fun i j a b hij ha hb p1 p2 hc=>?_,h2⟩;rcases Nat.lt_or_gt_of_ne hij with hlt | hlt
    . have:=h1 j (spn b) (by rw [List.getElem?_map,hb];rfl) i (spn a) (by omega) (by rw [List.getElem?_map,ha];rfl);exact (zbb h (Ne.symm hij) hb ha).1 this ⟨p2,p1,hc.2,hc.1⟩
    have:=h1 i (spn a) (by rw [List.getElem?_map,ha];rfl) j (spn b) (by omega) (by rw [List.getElem?_map,hb];rfl);exact (zbb h hij ha hb).1 this ⟨p1,p2,hc.1,hc.2⟩
  rintro ⟨h1,h2⟩;refine ⟨fun k x hk j y hj hy=>?_,h2⟩;rw [List.getElem?_map] at hk hy;obtain ⟨a,ha,rfl⟩:=Option.map_eq_some_iff.1 hk;obtain ⟨b,hb,rfl⟩:=Option.map_eq_some_iff.1 hy;exact (zbb h (by omega) ha hb).2 (fun ⟨p1,p2,p3⟩=>h1 k j a b (by omega) ha hb p1 p2 p3)
 unfold z6 ordI;rw [if_pos h,zgx h];have hpart:yc (f.map spn) (qi f) 0 0 f = true ↔ ∀ (i j:Nat) (a b:Bk),i ≠ j->f[i]? = some a->f[j]? = some b->xm a = true->xm b = false∧(0 < most a->most b ≤ most a):=by
  rw [Ku,Nat.zero_add,zf7];constructor
  . rintro ⟨h1,h2⟩ i j a b hij ha hb hp;refine ⟨h2 i j a b hij ha hb hp,fun h0=>?_⟩;have:=h1 i a ha hp;rw [Nat.zero_add,hge i a ha] at this;have h3:most b ≤ qi f:=zak (List.mem_of_getElem? hb);omega
  intro h1;refine ⟨fun k a ha hp=>?_,fun i j a b hij ha hb hp=>(h1 i j a b hij ha hb hp).1⟩;rw [Nat.zero_add,hge k a ha];rintro ⟨h2,h3⟩;have:qi f ≤ most a:=Je (by omega) (fun b hb=>by
   obtain ⟨j,hj⟩:=List.mem_iff_getElem?.1 hb;by_cases hkj:k = j
   . subst hkj;rw [ha,Option.some.injEq] at hj;rw [hj];exact Int.le_refl _
   exact (h1 k j a b hkj ha hj hp).2 h2)
  omega
 cases ho:Xp (f.map spn) 0 0 (f.map spn) with
 | none =>
   constructor
   . intro h;cases h
   intro hO;have:=(hord (qi f)).2 ⟨hO.apart,rfl⟩;rw [ho] at this;cases this
 | some m =>
   obtain ⟨h1,rfl⟩:=(hord m).1 ho;dsimp only;rw [hpart];exact ⟨fun h2=>⟨h1,h2⟩,fun h2=>h2.begun⟩
theorem Jz {i:Nat} {a:Bk}:∀ (r:List Bk) (k:Nat),yq i a k r = true ↔ ∀ (j:Nat) (b:Bk),r[j]? = some b->bad1 i (k + j) a b = false∧bad2 i (k + j) a b = false
 | [],k=>by simp [yq]
 | b :: r, k => by
   unfold yq;by_cases hc:bad1 i k a b = true∨bad2 i k a b = true
   . rw [if_pos hc];constructor
     . intro h;cases h
     intro h;have:=h 0 b rfl;rw [Nat.add_zero] at this;rcases hc with hc | hc
     . rw [this.1] at hc;cases hc
     rw [this.2] at hc;cases hc
   rw [if_neg hc,Jz r (k + 1)];constructor
   . intro h j x hj;cases j with
     | zero =>
       rw [List.getElem?_cons_zero,Option.some.injEq] at hj;subst hj;rw [Nat.add_zero];exact ⟨by simpa using fun e=>hc (.inl e),by simpa using fun e=>hc (.inr e)⟩
     | succ j=>have:=h j x (by simpa using hj);rwa [show k + 1 + j = k + (j + 1) by omega] at this
   intro h j x hj;have:=h (j + 1) x (by simpa using hj)
   rwa [show k + (j + 1) = k + 1 + j by omega] at this
theorem zcv {f:List Bk}:∀ (r:List Bk) (i:Nat),qm f i r = true ↔ ∀ (k:Nat) (a:Bk),r[k]? = some a->yq (i + k) a 0 f = true
 | [],i=>by simp [qm]
 | a :: r, i => by
   unfold qm;by_cases hc:yq i a 0 f = true
   . rw [if_pos hc,zcv r (i + 1)];constructor
     . intro h k x hk;cases k with
       | zero =>
         rw [List.getElem?_cons_zero,Option.some.injEq] at hk;subst hk;exact hc
       | succ k=>have:=h k x (by simpa using hk);rwa [show i + 1 + k = i + (k + 1) by omega] at this
     intro h k x hk;have:=h (k + 1) x (by simpa using hk)
     rwa [show i + (k + 1) = i + 1 + k by omega] at this
   rw [if_neg hc];constructor
   . intro h;cases h
   intro h;exact absurd (h 0 a rfl) hc
theorem zd6 {f:List Bk} (h:ze f = true):j8 f = true ↔ Ord f:=by
 unfold j8;rw [if_pos h,zcv];constructor
 . intro hA;have hb:∀ (i j:Nat) (a b:Bk),f[i]? = some a->f[j]? = some b->bad1 i j a b = false∧bad2 i j a b = false:=fun i j a b ha hb=>by
    have h1:=(Jz f 0).1 (by have:=hA i a ha;rwa [Nat.zero_add] at this) j b hb
    rwa [Nat.zero_add] at h1
   refine ⟨fun i j a b hij ha hb' p1 p2 p3=>?_,fun i j a b hij ha hb' hp=>?_⟩
   . have:=(hb i j a b ha hb').1;unfold bad1 at this;simp [hij,p1,p2,p3.1,p3.2] at this
   have:=(hb i j a b ha hb').2;unfold bad2 at this;simp [hij,hp] at this;exact this
 intro hO k a ha;rw [Nat.zero_add,Jz];intro j b hb;rw [Nat.zero_add];constructor
 . unfold bad1;by_cases hij:k = j
   . simp [hij]
   have:=hO.apart k j a b hij ha hb;simp [hij];omega
 unfold bad2;by_cases hij:k = j
 . simp [hij]
 by_cases hp:xm a = true
 . have:=hO.begun k j a b hij ha hb hp;simp [hij,hp,this.1];omega
 simp [hp]
theorem zfx (f:List Bk):z6 f = j8 f:=by
 by_cases h:ze f = true
 . have:=(y9 h).trans (zd6 h).symm;cases h1:z6 f <;> cases h2:j8 f <;> simp [h1,h2] at this ⊢
 unfold z6 j8;rw [if_neg h,if_neg h]
theorem Ql {f:List Bk} (h:z6 f = true):ze f = true:=by
 unfold z6 at h;split at h
 . assumption
 cases h
end
end Go.Proofs.YtclnogfmmekooaaGreat
