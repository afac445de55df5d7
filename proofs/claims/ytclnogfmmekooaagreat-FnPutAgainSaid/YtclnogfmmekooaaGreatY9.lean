/- What the laws' walks share: words, plain laws, and the walks of functions, part 9. -/
import Derived.Deep.RegionHeld3
import Derived.Below
import Derived.ChangeSame
import Derived.WalkKit
import Derived.ProofKit
import Derived.Carry
import Derived.Conc.LeavingOf
import Derived.Test.YtclnogfmmekooaaGreatProg
import Derived.Deep.Slices
import Derived.ChangeSlices
import Derived.ChangeArms
import Derived.Test.YtclnogfmmekooaaGreatY8
set_option linter.unusedVariables false
set_option linter.unusedSimpArgs false
set_option maxHeartbeats 16000000
set_option maxRecDepth 100000
namespace Go.Proofs.YtclnogfmmekooaaGreat
section
open Go.RowKit Go.Maps
theorem zg6 {t:St} (h:Okay t):∀ b ∈ t.flash,b.pages.length < 1000000000000:=fun b hb=>by have:=(zo h.flash b hb).1;omega
theorem kr {R b:Nat} {w w':World} (h:Agr (· = R) w w') (hb:b < w.heap.size) (hn:b ≠ R) {u v:Value} (h0:w.cell? ⟨b,0,none⟩ = some u) (h1:w.cell? ⟨b,1,none⟩ = some v) (f0:w.frozen? ⟨b,0,none⟩ = false) (f1:w.frozen? ⟨b,1,none⟩ = false) :
 w'.cell? ⟨b,0,none⟩ = some u∧w'.cell? ⟨b,1,none⟩ = some v∧w'.frozen? ⟨b,0,none⟩ = false∧w'.frozen? ⟨b,1,none⟩ = false :=
 ⟨(h.cell hb hn 0).trans h0,(h.cell hb hn 1).trans h1,(h.fz hb hn 0).trans f0,(h.fz hb hn 1).trans f1⟩
def zoq (B R m:Nat) (w:World) (e:Ending) (w':World):Prop :=
 ∃ (A D:Option Addr) (c d:Nat) (s:St),e = .returned (.agg #[.slice A s.flash.length c, .slice D s.disk.length d])∧yu s∧OSt w' w.heap.size w'.heap.size A s.flash D s.disk∧Rd w' B R (m + 1250)∧Agr (· = R) w w'
theorem zer (B R m:Nat) (w:World) (hm:m ≤ 700000) (hR:Rd w B R m) :
 Calls Tryz.prog 35 #[.pointer (some ⟨R,0,none⟩)] w (zoq B R m w):=by
 have hRl:=hR.lt;have hq:=Row.new w #[.slice none 0 0, .slice none 0 0] 28;obtain ⟨q0,f0⟩:=hq.at0 (j:=0) rfl;obtain ⟨q1,f1⟩:=hq.at0 (j:=1) rfl;have hR0:=hR.alloc (.cells #[.slice none 0 0, .slice none 0 0] 28);have hs0:(w.alloc (.cells #[.slice none 0 0, .slice none 0 0] 28)).heap.size = w.heap.size + 1:=by simp
 have hA0:Agr (· = R) w (w.alloc (.cells #[.slice none 0 0, .slice none 0 0] 28)):=(Agr.refl _ _).alloc _;clear hq
 go_enter Tryz.func35,Tryz.ntmps35
 go_wp2_with fail
 refine (zc3 B R m _ (by omega) hR0).mono ?_;rintro e w1 ⟨A,D,c,d,s0,rfl,hsm,hO,hR1,hA1⟩;rw [hs0] at hO;obtain ⟨q0,q1,f0,f1⟩:=kr hA1 (b:=w.heap.size) (by omega) (by omega) q0 q1 f0 f1;have hs1:w.heap.size + 1 ≤ w1.heap.size:=by have:=hA1.size;omega
 have hA1':=hA0.trans hA1 (fun _ _ h=>h);have hb:=Row.new w1 #[.slice A s0.flash.length c, .slice D s0.disk.length d] 28;obtain ⟨b0,b2⟩:=hb.at0 (j:=0) rfl;obtain ⟨b1,b3⟩:=hb.at0 (j:=1) rfl;obtain ⟨W,hW⟩:∃ W,w1.alloc (.cells #[.slice A s0.flash.length c, .slice D s0.disk.length d] 28) = W:=⟨_,rfl⟩;have hBW:Below w1.heap.size w1 W:=by rw [← hW];(repeat (first | (with_reducible exact Below.refl _ _) | (with_reducible assumption) | (refine Below.setCell ?_ (by first | omega | exact hB.size | exact hb.size | (have h:=hB.size;simp;omega) | (have h:=hb.size;simp;omega) | (simp;omega) | simp) _) | (refine Below.alloc ?_ (by first | omega | exact hB.size | exact hb.size | (have h:=hB.size;simp;omega) | (have h:=hb.size;simp;omega) | (simp;omega) | simp) _) | (refine Below.drew ?_)))
 have hsW:W.heap.size = w1.heap.size + 1:=by rw [← hW];simp
 rw [hW] at b0 b1 b2 b3;replace q0:=(hBW.cell (p:=⟨w.heap.size,0,none⟩) (by show w.heap.size < _;omega)).trans q0;replace q1:=(hBW.cell (p:=⟨w.heap.size,1,none⟩) (by show w.heap.size < _;omega)).trans q1;replace f0:=(hBW.frozen (p:=⟨w.heap.size,0,none⟩) (by show w.heap.size < _;omega)).trans f0;replace f1:=(hBW.frozen (p:=⟨w.heap.size,1,none⟩) (by show w.heap.size < _;omega)).trans f1;have hO2:=hO.below hBW nl;have hR2:=hR1.below hBW nl;have hA2:Agr (· = R) w W:=hA1'.trans (Agr.of_below (S:=(· = R)) hBW) (fun _ _ h=>h);obtain ⟨bx,hbx⟩:∃ b,w1.heap.size = b:=⟨_,rfl⟩;rw [hbx] at b0 b1 b2 b3 hsW hs1 hO2;clear hO hR1 hA1' hb hBW hA0 hR0 hs0 hA1;go_wp2
 (try rw [hW])
 (try simp only [hbx])
 go_loopw [4] (fun i wr=>∃ (j p:Nat) (s:St),i = .int .i64 j∧j ≤ 12∧p + 3 * (12 - j) ≤ m + 1250∧Hid (yu s)∧Hid (s.flash.length = s0.flash.length∧s.disk.length = s0.disk.length) ∧
  OSt wr (w.heap.size + 1) bx A s.flash D s.disk∧Rd wr B R p∧Agr (· = R) w wr∧bx < wr.heap.size ∧
  (wr.cell? ⟨bx,0,none⟩ = some (.slice A s0.flash.length c)∧wr.cell? ⟨bx,1,none⟩ = some (.slice D s0.disk.length d)∧wr.frozen? ⟨bx,0,none⟩ = false∧wr.frozen? ⟨bx,1,none⟩ = false) ∧
  (wr.cell? ⟨w.heap.size,0,none⟩ = some (.slice none 0 0)∧wr.cell? ⟨w.heap.size,1,none⟩ = some (.slice none 0 0)∧wr.frozen? ⟨w.heap.size,0,none⟩ = false∧wr.frozen? ⟨w.heap.size,1,none⟩ = false)) (fun i _=>12 - (intOf i).toNat)
 case atStart=>exact ⟨0,m + 1200,s0,rfl,by omega,by omega,Lib.hid hsm,Lib.hid ⟨rfl,rfl⟩,hO2,hR2,hA2,by omega,⟨b0,b1,b2,b3⟩,⟨q0,q1,f0,f1⟩⟩
 case round =>
  obtain ⟨j,p,s,rfl,hj,hp,hst,hln,hOk,hRk,hAk,hsk,⟨b0,b1,b2,b3⟩,⟨q0,q1,f0,f1⟩⟩:=hrel;clear hO2 hR2 hA2;have h1n:s0.flash.length < 1000000000000:=by have:=hst.out.1.1;have:=hln.out.1;omega
  by_cases hj12:j < 12
  . have hj1:(j:Int) < 12:=by omega
    have e1:IntKind.i64.wrap ((j:Int) + 1) = (j:Int) + 1:=IntWalk.i64_in _ (by omega);go_wp2_with fail
    refine (Yv s A D _ _ c d _ hln.out.1.symm hln.out.2.symm (by rw [hln.out.1];exact h1n) hOk.ofl.fl hOk.disk).mono ?_;rintro e w2 ⟨rfl,hb⟩;have hAc:=Agr.of_below (S:=(· = R)) hb;obtain ⟨b0,b1,b2,b3⟩:=kr hAc (b:=bx) (by omega) (by omega) b0 b1 b2 b3;obtain ⟨q0,q1,f0,f1⟩:=kr hAc (b:=w.heap.size) (by omega) (by omega) q0 q1 f0 f1;have hsz2:=hAc.size;replace hOk:OSt w2 (w.heap.size + 1) bx A s.flash D s.disk:=hOk.keep fun b h1 h2 hl=>hAc.block b hl (by omega);replace hAk:=hAk.trans hAc (fun _ _ h=>h);clear hAc;have hR2:=hRk.below hb nl;clear hb hRk;by_cases hok:z8 s = true
    . have HOK:=Lib.hid (xy.1 hok);rw [hok];clear hok;have HL4:Hid (s0.flash.length = 4):=by unfold Hid;rw [← hln.out.1];exact zh HOK.out.flash
      have HL6:Hid (s0.disk.length = 6):=by unfold Hid;rw [← hln.out.2];exact HOK.out.len
      rw [HL4.out,HL6.out] at hln;rw [HL4.out] at b0;rw [HL6.out] at b1;go_wp2_with fail
      refine (zi 8 8 B R p _ rfl (by omega) (by omega) (by omega) hR2).mono ?_;rintro e w3 ⟨k,rfl,hk,hR3,hAc⟩;obtain ⟨b0,b1,b2,b3⟩:=kr hAc (b:=bx) (by omega) (by omega) b0 b1 b2 b3;obtain ⟨q0,q1,f0,f1⟩:=kr hAc (b:=w.heap.size) (by omega) (by omega) q0 q1 f0 f1;have hsz3:=hAc.size;replace hOk:OSt w3 (w.heap.size + 1) bx A s.flash D s.disk:=hOk.keep fun b h1 h2 hl=>hAc.block b hl (by omega);replace hAk:=hAk.trans hAc (fun _ _ h=>h);clear hAc;clear hR2;by_cases hk0:k = 0
      . subst hk0;go_wp2;have hF:Agr (· = w.heap.size) w3 ((w3.setCell ⟨w.heap.size,0,none⟩ (.slice A 4 c)).setCell ⟨w.heap.size,1,none⟩ (.slice D 6 d)):=Agr.setCell (S:=fun b=>b = w.heap.size) (Agr.setCell (S:=fun b=>b = w.heap.size) (Agr.refl _ _) (p:=⟨w.heap.size,0,none⟩) (.inr rfl) _) (p:=⟨w.heap.size,1,none⟩) (.inr rfl) _;have hsz:=hF.size;refine bodyPost_ret (v:=.agg #[.slice A 4 c, .slice D 6 d]) (by simp [results,Tryz.results35,go_sem,q0,q1]) rfl ⟨A,D,c,d,s,by rw [hln.out.1,hln.out.2],hst.out, ?_, ?_, ?_⟩
        . exact (hOk.keep (w':=(w3.setCell ⟨w.heap.size,0,none⟩ (.slice A 4 c)).setCell ⟨w.heap.size,1,none⟩ (.slice D 6 d)) fun b h1 h2 hl=>hF.block b hl (by omega)).mono (by omega) (by omega)
        . exact (hR3.agr hF (by omega) (fun b hb e=>by have:=hR3.le;omega)).mono (by omega)
        exact hAk.trans hF (fun b hb e=>by omega)
      have hk1:(0:Int) < k:=by omega
      go_wp2_with fail
      refine (Yt 4 s.flash A c _ hln.out.1.symm (by rw [hln.out.1];omega) (zg6 HOK.out) hOk.ofl.fl).mono ?_;rintro e w4 ⟨rfl,_,_,hb⟩;have hAc:=Agr.of_below (S:=(· = R)) hb;obtain ⟨b0,b1,b2,b3⟩:=kr hAc (b:=bx) (by omega) (by omega) b0 b1 b2 b3;obtain ⟨q0,q1,f0,f1⟩:=kr hAc (b:=w.heap.size) (by omega) (by omega) q0 q1 f0 f1;have hsz4:=hAc.size;replace hOk:OSt w4 (w.heap.size + 1) bx A s.flash D s.disk:=hOk.keep fun b h1 h2 hl=>hAc.block b hl (by omega);replace hAk:=hAk.trans hAc (fun _ _ h=>h);clear hAc;have hR4:=hR3.below hb nl;clear hb hR3;generalize (jd s.flash).1 = o1 at *;generalize (jd s.flash).2 = o2 at *;cases o2 with
      | false =>
        go_wp2;have hF:Agr (· = w.heap.size) w4 ((w4.setCell ⟨w.heap.size,0,none⟩ (.slice A 4 c)).setCell ⟨w.heap.size,1,none⟩ (.slice D 6 d)):=Agr.setCell (S:=fun b=>b = w.heap.size) (Agr.setCell (S:=fun b=>b = w.heap.size) (Agr.refl _ _) (p:=⟨w.heap.size,0,none⟩) (.inr rfl) _) (p:=⟨w.heap.size,1,none⟩) (.inr rfl) _;have hsz:=hF.size;refine bodyPost_ret (v:=.agg #[.slice A 4 c, .slice D 6 d]) (by simp [results,Tryz.results35,go_sem,q0,q1]) rfl ⟨A,D,c,d,s,by rw [hln.out.1,hln.out.2],hst.out, ?_, ?_, ?_⟩
        . exact (hOk.keep (w':=(w4.setCell ⟨w.heap.size,0,none⟩ (.slice A 4 c)).setCell ⟨w.heap.size,1,none⟩ (.slice D 6 d)) fun b h1 h2 hl=>hF.block b hl (by omega)).mono (by omega) (by omega)
        . exact (hR4.agr hF (by omega) (fun b hb e=>by have:=hR4.le;omega)).mono (by omega)
        exact hAk.trans hF (fun b hb e=>by omega)
      | true =>
        have hq:=Lib.hid (fun X (h:Agr (· = R) w4.drew X)=>kr h (b:=bx) (by show bx < w4.heap.size;omega) (by omega) (w:=w4.drew) b0 b1 b2 b3);have hr:=Lib.hid (fun X (h:Agr (· = R) w4.drew X)=>kr h (b:=w.heap.size) (by show w.heap.size < w4.heap.size;omega) (by omega) (w:=w4.drew) q0 q1 f0 f1);have hOx:=Lib.hid (fun X (h:Agr (· = R) w4.drew X)=>hOk.drew.keep (w':=X) fun b h1 h2 hl=>h.block b hl (by omega));have hAx:=Lib.hid (fun X (h:Agr (· = R) w4.drew X)=>hAk.drew.trans h (fun _ _ h=>h));have hRx:=hR4.drew;have hz4:bx < w4.drew.heap.size:=by show bx < w4.heap.size;omega
        have hg0:Agr (· = R) w4.drew w4.drew:=Agr.refl _ _;have HZ:=Lib.hid hz4;clear hAk hR4 hOk hz4;go_wp2;refine wp_region_held_drew (S:=fun X=>X.cell? ⟨bx,0,none⟩ = some (.slice A 4 c)∧X.cell? ⟨bx,1,none⟩ = some (.slice D 6 d)) (by kernel_rfl) ⟨(hq.out _ hg0).1,(hq.out _ hg0).2.1⟩ (fun hHeld0=>?_);refine tA 0 hHeld0 ?_;try simp only [Act.put,jj]
        refine tA 1 hHeld0 ?_;try simp only [Act.put,jj]
        refine tA 4 hHeld0 ?_;try simp only [Act.put,jj]
        refine wpAnyH_ready (rs:=[2]) (by kernel_rfl) (by simp) ?_;refine AllReadyH.cons rfl (fun K hK=>?_) AllReadyH.nil;go_simp;refine (zi 6 6 B R (p + 1) _ rfl (by omega) (by omega) (by omega) hRx).mono ?_;rintro e w5 ⟨k5,rfl,hk5,hR5,hc⟩;have hg1:=hg0.trans hc (fun _ _ h=>h);have e5:IntKind.i64.wrap (1 + (k5:Int)) = 1 + (k5:Int):=IntWalk.i64_in _ (by omega);clear hc;go_wp2_with fail
        refine hK.out _ _ (⟨(hq.out _ hg1).1,(hq.out _ hg1).2.1⟩) (fun hHf1=>?_);clear hK K;try simp only [Act.put,jj]
        refine tA 3 hHf1 ?_;try simp only [Act.put,jj]
        refine wpAnyH_ready (rs:=[5]) (by kernel_rfl) (by simp) ?_;refine AllReadyH.cons rfl (fun K hK=>?_) AllReadyH.nil;go_simp;refine (zi 10 10 B R (p + 1 + 1) _ rfl (by omega) (by omega) (by omega) hR5).mono ?_;rintro e w6 ⟨k6,rfl,hk6,hR6,hc⟩;have hg2:=hg1.trans hc (fun _ _ h=>h);clear hc;go_wp2_with fail
        refine hK.out _ _ (⟨(hq.out _ hg2).1,(hq.out _ hg2).2.1⟩) (fun hHf2=>?_);clear hK K;try simp only [Act.put,jj]
        refine tA 6 hHf2 ?_;try simp only [Act.put,jj]
        refine wpAnyH_ready (rs:=[7]) (by kernel_rfl) (by simp) ?_;refine AllReadyH.cons rfl (fun K hK=>?_) AllReadyH.nil;go_simp;refine (zbx s ⟨1,1 + (k5:Int),(k6:Int),9,false⟩ A D c d (w.heap.size + 1) bx _ HOK.out.fine (by have h:=hg2.size;have h2:=HZ.out;omega) (hOx.out _ hg2)).mono ?_;rintro e w7 ⟨rfl,hO7,hc⟩;have hz7:w4.heap.size ≤ w7.heap.size:=Nat.le_trans hg2.size hc.size;have hbl:bx < w6.heap.size:=by have h:=hg2.size;have h2:=HZ.out;omega
        have y0:=(hc.cell (b:=bx) hbl (by omega) 0).trans (hq.out _ hg2).1;have y1:=(hc.cell (b:=bx) hbl (by omega) 1).trans (hq.out _ hg2).2.1;have y2:=(hc.fz (b:=bx) hbl (by omega) 0).trans (hq.out _ hg2).2.2.1;have y3:=(hc.fz (b:=bx) hbl (by omega) 1).trans (hq.out _ hg2).2.2.2;have u0:=(hc.cell (b:=w.heap.size) (by omega) (by omega) 0).trans (hr.out _ hg2).1;have u1:=(hc.cell (b:=w.heap.size) (by omega) (by omega) 1).trans (hr.out _ hg2).2.1;have u2:=(hc.fz (b:=w.heap.size) (by omega) (by omega) 0).trans (hr.out _ hg2).2.2.1;have u3:=(hc.fz (b:=w.heap.size) (by omega) (by omega) 1).trans (hr.out _ hg2).2.2.2;have hR7:=hR6.agr hc (by omega) (fun b hb e=>by have:=hR6.le;omega);have hA7:=(hAx.out _ hg2).trans hc (fun b hb e=>by omega);have hevk:=zir HOK.out ⟨1,1 + (k5:Int),(k6:Int),9,false⟩;have HEV:=Lib.hid hevk.ok;clear hevk;generalize doEv s ⟨1,1 + (k5:Int),(k6:Int),9,false⟩ = s8 at *;clear hc;go_wp2_with fail
        refine hK.out _ _ (⟨y0,y1⟩) (fun hHf3=>?_);clear hK K;try simp only [Act.put,jj]
        refine wpAnyH_ready (rs:=[8]) (by kernel_rfl) (by simp) ?_;refine AllReadyH.cons rfl (fun K hK=>?_) AllReadyH.nil;go_simp;have hWr:xt w7 ((w7.setCell ⟨bx,0,none⟩ (.slice A 4 c)).setCell ⟨bx,1,none⟩ (.slice D 6 d)) bx 0 [.slice A 4 c, .slice D 6 d]:=zp bx [.slice A 4 c, .slice D 6 d] 0 w7 (fun j hj=>by
         match j,hj with
         | 0,_=>exact ⟨_,y0⟩
         | 1,_=>exact ⟨_,y1⟩)
        have t0:=hWr.new_ 0 _ rfl;have t1:=hWr.new_ 1 _ rfl;refine hK.out _ _ (⟨t0,t1⟩) (fun hHf4=>?_);clear hK K;try simp only [Act.put,jj]
        refine wpAnyH_done (by kernel_rfl) ?_ _;have hO9:OSt _ (w.heap.size + 1) bx A s8.flash D s8.disk:=hO7.keep fun b h1 h2 _=>hWr.block b (by omega);have hR9:=hR7.agr hWr.agr (by omega) (fun b hb e=>by have:=hR7.le;omega);have hA9:=hA7.trans (S':=(· = bx)) hWr.agr (fun b hb e=>by omega);have t2:=(hWr.frozen ⟨bx,0,none⟩).trans y2;have t3:=(hWr.frozen ⟨bx,1,none⟩).trans y3;have v0:=(hWr.agr.cell (b:=w.heap.size) (by omega) (by omega) 0).trans u0;have v1:=(hWr.agr.cell (b:=w.heap.size) (by omega) (by omega) 1).trans u1;have v2:=(hWr.frozen ⟨w.heap.size,0,none⟩).trans u2;have v3:=(hWr.frozen ⟨w.heap.size,1,none⟩).trans u3;have hss:=hWr.size;have hzz:=HZ.out;have hz9:w4.drew.heap.size = w4.heap.size:=rfl;clear hWr hO7 hR7 hA7 hq hr hOx hAx;go_wp2;go_roundw
        (case rel=>exact ⟨j + 1,_,s8,by go_num,by omega,by omega,Lib.hid (zbw HEV.out.fine),Lib.hid ⟨by rw [HL4.out];exact zh HEV.out.flash,by rw [HL6.out];exact HEV.out.len⟩,hO9,hR9,hA9,by omega,⟨by rw [HL4.out];exact t0,by rw [HL6.out];exact t1,t2,t3⟩,⟨v0,v1,v2,v3⟩⟩)
        (case measure=>simp [intOf];omega)
    have hokf:z8 s = false:=by simpa using hok
    rw [hokf];go_wp2;have hF:Agr (· = w.heap.size) w2 ((w2.setCell ⟨w.heap.size,0,none⟩ (.slice A s0.flash.length c)).setCell ⟨w.heap.size,1,none⟩ (.slice D s0.disk.length d)):=Agr.setCell (S:=fun b=>b = w.heap.size) (Agr.setCell (S:=fun b=>b = w.heap.size) (Agr.refl _ _) (p:=⟨w.heap.size,0,none⟩) (.inr rfl) _) (p:=⟨w.heap.size,1,none⟩) (.inr rfl) _;have hsz:=hF.size;refine bodyPost_ret (v:=.agg #[.slice A s0.flash.length c, .slice D s0.disk.length d]) (by simp [results,Tryz.results35,go_sem,q0,q1]) rfl ⟨A,D,c,d,s,by rw [hln.out.1,hln.out.2],hst.out, ?_, ?_, ?_⟩
    . exact (hOk.keep (w':=(w2.setCell ⟨w.heap.size,0,none⟩ (.slice A s0.flash.length c)).setCell ⟨w.heap.size,1,none⟩ (.slice D s0.disk.length d)) fun b h1 h2 hl=>hF.block b hl (by omega)).mono (by omega) (by omega)
    . exact (hR2.agr hF (by omega) (fun b hb e=>by have:=hR2.le;omega)).mono (by omega)
    exact hAk.trans hF (fun b hb e=>by omega)
  have hj1:¬ (j:Int) < 12:=by omega
  go_wp2;have hF:Agr (· = w.heap.size) wr ((wr.setCell ⟨w.heap.size,0,none⟩ (.slice A s0.flash.length c)).setCell ⟨w.heap.size,1,none⟩ (.slice D s0.disk.length d)):=Agr.setCell (S:=fun b=>b = w.heap.size) (Agr.setCell (S:=fun b=>b = w.heap.size) (Agr.refl _ _) (p:=⟨w.heap.size,0,none⟩) (.inr rfl) _) (p:=⟨w.heap.size,1,none⟩) (.inr rfl) _;have hsz:=hF.size;refine bodyPost_ret (v:=.agg #[.slice A s0.flash.length c, .slice D s0.disk.length d]) (by simp [results,Tryz.results35,go_sem,q0,q1]) rfl ⟨A,D,c,d,s,by rw [hln.out.1,hln.out.2],hst.out, ?_, ?_, ?_⟩
  . exact (hOk.keep (w':=(wr.setCell ⟨w.heap.size,0,none⟩ (.slice A s0.flash.length c)).setCell ⟨w.heap.size,1,none⟩ (.slice D s0.disk.length d)) fun b h1 h2 hl=>hF.block b hl (by omega)).mono (by omega) (by omega)
  . exact (hRk.agr hF (by omega) (fun b hb e=>by have:=hRk.le;omega)).mono (by omega)
  exact hAk.trans hF (fun b hb e=>by omega)
end
section
open Go.RowKit Go.Maps
def zqy (w w':World) (A D:Option Addr) (s:St):Prop:=yu s∧OSt w' w.heap.size w'.heap.size A s.flash D s.disk∧Below w.heap.size w w'
theorem Jy (A:Option Addr) (bs:List Nat) (c:Nat) (w:World) (hc:Code w A bs c) :
 Calls Tryz.prog 12 #[.slice A bs.length c] w fun e w'=>∃ A2 D2 c2 d2 s a v,e = .returned (.tuple #[.agg #[.slice A2 s.flash.length c2, .slice D2 s.disk.length d2], .int .i64 a, .int .i64 v])∧(1 ≤ a∧a ≤ 12)∧(-10 ≤ v∧v ≤ 9)∧zqy w w' A2 D2 s:=by
 have hq:=Row.new w #[.slice none 0 0, .slice none 0 0] 28;obtain ⟨q0,f0⟩:=hq.at0 (j:=0) rfl;obtain ⟨q1,f1⟩:=hq.at0 (j:=1) rfl;obtain ⟨W0,hW0⟩:∃ W,w.alloc (.cells #[.slice none 0 0, .slice none 0 0] 28) = W:=⟨_,rfl⟩;have hs0:W0.heap.size = w.heap.size + 1:=by rw [← hW0];simp
 have hB0:Below w.heap.size w W0:=by rw [← hW0];(repeat (first | (with_reducible exact Below.refl _ _) | (with_reducible assumption) | (refine Below.setCell ?_ (by first | omega | exact hB.size | exact hb.size | (have h:=hB.size;simp;omega) | (have h:=hb.size;simp;omega) | (simp;omega) | simp) _) | (refine Below.alloc ?_ (by first | omega | exact hB.size | exact hb.size | (have h:=hB.size;simp;omega) | (have h:=hb.size;simp;omega) | (simp;omega) | simp) _) | (refine Below.drew ?_)))
 have hrow:=hc.row.alloc (.cells #[.slice none 0 0, .slice none 0 0] 28);rw [hW0] at q0 q1 f0 f1 hrow;clear hq
 go_enter Tryz.func12,Tryz.ntmps12
 go_wp2_with fail
 (try rw [hW0])
 refine (zgr A bs c _ hc.len hc.cap hc.byte hrow).mono ?_;rintro e w1 ⟨rfl,hR1,hb1⟩;rw [hs0] at hb1 hR1;have hs1:=hb1.size;rw [hs0] at hs1;replace q0:=(hb1.cell (p:=⟨w.heap.size,0,none⟩) (by show w.heap.size < _;omega)).trans q0;replace q1:=(hb1.cell (p:=⟨w.heap.size,1,none⟩) (by show w.heap.size < _;omega)).trans q1;replace f0:=(hb1.frozen (p:=⟨w.heap.size,0,none⟩) (by show w.heap.size < _;omega)).trans f0;replace f1:=(hb1.frozen (p:=⟨w.heap.size,1,none⟩) (by show w.heap.size < _;omega)).trans f1;have hB1:=hB0.trans (hb1.mono (by omega));have hRl:=hR1.lt;clear hb1 hB0 hrow
 (try simp only [hs0])
 clear hs0;go_wp2_with fail
 refine (zer _ _ 0 _ (by omega) hR1).mono ?_;rintro e w2 ⟨A2,D2,c2,d2,s,rfl,hsm,hO,hR,hA⟩;have hs2:=hA.size;have HS:=Lib.hid hsm;clear hsm hR1;obtain ⟨q0,q1,f0,f1⟩:=kr hA (b:=w.heap.size) (by omega) (by omega) q0 q1 f0 f1;have hB2:=hB1.trans (hA.below (B:=w.heap.size) (by omega) (fun i hi=>by omega));clear hA hB1;replace hO:OSt w2 (w.heap.size + 1 + 1) w2.heap.size A2 s.flash D2 s.disk:=hO.mono (by omega) nl;go_wp2_with fail
 refine (zi 6 6 _ _ (0 + 1250) _ rfl (by omega) (by omega) (by omega) hR).mono ?_;rintro e w3 ⟨k3,rfl,hk3,hR,hA⟩;have hs3:=hA.size;obtain ⟨q0,q1,f0,f1⟩:=kr hA (b:=w.heap.size) (by omega) (by omega) q0 q1 f0 f1;have hB3:=hB2.trans (hA.below (B:=w.heap.size) (by omega) (fun i hi=>by omega));replace hO:=hO.agr hA (fun b h1 h2 h3=>by omega);clear hA hB2;have e1:IntKind.i64.wrap (1 + (k3:Int)) = 1 + (k3:Int):=IntWalk.i64_in _ (by omega);go_wp2_with fail
 refine (zi 24 24 _ _ (0 + 1250 + 1) _ rfl (by omega) (by omega) (by omega) hR).mono ?_;rintro e w4 ⟨k4,rfl,hk4,hR,hA⟩;have hs4:=hA.size;obtain ⟨q0,q1,f0,f1⟩:=kr hA (b:=w.heap.size) (by omega) (by omega) q0 q1 f0 f1;have hB4:=hB3.trans (hA.below (B:=w.heap.size) (by omega) (fun i hi=>by omega));replace hO:=hO.agr hA (fun b h1 h2 h3=>by omega);clear hA hB3;have e2:IntKind.i64.wrap ((k4:Int) / 23) = (k4:Int) / 23:=IntWalk.i64_in _ (by omega);have e3:IntKind.i64.wrap ((k4:Int) / 23 * 6) = (k4:Int) / 23 * 6:=IntWalk.i64_in _ (by omega);have e4:IntKind.i64.wrap (1 + (k3:Int) + (k4:Int) / 23 * 6) = 1 + (k3:Int) + (k4:Int) / 23 * 6:=IntWalk.i64_in _ (by omega);go_wp2_with fail
 refine (zi 10 10 _ _ (0 + 1250 + 1 + 1) _ rfl (by omega) (by omega) (by omega) hR).mono ?_;rintro e w5 ⟨k5,rfl,hk5,hR,hA⟩;have hs5:=hA.size;obtain ⟨q0,q1,f0,f1⟩:=kr hA (b:=w.heap.size) (by omega) (by omega) q0 q1 f0 f1;have hB5:=hB4.trans (hA.below (B:=w.heap.size) (by omega) (fun i hi=>by omega));replace hO:=hO.agr hA (fun b h1 h2 h3=>by omega);clear hA hB4;go_wp2_with fail
 refine (zi 24 24 _ _ (0 + 1250 + 1 + 1 + 1) _ rfl (by omega) (by omega) (by omega) hR).mono ?_;rintro e w6 ⟨k6,rfl,hk6,hR,hA⟩;have hs6:=hA.size;obtain ⟨q0,q1,f0,f1⟩:=kr hA (b:=w.heap.size) (by omega) (by omega) q0 q1 f0 f1;have hB6:=hB5.trans (hA.below (B:=w.heap.size) (by omega) (fun i hi=>by omega));replace hO:=hO.agr hA (fun b h1 h2 h3=>by omega);clear hA hB5;have e5:IntKind.i64.wrap ((k6:Int) / 23) = (k6:Int) / 23:=IntWalk.i64_in _ (by omega);have e6:IntKind.i64.wrap ((k6:Int) / 23 * 10) = (k6:Int) / 23 * 10:=IntWalk.i64_in _ (by omega);have e7:IntKind.i64.wrap ((k5:Int) - (k6:Int) / 23 * 10) = (k5:Int) - (k6:Int) / 23 * 10:=IntWalk.i64_in _ (by omega);have hL:=jw q0 q1 (.slice A2 s.flash.length c2) (.slice D2 s.disk.length d2);have hOf:=hO.agr hL.agr (fun b h1 h2 h3=>by omega);have hBf:=hB6.trans (hL.agr.below (B:=w.heap.size) (by omega) (fun i hi=>by omega));have hsz:=hL.size;have r0:=hL.new_ 0 _ rfl;have r1:=hL.new_ 1 _ rfl;clear hL;go_wp2;exact bodyPost_ret (v:=.tuple #[.agg #[.slice A2 s.flash.length c2, .slice D2 s.disk.length d2], .int .i64 (1 + (k3:Int) + (k4:Int) / 23 * 6), .int .i64 ((k5:Int) - (k6:Int) / 23 * 10)]) (by simp [results,Tryz.results12,go_sem,r0,r1,q0,q1]) rfl ⟨A2,D2,c2,d2,s,_,_,rfl,by omega,by omega,HS.out,hOf.mono (by omega) (by omega),hBf⟩
end
section
open Go.RowKit Go.Maps
noncomputable def paE:Go.Code:=match Tryz.f4.body with | some (.seq _ (.seq _ (.seq _ (.seq _ (.seq (.seq _ (.cond _ c _)) _)))))=>c | _=>.skip
noncomputable def pa7:Go.Code:=match Tryz.f4.body with | some (.seq _ (.seq _ (.seq _ (.seq _ (.seq _ (.seq c _))))))=>c | _=>.skip
noncomputable def pa8:Go.Code:=match Tryz.f4.body with | some (.seq _ (.seq _ (.seq _ (.seq _ (.seq _ (.seq _ (c)))))))=>c | _=>.skip
def paR (a:Act) (_:World):Prop:=∃ T:Array Value,a = ⟨T,[]⟩∧T.size = 116∧T[4]? = some (.bool true)
def paQ (s t:St) (a v:Int) (x:Act) (w:World):Prop:=∃ (T:Array Value) (bx bz:Nat) (A1 D1 A4 D4:Option Addr) (c1 d1 c4 d4:Nat),x = ⟨T,[]⟩∧T.size = 116∧T[5]? = some (.pointer (some ⟨bx,0,none⟩))∧T[6]? = some (.int .i64 a)∧T[7]? = some (.int .i64 v)∧T[9]? = some (.pointer (some ⟨bz,0,none⟩))∧T[10]? = some (.bool true)∧Held w bx A1 D1 4 c1 6 d1 s∧Held w bz A4 D4 4 c4 6 d4 t
theorem zle {W0 W:World} {s:St} {a v:Int} {xs:List Sp} {A1 D1 V:Option Addr} {n c1 m d1 vc bx:Nat} (h0:Bel W0 W) (HX:Hid (kt s (wr s.flash 1 a v) = xs)) (hl:s.flash.length < 1000000000000) (hH:Held W bx A1 D1 n c1 m d1 s) (T:Array Value) (hT:T.size = 116) (t5:T[5]? = some (.pointer (some ⟨bx,0,none⟩))) (t6:T[6]? = some (.int .i64 a)) (t7:T[7]? = some (.int .i64 v)) (t8:T[8]? = some (.slice V xs.length vc)) :
 paE.wp Tryz.prog (Ja (fun _ _=>False) paR W0) ⟨T,[]⟩ W:=by
 have x0:=hH.x0;have x1:=hH.x1;simp only [paE,Tryz.f4];replace hT:=exT hT;iterate 116 (obtain ⟨_,hT⟩:=hT)
 dsimp only [Ex] at hT;subst hT;simp only [List.getElem?_toArray,List.getElem?_cons_succ,List.getElem?_cons_zero,Option.some.injEq,Nat.reduceAdd,Nat.zero_add] at t5 t6 t7 t8;subst t5 t6 t7 t8;go_wp2_with fail
 refine (Xt HX.out A1 D1 _ _ c1 d1 _ hH.hn hH.hm hl hH.fl hH.dk).mono ?_;rintro e w4 ⟨V4,vc4,rfl,_,_,_,hb⟩;clear hH x0 x1;go_wp2;exact Ja.mkR rfl ⟨_,rfl,rfl,rfl⟩ (Below.bel h0 hb)
theorem zqg {W0 W:World} {s t:St} {a v:Int} {xs:List Sp} {A1 D1 V Am:Option Addr} {c1 d1 vc bx bl cm q:Nat} (h0:Bel W0 W) (HTR:Hid (toR s xs (q:Int) true = (t,true))) (HOt:Hid (Okay t)) (hxl:xs.length ≤ 8) (hq:bl % (xs.length + 1) = q) (hH:Held W bx A1 D1 4 c1 6 d1 s) (hX:Row W V (sps xs)) (T:Array Value) (hT:T.size = 116)
 (t1:T[1]? = some (.slice Am bl cm)) (t5:T[5]? = some (.pointer (some ⟨bx,0,none⟩))) (t6:T[6]? = some (.int .i64 a)) (t7:T[7]? = some (.int .i64 v)) (t8:T[8]? = some (.slice V xs.length vc)) :
 pa7.wp Tryz.prog (Qc (paQ s t a v) W0) ⟨T,[]⟩ W:=by
 have e0:IntKind.i64.wrap ((xs.length:Int) + 1) = (xs.length:Int) + 1:=IntWalk.i64_in _ (by omega);have hpz:((xs.length:Int) + 1 = 0) = False:=eq_false (by omega);have r1:Int.tmod (bl:Int) ((xs.length:Int) + 1) = (q:Int):=by rw [Int.tmod_eq_emod_of_nonneg (by omega),← hq];rfl
 have r2:(bl:Int) % ((xs.length:Int) + 1) = (q:Int):=by rw [← hq];rfl
 clear hq;have hs:=Lib.hid (fun X (h:Below W.drew.heap.size W.drew X)=>hH.drew.below h nl);have hXx:=Lib.hid (fun X (h:Below W.drew.heap.size W.drew X)=>hX.drew.below h nl);have hvb:Below W.drew.heap.size W.drew W.drew:=Below.refl _ _;have hvd:Below W.heap.size W W.drew:=(Below.refl _ _).drew;clear hH hX;simp only [pa7,Tryz.f4];replace hT:=exT hT;iterate 116 (obtain ⟨_,hT⟩:=hT)
 dsimp only [Ex] at hT;subst hT;simp only [List.getElem?_toArray,List.getElem?_cons_succ,List.getElem?_cons_zero,Option.some.injEq,Nat.reduceAdd,Nat.zero_add] at t1 t5 t6 t7 t8;subst t1 t5 t6 t7 t8;refine wp_region_held_drew (S:=fun X=>X.cell? ⟨bx,0,none⟩ = some (.slice A1 4 c1)∧X.cell? ⟨bx,1,none⟩ = some (.slice D1 6 d1)) (by kernel_rfl) ⟨(hs.out _ hvb).x0,(hs.out _ hvb).x1⟩ (fun hHeld0=>?_);refine tA 0 hHeld0 ?_;try simp only [Act.put,jj]
 refine tA 1 hHeld0 ?_;try simp only [Act.put,jj]
 refine tA 2 hHeld0 ?_;try simp only [Act.put,jj]
 refine tA 3 hHeld0 ?_;try simp only [Act.put,jj]
 refine tA 4 hHeld0 ?_;try simp only [Act.put,jj]
 refine tA 5 hHeld0 ?_;try simp only [Act.put,jj]
 refine tA 6 hHeld0 ?_;try simp only [Act.put,jj]
 refine tA 7 hHeld0 ?_;try simp only [Act.put,jj]
 refine wpAnyH_ready (rs:=[8,12]) (by kernel_rfl) (by simp) ?_;refine AllReadyH.cons rfl (fun K hK=>?_) (AllReadyH.cons rfl (fun K hK=>?_) AllReadyH.nil)
 . go_simp;refine (Zv HTR.out HOt.out.fine (by omega) A1 D1 V 4 6 c1 d1 vc _ _ (hs.out _ hvb).hn (hs.out _ hvb).hm rfl (hs.out _ hvb).fl (hs.out _ hvb).dk (hXx.out _ hvb)).mono ?_;rintro e w4 ⟨A4,c4,D4,d4,rfl,hF4,hD4,hl4,hc⟩;have hb4:=hvb.trans (hc.mono hvb.size);have hz4:=hc.size;go_wp2_with fail
   refine hK.out _ _ (⟨(hs.out _ hb4).x0,(hs.out _ hb4).x1⟩) (fun hHr1=>?_);clear hK K;try simp only [Act.put,jj]
   refine tA 9 hHr1 ?_;try simp only [Act.put,jj]
   refine tA 10 hHr1 ?_;try simp only [Act.put,jj]
   refine tA 11 hHr1 ?_;try simp only [Act.put,jj]
   refine wpAnyH_ready (rs:=[12]) (by kernel_rfl) (by simp) ?_;refine AllReadyH.cons rfl (fun K hK=>?_) AllReadyH.nil;go_simp;obtain ⟨bz,hbz⟩:∃ b,w4.heap.size = b:=⟨_,rfl⟩;have hbz':w4.heap.size = bz:=hbz;have hq:=Row.new w4 #[.slice none 0 0, .slice none 0 0] 28;have hb3:=hb4.alloc hb4.size (.cells #[.slice none 0 0, .slice none 0 0] 28);rw [hbz'] at hq
   (try simp only [hbz])
   obtain ⟨z0,z2⟩:=hq.at0 (j:=0) rfl;obtain ⟨z1,z3⟩:=hq.at0 (j:=1) rfl;have hzs:(w4.alloc (.cells #[.slice none 0 0, .slice none 0 0] 28)).heap.size = bz + 1:=by rw [← hbz'];simp
   refine hK.out _ _ (⟨(hs.out _ hb3).x0,(hs.out _ hb3).x1⟩) (fun hHr2=>?_);clear hK K;try simp only [Act.put,jj]
   refine wpAnyH_ready (rs:=[13]) (by kernel_rfl) (by simp) ?_;refine AllReadyH.cons rfl (fun K hK=>?_) AllReadyH.nil;go_simp;have hb8:=hb4.alloc hb4.size (.cells #[.slice A4 4 c4, .slice D4 6 d4] 28);have hq8:=Row.new w4 #[.slice A4 4 c4, .slice D4 6 d4] 28;rw [hbz] at hq8;obtain ⟨r0,_⟩:=hq8.at0 (j:=0) rfl;obtain ⟨r1,_⟩:=hq8.at0 (j:=1) rfl;have hF6:=hF4.fl.alloc (.cells #[.slice A4 4 c4, .slice D4 6 d4] 28);have hD6:=hD4.alloc (.cells #[.slice A4 4 c4, .slice D4 6 d4] 28);refine hK.out _ _ (⟨(hs.out _ hb8).x0,(hs.out _ hb8).x1⟩) (fun hHr3=>?_);clear hK K;try simp only [Act.put,jj]
   refine tA 14 hHr3 ?_;try simp only [Act.put,jj]
   refine wpAnyH_done (by kernel_rfl) ?_ _;have hHs:=hs.out _ hb8;have hHt:Held (w4.alloc (.cells #[.slice A4 4 c4, .slice D4 6 d4] 28)) bz A4 D4 4 c4 6 d4 t:=⟨hF6,hD6,r0,r1,(zh HOt.out.flash).symm,HOt.out.len.symm⟩;have hB5:=hvd.trans (hb8.mono (by have h:=hvd.size;exact h));obtain ⟨W5,hW5⟩:∃ W,(w4.alloc (.cells #[.slice A4 4 c4, .slice D4 6 d4] 28)) = W:=⟨_,rfl⟩;rw [hW5] at hHs hHt hB5
   (try rw [hW5])
   clear hW5 hb8 hb4 r0 r1 hF6 hD6 hF4 hD4 hl4;exact Qc.mk' rfl ⟨_,bx,bz,A1,D1,A4,D4,c1,d1,c4,d4,rfl,rfl,rfl,rfl,rfl,rfl,rfl,hHs,hHt⟩ (Below.bel h0 hB5)
 go_simp;obtain ⟨bz,hbz⟩:∃ b,W.heap.size = b:=⟨_,rfl⟩;have hbz':W.drew.heap.size = bz:=hbz;have hq:=Row.new W.drew #[.slice none 0 0, .slice none 0 0] 28;have hb3:=hvb.alloc hvb.size (.cells #[.slice none 0 0, .slice none 0 0] 28);rw [hbz'] at hq
 (try simp only [hbz])
 obtain ⟨z0,z2⟩:=hq.at0 (j:=0) rfl;obtain ⟨z1,z3⟩:=hq.at0 (j:=1) rfl;have hzs:(W.drew.alloc (.cells #[.slice none 0 0, .slice none 0 0] 28)).heap.size = bz + 1:=by rw [← hbz'];simp
 have hzs2:(W.alloc (.cells #[.slice none 0 0, .slice none 0 0] 28)).drew.heap.size = bz + 1:=hzs;refine hK.out _ _ (⟨(hs.out _ hb3).x0,(hs.out _ hb3).x1⟩) (fun hHr4=>?_);clear hK K;try simp only [Act.put,jj]
 refine wpAnyH_ready (rs:=[8]) (by kernel_rfl) (by simp) ?_;refine AllReadyH.cons rfl (fun K hK=>?_) AllReadyH.nil;go_simp;refine (Zv HTR.out HOt.out.fine (by omega) A1 D1 V 4 6 c1 d1 vc _ _ (hs.out _ hb3).hn (hs.out _ hb3).hm rfl (hs.out _ hb3).fl (hs.out _ hb3).dk (hXx.out _ hb3)).mono ?_;rintro e w4 ⟨A4,c4,D4,d4,rfl,hF4,hD4,hl4,hc⟩;have hb4:=hb3.trans (hc.mono hb3.size);have hz4:=hc.size;have y0:=(hc.cell (p:=⟨bz,0,none⟩) (by show bz < _;omega)).trans z0;have y1:=(hc.cell (p:=⟨bz,1,none⟩) (by show bz < _;omega)).trans z1;have y2:=(hc.frozen (p:=⟨bz,0,none⟩) (by show bz < _;omega)).trans z2;have y3:=(hc.frozen (p:=⟨bz,1,none⟩) (by show bz < _;omega)).trans z3;go_wp2_with fail
 refine hK.out _ _ (⟨(hs.out _ hb4).x0,(hs.out _ hb4).x1⟩) (fun hHr5=>?_);clear hK K;try simp only [Act.put,jj]
 refine tA 9 hHr5 ?_;try simp only [Act.put,jj]
 refine tA 10 hHr5 ?_;try simp only [Act.put,jj]
 refine tA 11 hHr5 ?_;try simp only [Act.put,jj]
 refine wpAnyH_ready (rs:=[13]) (by kernel_rfl) (by simp) ?_;refine AllReadyH.cons rfl (fun K hK=>?_) AllReadyH.nil;go_simp;have hWs:=jw y0 y1 (.slice A4 4 c4) (.slice D4 6 d4);have hsz0:=hb4.size;have hb8:=hb4.trans (hWs.agr.below (B:=W.drew.heap.size) hsz0 (fun i hi=>by show W.heap.size ≤ i;omega));have r0:=hWs.new_ 0 _ rfl;have r1:=hWs.new_ 1 _ rfl;rw [Nat.add_zero] at r0;have hF6:=(hF4.keep (w':=((w4.setCell ⟨bz,0,none⟩ (.slice A4 4 c4)).setCell ⟨bz,1,none⟩ (.slice D4 6 d4))) fun b hb hl=>hWs.block b (by omega)).fl;have hD6:=hD4.keep (w':=((w4.setCell ⟨bz,0,none⟩ (.slice A4 4 c4)).setCell ⟨bz,1,none⟩ (.slice D4 6 d4))) fun b hb hl=>hWs.block b (by have:=hl4 b hb;omega);refine hK.out _ _ (⟨(hs.out _ hb8).x0,(hs.out _ hb8).x1⟩) (fun hHr6=>?_);clear hK K;try simp only [Act.put,jj]
 refine tA 14 hHr6 ?_;try simp only [Act.put,jj]
 refine wpAnyH_done (by kernel_rfl) ?_ _;have hHs:=hs.out _ hb8;have hHt:Held ((w4.setCell ⟨bz,0,none⟩ (.slice A4 4 c4)).setCell ⟨bz,1,none⟩ (.slice D4 6 d4)) bz A4 D4 4 c4 6 d4 t:=⟨hF6,hD6,r0,r1,(zh HOt.out.flash).symm,HOt.out.len.symm⟩;have hB5:=hvd.trans (hb8.mono (by have h:=hvd.size;exact h));obtain ⟨W5,hW5⟩:∃ W,((w4.setCell ⟨bz,0,none⟩ (.slice A4 4 c4)).setCell ⟨bz,1,none⟩ (.slice D4 6 d4)) = W:=⟨_,rfl⟩;rw [hW5] at hHs hHt hB5
 (try rw [hW5])
 clear hW5 hb8 hb4 r0 r1 hF6 hD6 hF4 hD4 hl4;exact Qc.mk' rfl ⟨_,bx,bz,A1,D1,A4,D4,c1,d1,c4,d4,rfl,rfl,rfl,rfl,rfl,rfl,rfl,hHs,hHt⟩ (Below.bel h0 hB5)
theorem Qe {s:St} (hs:Okay s) (A D:Option Addr) (c d:Nat) (w:World) (hF:Fl w A s.flash) (hD:Row w D (ints s.disk)) :
 Calls Tryz.prog 18 #[.agg #[.slice A 4 c, .slice D 6 d]] w fun e w'=>∃ g,e = .returned (.slice (some ⟨g,0,none⟩) 6 6)∧w.heap.size ≤ g∧Row w' (some ⟨g,0,none⟩) (ints (allV s))∧Below w.heap.size w w' :=
 (Jn s A D 4 6 c d w (zh hs.flash).symm hs.len.symm hF hD).mono fun e w' q=>by
  obtain ⟨hb,⟨_,g,rfl,h1,h2⟩ | ⟨h,_⟩⟩:=q
  . exact ⟨g,rfl,h1,h2,hb⟩
  rw [xy.2 hs] at h;cases h
theorem zqf {W0 W:World} {s t u:St} {k:Nat} {v:Int} {ys:List Sp} {A1 D1 A4 D4:Option Addr} {c1 d1 c4 d4 bx bz:Nat} (h0:Bel W0 W) (HOK:Hid (Okay s)) (HOt:Hid (Okay t)) (HOu:Hid (Okay u)) (HY:Hid (kt t (wr t.flash 1 ((k:Int) + 1) v) = ys)) (hyl:ys.length ≤ 8) (hy1:0 < ys.length) (HTR:Hid (toR t ys (ys.length:Int) false = (u,true))) (hk6:k < 6) (HAL:Hid ((allV s).set k v = allV u))
 (hH:Held W bx A1 D1 4 c1 6 d1 s) (hH2:Held W bz A4 D4 4 c4 6 d4 t) (T:Array Value) (hT:T.size = 116)
 (t5:T[5]? = some (.pointer (some ⟨bx,0,none⟩))) (t6:T[6]? = some (.int .i64 ((k:Int) + 1))) (t7:T[7]? = some (.int .i64 v)) (t9:T[9]? = some (.pointer (some ⟨bz,0,none⟩))) (t10:T[10]? = some (.bool true)) :
 pa8.wp Tryz.prog (Ja (fun _ _=>False) paR W0) ⟨T,[]⟩ W:=by
 have x0:=hH.x0;have x1:=hH.x1;have z0:=hH2.x0;have z1:=hH2.x1;have hy2:(0:Int) < (ys.length:Int):=by omega
 simp only [pa8,Tryz.f4];replace hT:=exT hT;iterate 116 (obtain ⟨_,hT⟩:=hT)
 dsimp only [Ex] at hT;subst hT;simp only [List.getElem?_toArray,List.getElem?_cons_succ,List.getElem?_cons_zero,Option.some.injEq,Nat.reduceAdd,Nat.zero_add] at t5 t6 t7 t9 t10;subst t5 t6 t7 t9 t10;go_wp2_with fail
 refine (X1 HY.out A4 D4 _ _ c4 d4 _ hH2.hn hH2.hm hH2.fl hH2.dk).mono ?_;rintro e w2 ⟨V,vc,rfl,hX,_,hxc,hb⟩;have hB2:Below W.heap.size W w2:=hb;replace hH:=hH.below hb nl;replace hH2:=hH2.below hb nl;replace x0:=hH.x0;replace x1:=hH.x1;replace z0:=hH2.x0;replace z1:=hH2.x1;clear hb;go_wp2_with fail
 refine (Zv HTR.out HOu.out.fine (by omega) A4 D4 V 4 6 c4 d4 vc _ _ hH2.hn hH2.hm rfl hH2.fl hH2.dk hX).mono ?_;rintro e w4 ⟨A5,c5,D5,d5,rfl,hF5,hD5,_,hb⟩;have hs4:=hb.size;have hB4:=hB2.trans (hb.mono hB2.size);clear hH2 z0 z1 hX hB2;replace hH:=hH.below hb nl;have hHu:=Held.ok HOu.out c5 d5 hF5.fl hD5;replace hH:=hH.below ((Below.refl w4.heap.size w4).alloc nl (.cells #[.slice A5 4 c5, .slice D5 6 d5] 28)) nl;have hBW:=hB4.alloc hB4.size (.cells #[.slice A5 4 c5, .slice D5 6 d5] 28);have hzW:(w4.alloc (.cells #[.slice A5 4 c5, .slice D5 6 d5] 28)).heap.size = w4.heap.size + 1:=by simp
 obtain ⟨W4,hEW4⟩:∃ X,w4.alloc (.cells #[.slice A5 4 c5, .slice D5 6 d5] 28) = X:=⟨_,rfl⟩;obtain ⟨bt,hEbt⟩:∃ b,w4.heap.size = b:=⟨_,rfl⟩;rw [hEW4] at hHu hBW hzW hH;rw [hEbt] at hHu hzW;have t0:=hHu.x0;have t1:=hHu.x1;replace x0:=hH.x0;replace x1:=hH.x1;clear hb hB4 hF5 hD5;go_wp2_with fail
 refine (Qe HOK.out A1 D1 c1 d1 _ hH.fl hH.dk).mono ?_;rintro e w5 ⟨g5,rfl,hg5,hL5,hb5⟩;have hs5:=hb5.size;have hHu5:=hHu.below hb5 nl;clear hH x0 x1;replace t0:=hHu5.x0;replace t1:=hHu5.x1;obtain ⟨cg,fg⟩:=hL5.int_ (zi1 s hk6);rw [Nat.zero_add] at cg fg;have e2:IntKind.i64.wrap ((k:Int) + 1 - 1) = (k:Int):=by rw [IntWalk.i64_in _ (by omega)];omega
 have e3:IntKind.i64.wrap (k:Int) = (k:Int):=IntWalk.i64_in _ (by omega);have hk1:(k:Int) < 6:=by omega
 have hWr:=zq cg (.int .i64 v);have hAg:=hWr.agr;have hN5:Row (w5.setCell ⟨g5,k,none⟩ (.int .i64 v)) (some ⟨g5,0,none⟩) (ints (allV u)):=by
  rw [← HAL.out,Qp];exact xt.row (w:=w5) (by rw [Nat.zero_add];exact hWr) hL5 (by rw [yj,zeb];simp;omega)
 have hBs:Below W4.heap.size W4 (w5.setCell ⟨g5,k,none⟩ (.int .i64 v)):=hb5.trans (hAg.below (B:=W4.heap.size) (by omega) (fun i hi=>by omega));have hHu7:=hHu.below hBs nl;have hB7:=hBW.trans (hBs.mono hBW.size);replace t0:=hHu7.x0;replace t1:=hHu7.x1;clear hWr hAg hL5 hHu5 hBs hHu hb5;go_wp2_with fail
 refine (Qd HOu.out A5 D5 c5 d5 _ hHu7.fl hHu7.dk).mono ?_;rintro e w8 ⟨A6,c6,rfl,hL6,hb⟩;have hB8:=hB7.trans (hb.mono hB7.size);replace hN5:=hN5.below hb nl;replace hHu7:=hHu7.below hb nl;replace t0:=hHu7.x0;replace t1:=hHu7.x1;clear hb hB7;go_wp2_with fail
 refine (zdp rfl rfl A6 _ c6 6 _ hL6 hN5).mono ?_;rintro e w9 ⟨rfl,hb⟩;have hB9:=hB8.trans (hb.mono hB8.size);replace hHu7:=hHu7.below hb nl;replace t0:=hHu7.x0;replace t1:=hHu7.x1;clear hb hB8 hL6 hN5;go_wp2_with fail
 refine (zaq HOu.out A5 D5 c5 d5 _ hHu7.fl hHu7.dk).mono ?_;rintro e w10 ⟨rfl,hb⟩;have hBf:=hB9.trans (hb.mono hB9.size);clear hHu7 t0 t1;go_wp2;exact Ja.mkR rfl ⟨_,rfl,rfl,rfl⟩ (Below.bel h0 hBf)
end
section
open Go.RowKit Go.WideShapes Go.ChangeShapes
section
variable {H:Type} {enc:TypeId × Value->H} {P:Program}
theorem zel {t:TypeId} (hl:laidOutB P = true) (hr:P.readableRec t = true) (hrow:t < P.types.size) {W W':World} {v:Value} {d:DataW H} {ps qs:List MemPlace} {sp:Nat->Bool}
 (h:DataW.Trod enc P W 0 (fun _=>true) true t v d ps) (hb:Below W.heap.size W W') (hlt:∀ x ∈ qs,x.block < W.heap.size) (hsp:∀ p ∈ qs,sp p.block = true) (hq:∀ x ∈ ps,x ∈ qs):DataW.Trod enc P W' 0 sp true t v d ps :=
 WideElems.Trod_stays hl hr hrow h (fun x hx=>hb.same (hlt x (hq x hx))) (fun x hx=>hsp x (hq x hx))
theorem zdl {f:Func} {s:ChangeSpec} {apart fresh handsOn again:Bool} {W W':World} {args:Array Value} {v:Value} {ds gs:List (DataW H)} {before pa pv:List MemPlace}
 (hW:DataW.Whole enc P f.params.toList s.vars apart W args.toList ds gs before)
 (hres:∀ (b:Nat) (sp:Nat->Bool) (hd:Bool),DataW.TrodAll enc P W' b sp hd f.resultTypes.toList (v.resultList f.resultTypes.size) (s.fn H (ds ++ gs)).results [])
 (hargs:∀ sp:Nat->Bool,(∀ p ∈ before,sp p.block = true)->DataW.TrodAll enc P W' 0 sp true f.params.toList args.toList (s.fn H (ds ++ gs)).args pa)
 (hvars:∀ sp:Nat->Bool,(∀ p ∈ before,sp p.block = true)->DataW.TrodVars enc P W' sp s.vars (s.fn H (ds ++ gs)).vars pv)
 (hps:before = pa ++ pv) (hb:Below W.heap.size W W')
 (hok:∀ (j:Nat) (t:TypeId) (r:Value),f.resultTypes[j]? = some t->(v.resultList f.resultTypes.size)[j]? = some r->Value.okWide P W' .any 0 t r) :
 s.post enc P f apart fresh handsOn again W args v W':=by
 have hlt:∀ p ∈ before,p.block < W.heap.size:=fun p hp=>hW.lt p hp;have hold:∀ p ∈ before,(fun b=>decide (b < W.heap.size)) p.block = true:=fun p hp=>by simpa using hlt p hp
 refine ⟨ds,gs,before,[],pa,pv,hW,hres _ _ _,hargs _ hold,hvars _ hold,World.keptBut_mono (fun p hp=>⟨hp, ?_⟩) (hb.frame (· ∈ before)),fun _=>?_⟩
 . rw [hps,List.mem_append] at hp;exact Or.inr hp
 obtain ⟨_,_,_,_,_,hz,hn⟩:=hW;refine ⟨hok,_,_,([] ++ pa) ++ pv,⟨[] ++ pa,pv,trodAll_append (hargs _ (fun _ _=>rfl)) (hres _ _ _),hvars _ (fun _ _=>rfl),rfl, ?_, ?_⟩, ?_⟩
 . intro b off hp;have hin:MemPlace.cell b off ∈ before:=by rw [hps];simpa using hp
   rw [hb.frozen (hlt _ hin)];exact hz b off hin
 . intro ha;have:=hn ha;rw [hps] at this
   simpa using this
 intro p hp _;rw [hps]
 simpa using hp
end
end
section
open Go.Conc
theorem zjw {H:Type} {enc:TypeId × Value->H} {a:Assume} {C:Checked} {os:Os} {f:FuncId} {fn:Func} {s:ChangeSpec} {conds:List PathCond} {apart fresh handsOn again:Bool}
 (own:ownKnob C.prog.godebug = none) (started:os.Started) (hfn:C.prog.funcs[f]? = some fn)
 (wit:∃ (w:World) (tape:Tape) (i:Input),w.os = os∧(w.forCall tape i).Shaped C.prog∧i.vars = []∧Input.okWide C.prog (w.forCall tape i) .any w.heap.size f i ∧
  s.pre6 enc C.prog fn conds apart (w.forCall tape i).memory i.args∧a.holds C.prog (lone (Frame.enter C.prog f i.args .normal) [] (w.forCall tape i)))
 (runs:∀ (W:World) (base:Nat) (args:Array Value) (ds gs:List (DataW H)) (before:List MemPlace),
  (∀ (j:Nat) t v,fn.params[j]? = some t->args[j]? = some v->Value.okWide C.prog W .any base t v)->DataW.Whole enc C.prog fn.params.toList s.vars apart W args.toList ds gs before ->
  ∃ M last o w' t', runNT C.prog (M + 1) (solo (G (Frame.enter C.prog f args .normal) []) W) #[] = (.ended o w', t') ∧ runN C.prog M (solo (G (Frame.enter C.prog f args .normal) []) W) = .next last ∧
    step C.prog last = .ended o w'∧Conc.Good C.prog (fun v W'=>s.post enc C.prog fn apart fresh handsOn again W args v { W' with tape:=W.tape }) last o w' t') :
 ReturnsInLeavingWide a C os f .any (s.pre6 enc C.prog fn conds apart) (s.post enc C.prog fn apart fresh handsOn again):=by
 refine returnsInLeavingWide_of_good own started wit fun w tape i _ _ _ hok hpre _=>?_;obtain ⟨_,_,_,fn',h1,_,_,_,_,hval⟩:=hok;obtain rfl:fn = fn':=Option.some.inj (hfn.symm.trans h1);obtain ⟨⟨ds,gs,before,hw,_⟩,_⟩:=hpre;obtain ⟨M,last,o,w',t',g1,g2,g3,g4⟩:=runs (w.forCall tape i) w.heap.size i.args ds gs before hval (DataW.Whole.of_heap (w':=w.forCall tape i) (by rfl) hw);refine ⟨M,last,o,w',t',g1,g2,g3,g4.mono fun v hp=>?_⟩;have:=ChangeSpec.post_blind hp;exact this
end
section
open Go.RowKit Go.ChangeShapes Go.WideShapes Go.Deep
section
variable {H:Type} {enc:TypeId × Value->H} {w:World} {base fuel:Nat} {spare:Nat->Bool} {held:Bool}
theorem zg0 {w:World} {a:Addr} {u:Value} (h:w.cell? a = some u):∃ b o,a = ⟨b,o,none⟩:=by
 obtain ⟨b,o,s⟩:=a;cases s with
 | none=>exact ⟨b,o,rfl⟩
 | some s =>
   have:w.cell? ⟨b,o,some s⟩ = none:=by
    unfold World.cell?;split
    . exact if_pos rfl
    rfl
   rw [this] at h;cases h
theorem zkb:Tryz.prog.cellsOf 5 = 1:=by kernel_rfl
theorem ziv {cs:List Value} {x:DataW H × List MemPlace} (h:DataW.trod enc Tryz.prog w base spare held fuel 22 cs = some x):∃ A c bs,cs = [.slice A (List.length bs) c]∧Code w A bs c:=by
 rcases open_ints Tryz.underlying22 Tryz.underlying5 zkb h with ⟨rfl,_⟩ | ⟨a,len,cap,zs,rfl,_,hlc,hcm,hzl,_,hcell,hwf⟩
 . exact ⟨none,0,[],rfl,⟨Nat.le_refl _,by omega,by simp,fun h=>absurd rfl h⟩⟩
 have hlz:len ≤ zs.length:=by rw [hzl];split <;> omega
 have hz:∀ i,i < zs.length->zs.getD i 0 ∈ zs:=fun i hi=>by
  rw [List.getD_eq_getElem?_getD,List.getElem?_eq_getElem hi];exact List.getElem_mem hi
 have hr:∀ n ∈ zs,0 ≤ n∧n < 256:=fun n hn=>by
  have:=hwf n hn;have h1:IntKind.u8.min = 0:=rfl;have h2:IntKind.u8.max = 255:=rfl;change (decide (IntKind.u8.min ≤ n) && decide (n ≤ IntKind.u8.max)) = true at this;rw [h1,h2] at this;simp at this;omega
 refine ⟨some a,cap,(List.range len).map fun i=>(zs.getD i 0).toNat,by simp,⟨by simpa using hlc,by unfold maxLen at hcm;omega,fun b hb=>?_,fun hne=>?_⟩⟩
 . obtain ⟨i,hi,rfl⟩:=List.mem_map.1 hb;have:=hr _ (hz i (by have:=List.mem_range.1 hi;omega));omega
 have hn:0 < len:=by
  rcases Nat.eq_zero_or_pos len with h0 | h0
  . rw [h0] at hne;simp [bytes] at hne
  exact h0
 have h0:=hcell 0 (by omega);obtain ⟨b,o,rfl⟩:=zg0 (a:=a) (by simpa [Addr.add] using h0);refine ⟨b,o,rfl,fun j u hj=>?_⟩;have hjl:j < len:=by
  have:=(List.getElem?_eq_some_iff.1 hj).1
  simpa [bytes] using this
 have hc:=hcell j (by omega);rw [Qt] at hc;rw [hc];have hb:=hr _ (hz j (by omega));rw [bytes,List.getElem?_map,List.getElem?_map,List.getElem?_range hjl] at hj;simp only [Option.map_some,Option.some.injEq] at hj;rw [← hj];have:(((zs.getD j 0).toNat:Nat):Int) = zs.getD j 0:=by omega
 rw [this]
end
end
end Go.Proofs.YtclnogfmmekooaaGreat
