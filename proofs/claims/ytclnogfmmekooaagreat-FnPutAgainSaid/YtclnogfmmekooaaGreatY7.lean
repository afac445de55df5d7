/- What the laws' walks share: words, plain laws, and the walks of functions, part 7. -/
import Derived.Deep.RegionHeld3
import Derived.BigQuiet
import Derived.Test.YtclnogfmmekooaaGreatY6
set_option linter.unusedVariables false
set_option linter.unusedSimpArgs false
set_option maxHeartbeats 16000000
set_option maxRecDepth 100000
namespace Go.Proofs.YtclnogfmmekooaaGreat
section
open Go.RowKit Go.Maps
def Zg (f:List Bk) (i:Nat) (v:Int):Prop:=0 < (last f ((i:Int) + 1)).seq∧(last f ((i:Int) + 1)).kind = 2∧(last f ((i:Int) + 1)).val ≠ v
instance (f:List Bk) (i:Nat) (v:Int):Decidable (Zg f i v):=by unfold Zg;infer_instance
def jm (f:List Bk):Nat->List Int->Bool
 | _,[]=>true
 | i,v :: r=>if valB v = true then (if Zg f i v then false else jm f (i + 1) r) else false
def z8 (s:St):Bool:=if s.disk.length = 6 then (if z6 s.flash = true then jm s.flash 0 s.disk else false) else false
theorem Y2 (r:Rc) (w:World):Calls Tryz.prog 33 #[.agg #[.int .i64 r.kind, .int .i64 r.seq, .int .i64 r.addr, .int .i64 r.val]] w fun e w'=>e = .returned (.bool (decide (r.kind = 1)))∧Below w.heap.size w w':=by
 go_enter Tryz.func33,Tryz.ntmps33
 go_wp2;go_ret;exact ⟨zg (by rw [Bool.eq_iff_iff];simp),bw⟩
theorem yi {xs:List Int} (h:xs ≠ []):ints xs ≠ []:=fun e=>h (by
 have:=congrArg List.length e;rw [yj] at this;exact List.length_eq_zero_iff.1 this)
theorem zax {r:Rc} (h:0 < r.seq):Zo r = some r:=by unfold Zo;rw [if_pos h]
theorem zay {r:Rc} (h:¬ 0 < r.seq):Zo r = none:=by unfold Zo;rw [if_neg h]
theorem zcc {f:List Bk} (h:ze f = true):∀ b ∈ f,∀ p ∈ b.pages,zn p = true:=fun b hb=>(xi h hb).2.2.2
theorem zal {f:List Bk} (h:ze f = true) {a:Int} (h0:0 < (last f a).seq):(last f a).kind = 1∨(last f a).kind = 2:=by
 have:=(J8 (zcc h) h0).1;unfold xj zdr at this;simp at this;omega
theorem Zn (s:St) (A D:Option Addr) (n m c d:Nat) (w:World) (hn:n = s.flash.length) (hm:m = s.disk.length) (hF:Fl w A s.flash) (hD:Row w D (ints s.disk)) :
 Calls Tryz.prog 11 #[.agg #[.slice A n c, .slice D m d]] w fun e w'=>e = .returned (.bool (z8 s))∧Below w.heap.size w w':=by
 subst hn;subst hm;have hB0:Below w.heap.size w (w.alloc (.cells #[.slice A s.flash.length c, .slice D s.disk.length d] 28)):=(Below.refl _ _).alloc nl _;have hF0:=hF.below hB0 nl;have hD0:=hD.below hB0 nl;by_cases h6:s.disk.length = 6
 . have H6:=Lib.hid h6;have hfin:Hid (z8 s = if z6 s.flash = true then jm s.flash 0 s.disk else false):=by unfold Hid z8;rw [if_pos h6]
   obtain ⟨db,dO,rfl⟩:=hD.addr (yi (by intro e;rw [e] at h6;simp at h6));rw [h6] at hB0 hF0 hD0 ⊢;clear h6
   go_enter Tryz.func11,Tryz.ntmps11
   go_wp2_with fail
   refine (zbp s.flash A _ c _ rfl hF0).mono ?_;rintro e w1 ⟨rfl,hb⟩;have hs1:=hb.size;simp only [World.size_alloc] at hs1;have x0:w1.cell? ⟨w.heap.size,0,none⟩ = some (.slice A s.flash.length c):=(hb.cell (p:=⟨w.heap.size,0,none⟩) (by simp)).trans (by simp);have x1:w1.cell? ⟨w.heap.size,1,none⟩ = some (.slice (some ⟨db,dO,none⟩) 6 d):=(hb.cell (p:=⟨w.heap.size,1,none⟩) (by simp)).trans (by simp);have hF1:=hF0.below hb nl;have hD1:=hD0.below hb nl;have hB1:=hB0.trans (hb.mono (by simp));clear hb hF0 hD0 hB0;by_cases hord:z6 s.flash = true
   . have hok:=Ql hord;have hfin2:Hid (z8 s = jm s.flash 0 s.disk):=by rw [Hid,hfin.out,if_pos hord]
     have hlm:=Lib.hid (fun a=>zcf hok a);have hkd:=Lib.hid (fun a h=>zal (a:=a) hok h);have hrc:=Lib.hid (fun a h=>J8 (a:=a) (zcc hok) h);rw [hord];clear hord hfin;go_wp2_with fail
     refine (Xl s.flash A _ c _ rfl hok hF1).mono ?_;rintro e w2 ⟨rfl,hM,hb⟩;have hs2:=hb.size;replace x0:=(hb.cell (p:=⟨w.heap.size,0,none⟩) (by show w.heap.size < _;omega)).trans x0;replace x1:=(hb.cell (p:=⟨w.heap.size,1,none⟩) (by show w.heap.size < _;omega)).trans x1;have hD2:=hD1.below hb nl;have hB2:=hB1.trans (hb.mono (by omega));have hMl:=hM.lt;clear hb hF1 hD1 hB1 hok;go_wp2
     go_loopw [25] (fun i wr=>∃ k:Nat,k ≤ 6∧i = .int .i64 k∧Below w2.heap.size w2 wr∧Hid (jm s.flash 0 s.disk = jm s.flash k (s.disk.drop k))) (fun i _=>6 - (intOf i).toNat)
     case atStart=>exact ⟨0,by omega,rfl,Below.refl _ _,rfl⟩
     case round =>
      obtain ⟨k,hk,rfl,hB,hT⟩:=hrel;by_cases hlt:k < 6
      . obtain ⟨v,hv⟩:=zc (l:=s.disk) (k:=k) (by rw [H6.out];exact hlt);obtain ⟨cv,_⟩:=(hD2.below hB nl).int_ hv;have hk1:(k:Int) < 6:=by omega
        have e1:IntKind.i64.wrap ((k:Int) + 1) = (k:Int) + 1:=IntWalk.i64_in _ (by omega);have hT2:Hid (jm s.flash 0 s.disk = if valB v = true then (if Zg s.flash k v then false else jm s.flash (k + 1) (s.disk.drop (k + 1))) else false):=by rw [Hid,hT.out,zr hv,jm]
        have hlk:=(hM.below hB hMl).look_ok (t:=59) Tryz.underlying59 Tryz.underlying3 zcz (k:=(k:Int) + 1) (zkk (by omega));rw [hlm.out] at hlk;have hkdk:=Lib.hid (hkd.out ((k:Int) + 1));have hdb:Hid (Zg s.flash k v ↔ (0 < (last s.flash ((k:Int) + 1)).seq∧(last s.flash ((k:Int) + 1)).kind = 2∧(last s.flash ((k:Int) + 1)).val ≠ v)):=Iff.rfl;generalize last s.flash ((k:Int) + 1) = r at *;unfold rcV at hlk;clear hv hT;by_cases hvo:valB v = true
        . have hT3:=hT2.out;rw [if_pos hvo] at hT3;replace hT3:=Lib.hid hT3;have hval:=Kd v wr;rw [hvo] at hval;clear hvo hT2;by_cases hr:0 < r.seq
          . rw [zax hr] at hlk;simp only [Option.getD_some,Option.isSome_some] at hlk;have hBa:Below w2.heap.size w2 (wr.alloc (.cells #[.int .i64 r.kind, .int .i64 r.seq, .int .i64 r.addr, .int .i64 r.val] 64)):=hB.alloc hB.size _;go_wp2_with fail
            refine hval.mono ?_;rintro e w3 ⟨rfl,rfl⟩;go_wp2_with fail
            refine (Y2 r _).mono ?_;rintro e w3 ⟨rfl,hb3⟩;have y3:w3.cell? ⟨wr.heap.size,3,none⟩ = some (.int .i64 r.val):=(hb3.cell (p:=⟨wr.heap.size,3,none⟩) (by simp)).trans (by simp);have hB3:=hBa.trans (hb3.mono (by have:=hB.size;simp;omega));clear hb3 hBa hlk;by_cases h1:r.kind = 1
            . have hx:=hT3.out;rw [if_neg (fun e=>by have:=(hdb.out.1 e).2.1;omega)] at hx;replace hx:=Lib.hid hx;rw [show decide (r.kind = 1) = true from decide_eq_true h1];clear hT3 h1;go_wp2;go_roundw
              (case rel=>exact ⟨k + 1,by omega,by go_num,hB3,hx⟩)
              (case measure=>simp [intOf];omega)
            have h2:r.kind = 2:=by rcases hkdk.out hr with h | h;exact absurd h h1;exact h
            rw [show decide (r.kind = 1) = false from decide_eq_false h1];by_cases h3:r.val = v
            . have hx:=hT3.out;rw [if_neg (fun e=>(hdb.out.1 e).2.2 h3)] at hx;replace hx:=Lib.hid hx;have h3':(r.val != v) = false:=by rw [bne_eq_false_iff_eq];exact h3
              clear hT3 h1 h2 h3;go_wp2;go_roundw
              (case rel=>exact ⟨k + 1,by omega,by go_num,hB3,hx⟩)
              (case measure=>simp [intOf];omega)
            have hx:=hT3.out;rw [if_pos (hdb.out.2 ⟨hr,h2,h3⟩)] at hx;replace hx:=Lib.hid hx;have h3':(r.val != v) = true:=by rw [bne_iff_ne];exact h3
            clear hT3 h1 h2 h3;go_wp2;go_ret;exact ⟨zg (by rw [hfin2.out,hx.out]),hB2.trans (hB3.mono (by omega))⟩
          simp only [zay hr,Option.getD_none,Option.isSome_none,rc0] at hlk;have hx:=hT3.out;rw [if_neg (fun e=>hr (hdb.out.1 e).1)] at hx;replace hx:=Lib.hid hx;have hBa:Below w2.heap.size w2 (wr.alloc (.cells #[.int .i64 0, .int .i64 0, .int .i64 0, .int .i64 0] 64)):=hB.alloc hB.size _;clear hT3;go_wp2_with fail
          refine hval.mono ?_;rintro e w3 ⟨rfl,rfl⟩;go_wp2;go_roundw
          (case rel=>exact ⟨k + 1,by omega,by go_num,hBa,hx⟩)
          (case measure=>simp [intOf];omega)
        have hx:=hT2.out;rw [if_neg hvo] at hx;replace hx:=Lib.hid hx;have hval:=Kd v wr;rw [show valB v = false from by simpa using hvo] at hval;clear hvo hT2 hlk;go_wp2_with fail
        refine hval.mono ?_;rintro e w3 ⟨rfl,rfl⟩;go_wp2;go_ret;exact ⟨zg (by rw [hfin2.out,hx.out]),hB2.trans (hB.mono (by omega))⟩
      have hk4:(6:Int) ≤ (k:Int):=by omega
      have hx:Hid (jm s.flash 0 s.disk = true):=by rw [Hid,hT.out,List.drop_of_length_le (by rw [H6.out];omega)];rfl
      clear hT;go_wp2;go_ret;exact ⟨zg (by rw [hfin2.out,hx.out]),hB2.trans (hB.mono (by omega))⟩
   have hfin2:Hid (z8 s = false):=by rw [Hid,hfin.out,if_neg hord]
   rw [show z6 s.flash = false from by simpa using hord];clear hord;go_wp2;go_ret;exact ⟨zg hfin2.out.symm,hB1⟩
 have hfin:Hid (z8 s = false):=by unfold Hid z8;rw [if_neg h6]
 have h6':((s.disk.length:Int) != 6) = true:=by rw [bne_iff_ne];omega
 clear h6
 go_enter Tryz.func11,Tryz.ntmps11
 go_wp2;go_ret;exact ⟨zg hfin.out.symm,hB0⟩
end
section
open Go.RowKit Go.Maps
theorem Row.putInt {w w':World} {b o k:Nat} {xs:List Int} {x:Int} (h:Row w (some ⟨b,o,none⟩) (ints xs)) (hk:k < xs.length) (hw:xt w w' b (o + k) [.int .i64 x]):Row w' (some ⟨b,o,none⟩) (ints (xs.set k x)):=by
 rw [Qp];exact hw.row h (by rw [yj];simp;omega)
theorem Jf {s:St} (h:z8 s = true):s.disk.length = 6∧z6 s.flash = true∧jm s.flash 0 s.disk = true:=by
 unfold z8 at h;split at h
 . rename_i h1;split at h
   . rename_i h2;exact ⟨h1,h2,h⟩
   cases h
 cases h
def Jd (s:St):Nat->Nat->List Int
 | _,0=>[]
 | k,n + 1=>xe s ((k:Int) + 1) :: Jd s (k + 1) n
def allV (s:St):List Int:=Jd s 0 6
theorem zeb (s:St):(allV s).length = 6:=rfl
theorem Yo (s:St):∀ (n k j:Nat),j < n->(Jd s k n)[j]? = some (xe s (((k + j:Nat):Int) + 1))
 | 0,_,_,h=>by omega
 | n + 1,k,0,_=>by simp [Jd]
 | n + 1, k, j + 1, h => by
   rw [Jd,List.getElem?_cons_succ,Yo s n (k + 1) j (by omega)];congr 3;omega
theorem zi1 (s:St) {j:Nat} (h:j < 6):(allV s)[j]? = some (xe s ((j:Int) + 1)):=by
 have:=Yo s 6 0 j h;rw [Nat.zero_add] at this;exact this
theorem zko {xs:List Int} {k:Nat} {v:Int} (h6:xs.length = 6) (hk:k < 6) (hv:xs[k]? = some v) (u:Int) :
 ((xs.take k ++ (List.replicate 6 (0:Int)).drop k).set k u).set k v = xs.take (k + 1) ++ (List.replicate 6 (0:Int)).drop (k + 1):=by
 rw [List.set_set];exact zf8 0 xs 6 k v hv h6
theorem Jn (s:St) (A D:Option Addr) (n m c d:Nat) (w:World) (hn:n = s.flash.length) (hm:m = s.disk.length) (hF:Fl w A s.flash) (hD:Row w D (ints s.disk)) :
 Calls Tryz.prog 18 #[.agg #[.slice A n c, .slice D m d]] w fun e w'=>Below w.heap.size w w' ∧
  (z8 s = true∧(∃ g,e = .returned (.slice (some ⟨g,0,none⟩) 6 6)∧w.heap.size ≤ g∧Row w' (some ⟨g,0,none⟩) (ints (allV s)))∨z8 s = false∧e = .returned (.slice none 0 0)):=by
 subst hn;subst hm;have hmk:=zah;have hB0:Below w.heap.size w (w.alloc (.cells #[.slice A s.flash.length c, .slice D s.disk.length d] 28)):=(Below.refl _ _).alloc nl _;have hF0:=hF.below hB0 nl;have hD0:=hD.below hB0 nl
 go_enter Tryz.func18,Tryz.ntmps18
 go_wp2_with fail
 refine (Zn s A D _ _ c d _ rfl rfl hF0 hD0).mono ?_;rintro e w1 ⟨rfl,hb⟩;have hs1:=hb.size;simp only [World.size_alloc] at hs1;have x0:w1.cell? ⟨w.heap.size,0,none⟩ = some (.slice A s.flash.length c):=(hb.cell (p:=⟨w.heap.size,0,none⟩) (by simp)).trans (by simp);have x1:w1.cell? ⟨w.heap.size,1,none⟩ = some (.slice D s.disk.length d):=(hb.cell (p:=⟨w.heap.size,1,none⟩) (by simp)).trans (by simp);have hF1:=hF0.below hb nl;have hD1:=hD0.below hb nl;have hB1:=hB0.trans (hb.mono (by simp));clear hb hF0 hD0 hB0;by_cases hsok:z8 s = true
 . obtain ⟨h6,hord,_⟩:=Jf hsok;have hok:=Ql hord;have HSOK:=Lib.hid hsok;have hlm:=Lib.hid (fun a=>zcf hok a);have H6:=Lib.hid h6;obtain ⟨db,dO,rfl⟩:=hD1.addr (yi (by intro e;rw [e] at h6;simp at h6));rw [hsok];rw [h6] at x1;clear hsok hord;go_wp2_with fail
   refine (Xl s.flash A _ c _ rfl hok hF1).mono ?_;rintro e w2 ⟨rfl,hM,hb⟩;have hs2:=hb.size;replace x0:=(hb.cell (p:=⟨w.heap.size,0,none⟩) (by show w.heap.size < _;omega)).trans x0;replace x1:=(hb.cell (p:=⟨w.heap.size,1,none⟩) (by show w.heap.size < _;omega)).trans x1;have hD2:=(hD1.below hb nl).alloc (.cells #[.int .i64 0, .int .i64 0, .int .i64 0, .int .i64 0, .int .i64 0, .int .i64 0] 3);have hB2:=(hB1.trans (hb.mono (by omega))).alloc (by omega) (.cells #[.int .i64 0, .int .i64 0, .int .i64 0, .int .i64 0, .int .i64 0, .int .i64 0] 3);have hMl:=hM.lt;replace hM:=hM.alloc (.cells #[.int .i64 0, .int .i64 0, .int .i64 0, .int .i64 0, .int .i64 0, .int .i64 0] 3);have hwn:w.heap.size < w2.heap.size:=by omega
   have x1':(w2.alloc (.cells #[.int .i64 0, .int .i64 0, .int .i64 0, .int .i64 0, .int .i64 0, .int .i64 0] 3)).cell? ⟨w.heap.size,1,none⟩ = some (.slice (some ⟨db,dO,none⟩) 6 d):=(((Below.refl w2.heap.size w2).alloc nl _).cell (p:=⟨w.heap.size,1,none⟩) hwn).trans x1;have hR0:Row (w2.alloc (.cells #[.int .i64 0, .int .i64 0, .int .i64 0, .int .i64 0, .int .i64 0, .int .i64 0] 3)) (some ⟨w2.heap.size,0,none⟩) (ints ((allV s).take 0 ++ (List.replicate 6 (0:Int)).drop 0)):=Row.new w2 _ _;have hdb:db < w2.heap.size:=by
    obtain ⟨v,hv⟩:=zc (l:=s.disk) (k:=0) (by omega);have:=zd (hD1.int_ hv).1;omega
   have hs3:(w2.alloc (.cells #[.int .i64 0, .int .i64 0, .int .i64 0, .int .i64 0, .int .i64 0, .int .i64 0] 3)).heap.size = w2.heap.size + 1:=by simp
   clear hb hF1 hD1 hB1 hok h6;go_wp2;obtain ⟨W,hW⟩:∃ W,w2.alloc (.cells #[.int .i64 0, .int .i64 0, .int .i64 0, .int .i64 0, .int .i64 0, .int .i64 0] 3) = W:=⟨_,rfl⟩;rw [hW] at hD2 hB2 hM x1' hR0 hs3 ⊢;clear hW hmk x0 x1
   go_loopw [19] (fun i wr=>∃ k:Nat,k ≤ 6∧i = .int .i64 k∧Agr (· = w2.heap.size) W wr∧Row wr (some ⟨w2.heap.size,0,none⟩) (ints ((allV s).take k ++ (List.replicate 6 (0:Int)).drop k))) (fun i _=>6 - (intOf i).toNat)
   case atStart=>exact ⟨0,by omega,rfl,Agr.refl _ _,hR0⟩
   case round =>
    obtain ⟨k,hk,rfl,hA,hR⟩:=hrel;by_cases hlt:k < 6
    . obtain ⟨v,hv⟩:=zc (l:=s.disk) (k:=k) (by rw [H6.out];exact hlt);obtain ⟨cv,_⟩:=(hD2.agr hA (fun b hb=>by rw [zf] at hb;omega)).int_ hv;have hk1:(k:Int) < 6:=by omega
      have e1:IntKind.i64.wrap ((k:Int) + 1) = (k:Int) + 1:=IntWalk.i64_in _ (by omega);have hgd:s.disk.getD k 0 = v:=by rw [List.getD_eq_getElem?_getD,hv];rfl
      have hrv:Hid (xe s ((k:Int) + 1) = if 0 < (last s.flash ((k:Int) + 1)).seq then (last s.flash ((k:Int) + 1)).val else v):=by unfold Hid xe;rw [show ((k:Int) + 1 - 1).toNat = k by omega,hgd]
      have hlen:((allV s).take k ++ (List.replicate 6 (0:Int)).drop k).length = 6:=by simp [zeb];omega
      obtain ⟨q,hq⟩:=zc (l:=(allV s).take k ++ (List.replicate 6 (0:Int)).drop k) (k:=k) (by omega);obtain ⟨c0,f0⟩:=hR.int_ hq;rw [Nat.zero_add] at c0 f0;have hW1:=zq c0 (.int .i64 v);have hR1:=hR.putInt (k:=k) (x:=v) (by omega) (by rw [Nat.zero_add];exact hW1);have hA1:=hA.trans hW1.agr (fun _ _ h=>h);have hlk:=(show RMap Tryz.prog 3 (wr.setCell ⟨w2.heap.size,k,none⟩ (.int .i64 v)) w1.heap.size 16 (Xy (zl 0 s.flash)) from by
       obtain ⟨Dm,⟨es,ck,e,r⟩,h2⟩:=hM;exact ⟨Dm,⟨es,ck,(hA1.block w1.heap.size (by omega) (by omega)).trans e,r⟩,h2⟩).look_ok (t:=59) Tryz.underlying59 Tryz.underlying3 zcz (k:=(k:Int) + 1) (zkk (by omega))
      rw [hlm.out] at hlk;have hstep:=Lib.hid (fun (r:Int) (h:xe s ((k:Int) + 1) = r)=>zko (xs:=allV s) (k:=k) (v:=r) rfl hlt (by rw [zi1 s hlt,h]) v);have hR1':=Lib.hid hR1;have hA1':=Lib.hid hA1;have hsz:=hA.size;clear hv hgd hq hlen hR hW1 hR1 hA1;generalize last s.flash ((k:Int) + 1) = r at *;unfold rcV at hlk;by_cases hr:0 < r.seq
      . rw [zax hr] at hlk;simp only [Option.getD_some,Option.isSome_some] at hlk;have hx:=hstep.out r.val (by rw [hrv.out,if_pos hr]);have hlen2:(((allV s).take k ++ (List.replicate 6 (0:Int)).drop k).set k v).length = 6:=by simp [zeb];omega
        have hRa:=hR1'.out.alloc (.cells #[.int .i64 r.kind, .int .i64 r.seq, .int .i64 r.addr, .int .i64 r.val] 64);obtain ⟨q,hq⟩:=zc (l:=((allV s).take k ++ (List.replicate 6 (0:Int)).drop k).set k v) (k:=k) (by omega);obtain ⟨d0,g0⟩:=hRa.int_ hq;have hW2:=zq d0 (.int .i64 r.val);have hR2:=hRa.putInt (k:=k) (x:=r.val) (by omega) hW2;rw [hx] at hR2;have hA2:=(hA1'.out.alloc (.cells #[.int .i64 r.kind, .int .i64 r.seq, .int .i64 r.addr, .int .i64 r.val] 64)).trans hW2.agr (fun _ _ h=>h);rw [Nat.zero_add] at d0 g0 hR2 hA2;clear hq hlen2 hRa hW2 hr hx hrv hstep;go_wp2;go_roundw
        (case rel=>exact ⟨k + 1,by omega,by go_num,hA2,hR2⟩)
        (case measure=>simp [intOf];omega)
      simp only [zay hr,Option.getD_none,Option.isSome_none,rc0] at hlk;have hx:=hstep.out v (by rw [hrv.out,if_neg hr]);rw [List.set_set] at hx;have hRa:=hR1'.out.alloc (.cells #[.int .i64 0, .int .i64 0, .int .i64 0, .int .i64 0] 64);rw [hx] at hRa;have hA2:=hA1'.out.alloc (.cells #[.int .i64 0, .int .i64 0, .int .i64 0, .int .i64 0] 64);clear hr hx hrv hstep;go_wp2;go_roundw
      (case rel=>exact ⟨k + 1,by omega,by go_num,hA2,hRa⟩)
      (case measure=>simp [intOf];omega)
    have hk4:(6:Int) ≤ (k:Int):=by omega
    have hkk:k = 6:=by omega
    have hRf:Row wr (some ⟨w2.heap.size,0,none⟩) (ints (allV s)):=by rw [hkk] at hR;exact hR
    have hBf:=hB2.trans (hA.below (B:=w.heap.size) (by omega) (fun i hi=>by omega));clear hR hkk;go_wp2;go_ret;exact ⟨hBf, .inl ⟨HSOK.out,_,rfl,by omega,hRf⟩⟩
 have hsok':z8 s = false:=by simpa using hsok
 have HN:=Lib.hid hsok';rw [hsok'];clear hsok hsok';go_wp2;go_ret;exact ⟨hB1, .inr ⟨HN.out,rfl⟩⟩
def OwnI (w:World) (base:Nat) (v:Value) (xs:List Int):Prop:=w.ownsRow base 3 1 v xs.length (ints xs)
theorem OwnI.below {w w':World} {base B:Nat} {v:Value} {xs:List Int} (h:OwnI w base v xs) (hb:Below B w w') (hB:w.heap.size ≤ B):OwnI w' base v xs:=jq h fun b _ hl=>hb.block b (by omega)
theorem OwnI.agr {w w':World} {base:Nat} {v:Value} {xs:List Int} {S:Nat->Prop} (h:OwnI w base v xs) (hb:Agr S w w') (hS:∀ b,base ≤ b->¬ S b):OwnI w' base v xs:=by
 refine jq h fun b hbl hl=>hb.block b hl (hS b ?_);exact (World.ownsRow.lt h b hbl).1
theorem OwnI.alloc {w:World} {base:Nat} {v:Value} {xs:List Int} (h:OwnI w base v xs) (o:Obj):OwnI (w.alloc o) base v xs:=h.below (B:=w.heap.size) ((Below.refl _ _).alloc nl _) nl
theorem OwnI.nil (w:World) (base:Nat):OwnI w base (.slice none 0 0) []:=World.ownsRow_nil w base _ _
theorem OwnI.snoc {w:World} {base g n c:Nat} {xs:List Int} {x:Int} (hn:n = xs.length + 1) (h:w.ownsRow base 3 1 (.slice (some ⟨g,0,none⟩) (xs.length + 1) c) (xs.length + 1) (ints xs ++ [.int .i64 x])):OwnI w base (.slice (some ⟨g,0,none⟩) n c) (xs ++ [x]):=by
 subst hn;unfold OwnI ints;rw [List.length_append,List.map_append];exact h
theorem OwnI.out {w:World} {base:Nat} {v:Value} {xs:List Int} (h:OwnI w base v xs):∃ A c,v = .slice A xs.length c∧Row w A (ints xs)∧(∀ b,blk A b->base ≤ b∧b < w.heap.size)∧xs.length ≤ c:=by
 have h':=h;obtain ⟨hl,⟨hv,hz⟩ | ⟨g,cap,cur,hv,hb,hh,hnc,hm,hs,ht⟩⟩:=h
 . have hxs:xs = []:=List.eq_nil_of_length_eq_zero hz;subst hxs;exact ⟨none,0,hv,Row.nil _ _,(fun b hb=>by cases hb),Nat.le_refl _⟩
 refine ⟨some ⟨g,0,none⟩,cap,hv, ?_,fun b hb'=>?_,hnc⟩
 . rw [hv] at h';exact Row.of_own h'
 rw [zf] at hb';subst hb';exact ⟨hb,(Array.getElem?_eq_some_iff.1 hh).1⟩
end
section
open Go.RowKit Go.Maps
def yu (s:St):Prop:=Zx s.flash∧s.disk.length ≤ 6
theorem zbw {s:St} (h:xq s):yu s:=⟨zcm h.1,by rw [h.2.1];omega⟩
def zm4 (B R m:Nat) (w:World) (e:Ending) (w':World):Prop :=
 ∃ (A D:Option Addr) (c d:Nat) (s:St),e = .returned (.agg #[.slice A s.flash.length c, .slice D s.disk.length d])∧yu s∧OSt w' w.heap.size w'.heap.size A s.flash D s.disk∧Rd w' B R (m + 1200)∧Agr (· = R) w w'
theorem OSt.putDisk {w w':World} {lo hi db dO k:Nat} {A:Option Addr} {f:List Bk} {xs:List Int} {v:Int} (h:OSt w lo hi A f (some ⟨db,dO,none⟩) xs) (hk:k < xs.length) (hW:xt w w' db (dO + k) [.int .i64 v]):OSt w' lo hi A f (some ⟨db,dO,none⟩) (xs.set k v):=by
 obtain ⟨hs,h1,h2,h3,h4⟩:=h;have hd:=h4 db (zf.2 rfl);refine ⟨hs,h1.keep fun b hb hl=>hW.block b (fun e=>?_),h2,h3.putInt hk hW,h4⟩;subst e;rcases hb with hb | ⟨x,hx,hb⟩
 . exact hd.2.2.1 hb
 obtain ⟨i,hi'⟩:=List.getElem?_of_mem hx;exact hd.2.2.2 i x hi' hb
theorem OSt.agr {w w':World} {lo hi:Nat} {A D:Option Addr} {f:List Bk} {xs:List Int} {S:Nat->Prop} (h:OSt w lo hi A f D xs) (ha:Agr S w w') (hS:∀ b,lo ≤ b->b < hi->¬ S b):OSt w' lo hi A f D xs:=h.keep fun b h1 h2 hl=>ha.block b hl (hS b h1 h2)
def zo8 (b:Bk):Bk:={ b with worn:=200 }
def Zi (f:List Bk) (k:Nat):List Bk:=(f.take k).map zo8 ++ f.drop k
theorem Ju (f:List Bk) (k:Nat):(Zi f k).length = f.length:=by unfold Zi;rw [List.length_append,List.length_map,List.length_take,List.length_drop];omega
theorem zi9 {f:List Bk} {k:Nat}:(Zi f k)[k]? = f[k]?:=by
 unfold Zi;by_cases h:k < f.length
 . rw [List.getElem?_append_right (by simp;omega),List.length_map,List.length_take,List.getElem?_drop];congr 1;omega
 rw [List.getElem?_eq_none (by simp;omega),List.getElem?_eq_none (by omega)]
theorem zgk {f:List Bk} {k:Nat} {b:Bk} (h:f[k]? = some b):(Zi f k).set k { b with worn:=200 } = Zi f (k + 1):=by
 obtain ⟨hl,rfl⟩:=List.getElem?_eq_some_iff.1 h;unfold Zi;rw [List.set_append_right _ _ (by simp;omega),List.length_map,List.length_take,show k - min k f.length = 0 by omega,List.drop_eq_getElem_cons hl,List.set_cons_zero,List.take_succ_eq_append_getElem hl,List.map_append,List.append_assoc];rfl
theorem zeh {f:List Bk} (h:Zx f) (k:Nat):Zx (Zi f k):=by
 refine ⟨by rw [Ju];exact h.1,by rw [Ju];exact h.2.1,fun b hb=>?_⟩;unfold Zi at hb;rcases List.mem_append.1 hb with hb | hb
 . obtain ⟨c,hc,rfl⟩:=List.mem_map.1 hb;have:=h.2.2 c (List.mem_of_mem_take hc);exact ⟨this.1,⟨by show (-1:Int) ≤ 200;omega,by show (200:Int) ≤ 1000;omega⟩,this.2.2⟩
 exact h.2.2 b (List.mem_of_mem_drop hb)
theorem jw {w:World} {N:Nat} {u0 u1:Value} (q0:w.cell? ⟨N,0,none⟩ = some u0) (q1:w.cell? ⟨N,1,none⟩ = some u1) (v0 v1:Value):xt w ((w.setCell ⟨N,0,none⟩ v0).setCell ⟨N,1,none⟩ v1) N 0 [v0,v1] :=
 zp N [v0,v1] 0 w (fun j hj=>by
  match j,hj with
  | 0,_=>exact ⟨_,q0⟩
  | 1,_=>exact ⟨_,q1⟩)
theorem zc3 (B R m:Nat) (w:World) (hm:m ≤ 790000) (hR:Rd w B R m) :
 Calls Tryz.prog 60 #[.pointer (some ⟨R,0,none⟩)] w (zm4 B R m w):=by
 have hRl:=hR.lt;have hR0:=hR.alloc (.cells #[.slice none 0 0, .slice none 0 0] 28);have hq:=Row.new w #[.slice none 0 0, .slice none 0 0] 28;obtain ⟨q0,f0⟩:=hq.at0 (j:=0) rfl;obtain ⟨q1,f1⟩:=hq.at0 (j:=1) rfl;have hA0:Agr (· = R) w (w.alloc (.cells #[.slice none 0 0, .slice none 0 0] 28)):=(Agr.refl _ _).alloc _;have hs0:(w.alloc (.cells #[.slice none 0 0, .slice none 0 0] 28)).heap.size = w.heap.size + 1:=by simp
 clear hq
 go_enter Tryz.func60,Tryz.ntmps60
 go_wp2_with fail
 refine (Ys B R m _ (by omega) hR0).mono ?_;rintro e w1 ⟨v,A,D,c,lo,hi,s,xs,rfl,hlo,hhi,hc,hO,hst,_,_,_,hR1,hA1⟩;rw [hs0] at hlo;have hs1:=hA1.size;rw [hs0] at hs1;replace q0:=(hA1.cell (b:=w.heap.size) (by omega) (by omega) 0).trans q0;replace q1:=(hA1.cell (b:=w.heap.size) (by omega) (by omega) 1).trans q1;replace f0:=(hA1.fz (b:=w.heap.size) (by omega) (by omega) 0).trans f0;replace f1:=(hA1.fz (b:=w.heap.size) (by omega) (by omega) 1).trans f1;replace hA1:=hA0.trans hA1 (fun _ _ h=>h);obtain ⟨hlF,hlD⟩:s.flash.length = 4∧s.disk.length = 6:=⟨hst.1.1,hst.2.1⟩;have HLF:=Lib.hid hlF;have HLD:=Lib.hid hlD;have hsm:=Lib.hid (zbw hst);obtain ⟨db,dO,rfl⟩:=hO.disk.addr (yi (by intro e;rw [e] at hlD;simp at hlD));have hdb:lo ≤ db∧db < hi:=by obtain ⟨_,_,_,_,h4⟩:=hO;have:=h4 db (zf.2 rfl);exact ⟨this.1,this.2.1⟩
 clear hA0 hs0 hlF hlD hst hR0 hR;obtain ⟨W,hW⟩:∃ W,w1.alloc (.cells #[.slice A 4 c, .slice (some ⟨db,dO,none⟩) 6 6] 28) = W:=⟨_,rfl⟩;have hBW:Below w1.heap.size w1 W:=by rw [← hW];(repeat (first | (with_reducible exact Below.refl _ _) | (with_reducible assumption) | (refine Below.setCell ?_ (by first | omega | exact hB.size | exact hb.size | (have h:=hB.size;simp;omega) | (have h:=hb.size;simp;omega) | (simp;omega) | simp) _) | (refine Below.alloc ?_ (by first | omega | exact hB.size | exact hb.size | (have h:=hB.size;simp;omega) | (have h:=hb.size;simp;omega) | (simp;omega) | simp) _) | (refine Below.drew ?_)))
 have hWs:W.heap.size = w1.heap.size + 1:=by rw [← hW];simp
 have hM:=Row.new w1 #[.slice A 4 c, .slice (some ⟨db,dO,none⟩) 6 6] 28;rw [hW] at hM;obtain ⟨b0,g0⟩:=hM.at0 (j:=0) rfl;obtain ⟨b1,g1⟩:=hM.at0 (j:=1) rfl;replace q0:=(hBW.cell (p:=⟨w.heap.size,0,none⟩) (by show w.heap.size < _;omega)).trans q0;replace q1:=(hBW.cell (p:=⟨w.heap.size,1,none⟩) (by show w.heap.size < _;omega)).trans q1;replace f0:=(hBW.frozen (p:=⟨w.heap.size,0,none⟩) (by show w.heap.size < _;omega)).trans f0;replace f1:=(hBW.frozen (p:=⟨w.heap.size,1,none⟩) (by show w.heap.size < _;omega)).trans f1;replace hR1:=hR1.below hBW nl;replace hO:=hO.below hBW nl;replace hA1:Agr (· = R) w W:=hA1.trans (Agr.of_below hBW:Agr (fun _=>False) w1 W) (fun _ _ h=>h.elim);obtain ⟨n1,hn1⟩:∃ n1,w1.heap.size = n1:=⟨_,rfl⟩;rw [hn1] at hs1 hhi b0 b1 g0 g1 hWs;have HW:=Lib.hid hW;clear hW hM hBW;go_wp2_with fail
 (try rw [HW.out])
 (try rw [hn1])
 refine (zi 30 30 B R (m + 500) _ rfl (by omega) (by omega) (by omega) hR1).mono ?_;rintro e w2 ⟨k,rfl,hk,hR2,hA2⟩
 (try simp only [hn1])
 have hs2:=hA2.size;replace q0:=(hA2.cell (b:=w.heap.size) (by omega) (by omega) 0).trans q0;replace q1:=(hA2.cell (b:=w.heap.size) (by omega) (by omega) 1).trans q1;replace f0:=(hA2.fz (b:=w.heap.size) (by omega) (by omega) 0).trans f0;replace f1:=(hA2.fz (b:=w.heap.size) (by omega) (by omega) 1).trans f1;replace b0:=(hA2.cell (b:=n1) (by omega) (by omega) 0).trans b0;replace b1:=(hA2.cell (b:=n1) (by omega) (by omega) 1).trans b1;replace g0:=(hA2.fz (b:=n1) (by omega) (by omega) 0).trans g0;replace g1:=(hA2.fz (b:=n1) (by omega) (by omega) 1).trans g1;replace hO:=hO.agr hA2 (fun b h1 h2 h3=>by omega);replace hA2:=hA1.trans hA2 (fun _ _ h=>h);clear hA1 hR1 HW;have hs2':n1 < w2.heap.size:=by omega
 clear hs2 hWs hn1;by_cases h0:k = 0
 . have t0:((k:Int) == 0) = true:=by subst h0;rfl
   clear h0;have hR2d:=hR2.drew;have hA2d:=hA2.drew;have hOd:=hO.drew;have P6:=Lib.hid (fun (p:Nat) (X:World) (h:p ≤ 1000000) (hr:Rd X B R p)=>zi 6 6 B R p X rfl (by omega) (by omega) h hr);have P4:=Lib.hid (fun (p:Nat) (X:World) (h:p ≤ 1000000) (hr:Rd X B R p)=>zi 4 4 B R p X rfl (by omega) (by omega) h hr);have HD:=Lib.hid (fun (X:World) (h:Agr (· = R) w2.drew X)=>(show X.cell? ⟨n1,1,none⟩ = some (.slice (some ⟨db,dO,none⟩) 6 6) from (h.cell (b:=n1) hs2' (by omega) 1).trans b1));have hZ:=Lib.hid (fun (X:World)=>Row.new X #[.int .i64 (-1), .int .i64 10, .int .i64 0, .int .i64 5] 3);have hag0:Agr (· = R) w2.drew w2.drew:=Agr.refl _ _;have hd2:w2.drew.heap.size = w2.heap.size:=rfl;go_wp2;refine wp_region_held_drew (S:=fun X=>X.cell? ⟨n1,1,none⟩ = some (.slice (some ⟨db,dO,none⟩) 6 6)) (by kernel_rfl) (HD.out _ hag0) (fun hHeld0=>?_);refine tA 0 hHeld0 ?_;try simp only [Act.put,jj]
   refine tA 1 hHeld0 ?_;try simp only [Act.put,jj]
   refine tA 2 hHeld0 ?_;try simp only [Act.put,jj]
   refine tA 5 hHeld0 ?_;try simp only [Act.put,jj]
   refine wpAnyH_ready (rs:=[3,4]) (by kernel_rfl) (by simp) ?_;refine AllReadyH.cons rfl (fun K hK=>?_) (AllReadyH.cons rfl (fun K hK=>?_) AllReadyH.nil)
   . go_simp;refine (P6.out ((m + 501)) _ (by omega) hR2d).mono ?_;rintro e wk3 ⟨k3,rfl,hk3,hRk3,hAk3⟩;have hk3':(k3:Int) < 6:=by omega
     have hagk3:=hag0.trans hAk3 (fun _ _ h=>h);go_wp2_with fail
     refine hK.out _ _ (HD.out _ hagk3) (fun hHk3=>?_);clear hK K;try simp only [Act.put,jj]
     refine wpAnyH_ready (rs:=[4,6]) (by kernel_rfl) (by simp) ?_;refine AllReadyH.cons rfl (fun K hK=>?_) (AllReadyH.cons rfl (fun K hK=>?_) AllReadyH.nil)
     . go_simp;have hagb:=hagk3.alloc (.cells #[.int .i64 (-1), .int .i64 10, .int .i64 0, .int .i64 5] 3);have hRb:=hRk3.alloc (.cells #[.int .i64 (-1), .int .i64 10, .int .i64 0, .int .i64 5] 3);have hbxR:R < (wk3).heap.size:=by have:=hagk3.size;omega
       have hBt:=fun (j:Nat) (u:Value) (hu:([Value.int .i64 (-1),Value.int .i64 10,Value.int .i64 0,Value.int .i64 5])[j]? = some u)=>((hZ.out (wk3)).at0 hu).1;refine hK.out _ _ (HD.out _ hagb) (fun hHb=>?_);clear hK K;try simp only [Act.put,jj]
       refine wpAnyH_ready (rs:=[6]) (by kernel_rfl) (by simp) ?_;refine AllReadyH.cons rfl (fun K hK=>?_) AllReadyH.nil;go_simp;refine (P4.out ((m + 501) + 1) _ (by omega) hRb).mono ?_;rintro e wk4 ⟨k4,rfl,hk4,hRk4,hAk4⟩;have hk4':(k4:Int) < 4:=by omega
       have hagk4:=hagb.trans hAk4 (fun _ _ h=>h);replace hBt:=fun (j:Nat) (u:Value) (hu:([Value.int .i64 (-1),Value.int .i64 10,Value.int .i64 0,Value.int .i64 5])[j]? = some u)=>(hAk4.cell (b:=(wk3).heap.size) (by have:=zd (hBt 0 _ rfl);exact this) (by omega) j).trans (hBt j u hu);go_wp2_with fail
       refine hK.out _ _ (HD.out _ hagk4) (fun hHk4=>?_);clear hK K;try simp only [Act.put,jj]
       obtain ⟨v4,hv,hv1,hv2⟩:∃ v:Int,([Value.int .i64 (-1),Value.int .i64 10,Value.int .i64 0,Value.int .i64 5])[k4]? = some (.int .i64 v)∧-1 ≤ v∧v ≤ 1000:=by
        rcases (by omega:k4 = 0∨k4 = 1∨k4 = 2∨k4 = 3) with rfl | rfl | rfl | rfl <;> exact ⟨_,rfl,by omega,by omega⟩
       have z0:(wk4).cell? ⟨(wk3).heap.size,k4,none⟩ = some (.int .i64 v4):=hBt _ _ hv;have hve:∀ h:k4 < ([Value.int .i64 (-1),Value.int .i64 10,Value.int .i64 0,Value.int .i64 5]).length,([Value.int .i64 (-1),Value.int .i64 10,Value.int .i64 0,Value.int .i64 5])[k4]'h = .int .i64 v4:=fun h=>(List.getElem?_eq_some_iff.1 hv).2;refine tA 7 hHk4 ?_;try simp only [Act.put,jj]
       refine wpAnyH_ready (rs:=[8]) (by kernel_rfl) (by simp) ?_;refine AllReadyH.cons rfl (fun K hK=>?_) AllReadyH.nil;go_simp;refine hK.out _ _ (HD.out _ hagk4) (fun hHz=>?_);clear hK K;try simp only [Act.put,jj]
       refine tA 9 hHz ?_;try simp only [Act.put,jj]
       have hOe:=hOd.agr hagk4 (fun b h1 h2 h3=>by omega);obtain ⟨q5,hq5⟩:=zc (l:=s.disk) (k:=k3) (by rw [HLD.out];exact hk3);obtain ⟨d0,d1⟩:=hOe.disk.int_ hq5;have hWd:=zq d0 (.int .i64 v4);have hOg:=hOe.putDisk (k:=k3) (v:=v4) (by rw [HLD.out];exact hk3) hWd;have hAg2:=(hA2d.trans hagk4 (fun _ _ h=>h)).trans (S':=(· = db)) hWd.agr (fun b hb e=>by have:=hdb;omega);have hRg:=(hRk4.agr hWd.agr (by omega) (fun b hb e=>by have:=hRk4.le;omega));have hsX:=hagk4.size;have hsY:=hWd.size;refine wpAnyH_ready (rs:=[10]) (by kernel_rfl) (by simp) ?_;refine AllReadyH.cons rfl (fun K hK=>?_) AllReadyH.nil;go_simp;refine hK.out _ _ (by first | exact (hWd.agr.cell (b:=n1) (by have:=hagk4.size;omega) (by omega) 1).trans (HD.out _ hagk4)) (fun hHy=>?_);clear hK K;try simp only [Act.put,jj]
       replace q0:=(hWd.agr.cell (b:=w.heap.size) (by omega) (by omega) 0).trans ((hagk4.cell (b:=w.heap.size) (by show _ < w2.heap.size;omega) (by omega) 0).trans q0);replace q1:=(hWd.agr.cell (b:=w.heap.size) (by omega) (by omega) 1).trans ((hagk4.cell (b:=w.heap.size) (by show _ < w2.heap.size;omega) (by omega) 1).trans q1);replace f0:=(hWd.agr.fz (b:=w.heap.size) (by omega) (by omega) 0).trans ((hagk4.fz (b:=w.heap.size) (by show _ < w2.heap.size;omega) (by omega) 0).trans f0);replace f1:=(hWd.agr.fz (b:=w.heap.size) (by omega) (by omega) 1).trans ((hagk4.fz (b:=w.heap.size) (by show _ < w2.heap.size;omega) (by omega) 1).trans f1);replace b0:=(hWd.agr.cell (b:=n1) (by omega) (by omega) 0).trans ((hagk4.cell (b:=n1) (by show _ < w2.heap.size;omega) (by omega) 0).trans b0);replace b1:=(hWd.agr.cell (b:=n1) (by omega) (by omega) 1).trans ((hagk4.cell (b:=n1) (by show _ < w2.heap.size;omega) (by omega) 1).trans b1);have hsm2:yu ⟨s.flash,s.disk.set k3 v4⟩:=⟨hsm.out.1,by rw [List.length_set,HLD.out];omega⟩;replace hsm2:=Lib.hid hsm2;clear hWd hOe hOd z0 d0 d1 hq5 hBt hv;refine wpAnyH_done (by kernel_rfl) ?_ _;go_wp2;have hL:=jw q0 q1 (Value.slice A 4 c) (Value.slice (some ⟨db,dO,none⟩) 6 6);have hsz:=hL.size;have hOf:=hOg.agr hL.agr (fun b h1 h2 h3=>by omega);have hRf:=(hRg.agr hL.agr (by omega) (fun b hb e=>by have:=hRg.le;omega)).mono (n:=m + 1200) (by omega);have hAf:=hAg2.trans (S':=(· = w.heap.size)) hL.agr (fun b hb e=>by omega);have r0:=hL.new_ 0 _ rfl;have r1:=hL.new_ 1 _ rfl;clear hL;go_wp2;refine bodyPost_ret (v:=.agg #[Value.slice A 4 c,Value.slice (some ⟨db,dO,none⟩) 6 6]) (by simp [results,Tryz.results60,go_sem,r0,r1,q0,q1]) rfl ⟨A,(some ⟨db,dO,none⟩),c,6,⟨s.flash,s.disk.set k3 v4⟩, ?_,hsm2.out,hOf.mono (by omega) (by omega),hRf,hAf⟩;rw [List.length_set,HLF.out,HLD.out]
     go_simp;refine (P4.out ((m + 501) + 1) _ (by omega) hRk3).mono ?_;rintro e wk4 ⟨k4,rfl,hk4,hRk4,hAk4⟩;have hk4':(k4:Int) < 4:=by omega
     have hagk4:=hagk3.trans hAk4 (fun _ _ h=>h);go_wp2_with fail
     refine hK.out _ _ (HD.out _ hagk4) (fun hHk4=>?_);clear hK K;try simp only [Act.put,jj]
     refine wpAnyH_ready (rs:=[4]) (by kernel_rfl) (by simp) ?_;refine AllReadyH.cons rfl (fun K hK=>?_) AllReadyH.nil;go_simp;have hagb:=hagk4.alloc (.cells #[.int .i64 (-1), .int .i64 10, .int .i64 0, .int .i64 5] 3);have hRb:=hRk4.alloc (.cells #[.int .i64 (-1), .int .i64 10, .int .i64 0, .int .i64 5] 3);have hbxR:R < (wk4).heap.size:=by have:=hagk4.size;omega
     have hBt:=fun (j:Nat) (u:Value) (hu:([Value.int .i64 (-1),Value.int .i64 10,Value.int .i64 0,Value.int .i64 5])[j]? = some u)=>((hZ.out (wk4)).at0 hu).1;refine hK.out _ _ (HD.out _ hagb) (fun hHb=>?_);clear hK K;try simp only [Act.put,jj]
     obtain ⟨v4,hv,hv1,hv2⟩:∃ v:Int,([Value.int .i64 (-1),Value.int .i64 10,Value.int .i64 0,Value.int .i64 5])[k4]? = some (.int .i64 v)∧-1 ≤ v∧v ≤ 1000:=by
      rcases (by omega:k4 = 0∨k4 = 1∨k4 = 2∨k4 = 3) with rfl | rfl | rfl | rfl <;> exact ⟨_,rfl,by omega,by omega⟩
     have z0:((wk4).alloc (.cells #[.int .i64 (-1), .int .i64 10, .int .i64 0, .int .i64 5] 3)).cell? ⟨(wk4).heap.size,k4,none⟩ = some (.int .i64 v4):=hBt _ _ hv;have hve:∀ h:k4 < ([Value.int .i64 (-1),Value.int .i64 10,Value.int .i64 0,Value.int .i64 5]).length,([Value.int .i64 (-1),Value.int .i64 10,Value.int .i64 0,Value.int .i64 5])[k4]'h = .int .i64 v4:=fun h=>(List.getElem?_eq_some_iff.1 hv).2;refine tA 7 hHb ?_;try simp only [Act.put,jj]
     refine wpAnyH_ready (rs:=[8]) (by kernel_rfl) (by simp) ?_;refine AllReadyH.cons rfl (fun K hK=>?_) AllReadyH.nil;go_simp;refine hK.out _ _ (HD.out _ hagb) (fun hHz=>?_);clear hK K;try simp only [Act.put,jj]
     refine tA 9 hHz ?_;try simp only [Act.put,jj]
     have hOe:=hOd.agr hagb (fun b h1 h2 h3=>by omega);obtain ⟨q5,hq5⟩:=zc (l:=s.disk) (k:=k3) (by rw [HLD.out];exact hk3);obtain ⟨d0,d1⟩:=hOe.disk.int_ hq5;have hWd:=zq d0 (.int .i64 v4);have hOg:=hOe.putDisk (k:=k3) (v:=v4) (by rw [HLD.out];exact hk3) hWd;have hAg2:=(hA2d.trans hagb (fun _ _ h=>h)).trans (S':=(· = db)) hWd.agr (fun b hb e=>by have:=hdb;omega);have hRg:=(hRb.agr hWd.agr (by omega) (fun b hb e=>by have:=hRb.le;omega));have hsX:=hagb.size;have hsY:=hWd.size;refine wpAnyH_ready (rs:=[10]) (by kernel_rfl) (by simp) ?_;refine AllReadyH.cons rfl (fun K hK=>?_) AllReadyH.nil;go_simp;refine hK.out _ _ (by first | exact (hWd.agr.cell (b:=n1) (by have:=hagb.size;omega) (by omega) 1).trans (HD.out _ hagb)) (fun hHy=>?_);clear hK K;try simp only [Act.put,jj]
     replace q0:=(hWd.agr.cell (b:=w.heap.size) (by omega) (by omega) 0).trans ((hagb.cell (b:=w.heap.size) (by show _ < w2.heap.size;omega) (by omega) 0).trans q0);replace q1:=(hWd.agr.cell (b:=w.heap.size) (by omega) (by omega) 1).trans ((hagb.cell (b:=w.heap.size) (by show _ < w2.heap.size;omega) (by omega) 1).trans q1);replace f0:=(hWd.agr.fz (b:=w.heap.size) (by omega) (by omega) 0).trans ((hagb.fz (b:=w.heap.size) (by show _ < w2.heap.size;omega) (by omega) 0).trans f0);replace f1:=(hWd.agr.fz (b:=w.heap.size) (by omega) (by omega) 1).trans ((hagb.fz (b:=w.heap.size) (by show _ < w2.heap.size;omega) (by omega) 1).trans f1);replace b0:=(hWd.agr.cell (b:=n1) (by omega) (by omega) 0).trans ((hagb.cell (b:=n1) (by show _ < w2.heap.size;omega) (by omega) 0).trans b0);replace b1:=(hWd.agr.cell (b:=n1) (by omega) (by omega) 1).trans ((hagb.cell (b:=n1) (by show _ < w2.heap.size;omega) (by omega) 1).trans b1);have hsm2:yu ⟨s.flash,s.disk.set k3 v4⟩:=⟨hsm.out.1,by rw [List.length_set,HLD.out];omega⟩;replace hsm2:=Lib.hid hsm2;clear hWd hOe hOd z0 d0 d1 hq5 hBt hv;refine wpAnyH_done (by kernel_rfl) ?_ _;go_wp2;have hL:=jw q0 q1 (Value.slice A 4 c) (Value.slice (some ⟨db,dO,none⟩) 6 6);have hsz:=hL.size;have hOf:=hOg.agr hL.agr (fun b h1 h2 h3=>by omega);have hRf:=(hRg.agr hL.agr (by omega) (fun b hb e=>by have:=hRg.le;omega)).mono (n:=m + 1200) (by omega);have hAf:=hAg2.trans (S':=(· = w.heap.size)) hL.agr (fun b hb e=>by omega);have r0:=hL.new_ 0 _ rfl;have r1:=hL.new_ 1 _ rfl;clear hL;go_wp2;refine bodyPost_ret (v:=.agg #[Value.slice A 4 c,Value.slice (some ⟨db,dO,none⟩) 6 6]) (by simp [results,Tryz.results60,go_sem,r0,r1,q0,q1]) rfl ⟨A,(some ⟨db,dO,none⟩),c,6,⟨s.flash,s.disk.set k3 v4⟩, ?_,hsm2.out,hOf.mono (by omega) (by omega),hRf,hAf⟩;rw [List.length_set,HLF.out,HLD.out]
   go_simp;have hagb:=hag0.alloc (.cells #[.int .i64 (-1), .int .i64 10, .int .i64 0, .int .i64 5] 3);have hRb:=hR2d.alloc (.cells #[.int .i64 (-1), .int .i64 10, .int .i64 0, .int .i64 5] 3);have hbxR:R < (w2.drew).heap.size:=by have:=hag0.size;omega
   have hBt:=fun (j:Nat) (u:Value) (hu:([Value.int .i64 (-1),Value.int .i64 10,Value.int .i64 0,Value.int .i64 5])[j]? = some u)=>((hZ.out (w2.drew)).at0 hu).1;refine hK.out _ _ (HD.out _ hagb) (fun hHb=>?_);clear hK K;try simp only [Act.put,jj]
   refine wpAnyH_ready (rs:=[3]) (by kernel_rfl) (by simp) ?_;refine AllReadyH.cons rfl (fun K hK=>?_) AllReadyH.nil;go_simp;refine (P6.out ((m + 501)) _ (by omega) hRb).mono ?_;rintro e wk3 ⟨k3,rfl,hk3,hRk3,hAk3⟩;have hk3':(k3:Int) < 6:=by omega
   have hagk3:=hagb.trans hAk3 (fun _ _ h=>h);replace hBt:=fun (j:Nat) (u:Value) (hu:([Value.int .i64 (-1),Value.int .i64 10,Value.int .i64 0,Value.int .i64 5])[j]? = some u)=>(hAk3.cell (b:=w2.heap.size) (by have:=zd (hBt 0 _ rfl);exact this) (by omega) j).trans (hBt j u hu);go_wp2_with fail
   refine hK.out _ _ (HD.out _ hagk3) (fun hHk3=>?_);clear hK K;try simp only [Act.put,jj]
   refine wpAnyH_ready (rs:=[6]) (by kernel_rfl) (by simp) ?_;refine AllReadyH.cons rfl (fun K hK=>?_) AllReadyH.nil;go_simp;refine (P4.out ((m + 501) + 1) _ (by omega) hRk3).mono ?_;rintro e wk4 ⟨k4,rfl,hk4,hRk4,hAk4⟩;have hk4':(k4:Int) < 4:=by omega
   have hagk4:=hagk3.trans hAk4 (fun _ _ h=>h);replace hBt:=fun (j:Nat) (u:Value) (hu:([Value.int .i64 (-1),Value.int .i64 10,Value.int .i64 0,Value.int .i64 5])[j]? = some u)=>(hAk4.cell (b:=w2.heap.size) (by have:=zd (hBt 0 _ rfl);exact this) (by omega) j).trans (hBt j u hu);go_wp2_with fail
   refine hK.out _ _ (HD.out _ hagk4) (fun hHk4=>?_);clear hK K;try simp only [Act.put,jj]
   obtain ⟨v4,hv,hv1,hv2⟩:∃ v:Int,([Value.int .i64 (-1),Value.int .i64 10,Value.int .i64 0,Value.int .i64 5])[k4]? = some (.int .i64 v)∧-1 ≤ v∧v ≤ 1000:=by
    rcases (by omega:k4 = 0∨k4 = 1∨k4 = 2∨k4 = 3) with rfl | rfl | rfl | rfl <;> exact ⟨_,rfl,by omega,by omega⟩
   have z0:(wk4).cell? ⟨w2.heap.size,k4,none⟩ = some (.int .i64 v4):=hBt _ _ hv;have hve:∀ h:k4 < ([Value.int .i64 (-1),Value.int .i64 10,Value.int .i64 0,Value.int .i64 5]).length,([Value.int .i64 (-1),Value.int .i64 10,Value.int .i64 0,Value.int .i64 5])[k4]'h = .int .i64 v4:=fun h=>(List.getElem?_eq_some_iff.1 hv).2;refine tA 7 hHk4 ?_;try simp only [Act.put,jj]
   refine wpAnyH_ready (rs:=[8]) (by kernel_rfl) (by simp) ?_;refine AllReadyH.cons rfl (fun K hK=>?_) AllReadyH.nil;go_simp;refine hK.out _ _ (HD.out _ hagk4) (fun hHz=>?_);clear hK K;try simp only [Act.put,jj]
   refine tA 9 hHz ?_;try simp only [Act.put,jj]
   have hOe:=hOd.agr hagk4 (fun b h1 h2 h3=>by omega);obtain ⟨q5,hq5⟩:=zc (l:=s.disk) (k:=k3) (by rw [HLD.out];exact hk3);obtain ⟨d0,d1⟩:=hOe.disk.int_ hq5;have hWd:=zq d0 (.int .i64 v4);have hOg:=hOe.putDisk (k:=k3) (v:=v4) (by rw [HLD.out];exact hk3) hWd;have hAg2:=(hA2d.trans hagk4 (fun _ _ h=>h)).trans (S':=(· = db)) hWd.agr (fun b hb e=>by have:=hdb;omega);have hRg:=(hRk4.agr hWd.agr (by omega) (fun b hb e=>by have:=hRk4.le;omega));have hsX:=hagk4.size;have hsY:=hWd.size;refine wpAnyH_ready (rs:=[10]) (by kernel_rfl) (by simp) ?_;refine AllReadyH.cons rfl (fun K hK=>?_) AllReadyH.nil;go_simp;refine hK.out _ _ (by first | exact (hWd.agr.cell (b:=n1) (by have:=hagk4.size;omega) (by omega) 1).trans (HD.out _ hagk4)) (fun hHy=>?_);clear hK K;try simp only [Act.put,jj]
   replace q0:=(hWd.agr.cell (b:=w.heap.size) (by omega) (by omega) 0).trans ((hagk4.cell (b:=w.heap.size) (by show _ < w2.heap.size;omega) (by omega) 0).trans q0);replace q1:=(hWd.agr.cell (b:=w.heap.size) (by omega) (by omega) 1).trans ((hagk4.cell (b:=w.heap.size) (by show _ < w2.heap.size;omega) (by omega) 1).trans q1);replace f0:=(hWd.agr.fz (b:=w.heap.size) (by omega) (by omega) 0).trans ((hagk4.fz (b:=w.heap.size) (by show _ < w2.heap.size;omega) (by omega) 0).trans f0);replace f1:=(hWd.agr.fz (b:=w.heap.size) (by omega) (by omega) 1).trans ((hagk4.fz (b:=w.heap.size) (by show _ < w2.heap.size;omega) (by omega) 1).trans f1);replace b0:=(hWd.agr.cell (b:=n1) (by omega) (by omega) 0).trans ((hagk4.cell (b:=n1) (by show _ < w2.heap.size;omega) (by omega) 0).trans b0);replace b1:=(hWd.agr.cell (b:=n1) (by omega) (by omega) 1).trans ((hagk4.cell (b:=n1) (by show _ < w2.heap.size;omega) (by omega) 1).trans b1);have hsm2:yu ⟨s.flash,s.disk.set k3 v4⟩:=⟨hsm.out.1,by rw [List.length_set,HLD.out];omega⟩;replace hsm2:=Lib.hid hsm2;clear hWd hOe hOd z0 d0 d1 hq5 hBt hv;refine wpAnyH_done (by kernel_rfl) ?_ _;go_wp2;have hL:=jw q0 q1 (Value.slice A 4 c) (Value.slice (some ⟨db,dO,none⟩) 6 6);have hsz:=hL.size;have hOf:=hOg.agr hL.agr (fun b h1 h2 h3=>by omega);have hRf:=(hRg.agr hL.agr (by omega) (fun b hb e=>by have:=hRg.le;omega)).mono (n:=m + 1200) (by omega);have hAf:=hAg2.trans (S':=(· = w.heap.size)) hL.agr (fun b hb e=>by omega);have r0:=hL.new_ 0 _ rfl;have r1:=hL.new_ 1 _ rfl;clear hL;go_wp2;refine bodyPost_ret (v:=.agg #[Value.slice A 4 c,Value.slice (some ⟨db,dO,none⟩) 6 6]) (by simp [results,Tryz.results60,go_sem,r0,r1,q0,q1]) rfl ⟨A,(some ⟨db,dO,none⟩),c,6,⟨s.flash,s.disk.set k3 v4⟩, ?_,hsm2.out,hOf.mono (by omega) (by omega),hRf,hAf⟩;rw [List.length_set,HLF.out,HLD.out]
 have t0:((k:Int) == 0) = false:=by rw [beq_eq_false_iff_ne];omega
 by_cases h1:k = 1
 . have t1:((k:Int) == 1) = true:=by subst h1;rfl
   clear h0 h1;obtain ⟨x0,xs',hdk⟩:∃ x0 xs',s.disk = x0 :: xs':=by
    have h:=HLD.out;cases hd:s.disk with
    | nil=>rw [hd] at h;simp at h
    | cons a l=>exact ⟨a,l,rfl⟩
   have hl5:xs'.length = 5:=by have h:=HLD.out;rw [hdk] at h;simpa using h
   have HL5:=Lib.hid hl5;have hOt:OSt w2 lo hi A s.flash (some ⟨db,dO + 1,none⟩) xs':=by
    obtain ⟨hs,h1,h2,h3,h4⟩:=hO;refine ⟨hs,h1,h2, ?_,fun b hb=>h4 b (by rw [zf] at hb ⊢;exact hb)⟩;have:=h3.drop 1;rw [hdk] at this;exact this
   have hWb:=(zq b1 (.slice (some ⟨db,dO + 1,none⟩) 5 5));have hOg:=hOt.agr hWb.agr (fun b h1 h2 h3=>by omega);have hAg2:=hA2.trans (S':=(· = n1)) hWb.agr (fun b hb e=>by omega);have hRg:=(hR2.agr hWb.agr (by omega) (fun b hb e=>by have:=hR2.le;omega));have hsY:=hWb.size;replace q0:=(hWb.agr.cell (b:=w.heap.size) (by omega) (by omega) 0).trans q0;replace q1:=(hWb.agr.cell (b:=w.heap.size) (by omega) (by omega) 1).trans q1;replace f0:=(hWb.agr.fz (b:=w.heap.size) (by omega) (by omega) 0).trans f0;replace f1:=(hWb.agr.fz (b:=w.heap.size) (by omega) (by omega) 1).trans f1;have c0:=(World.cell?_setCell_other w2 ⟨n1,1,none⟩ ⟨n1,0,none⟩ (.slice (some ⟨db,dO + 1,none⟩) 5 5) (by simp)).trans b0;have c1:=hWb.new_ 0 _ rfl;rw [Nat.add_zero] at c1;have hsm2:yu ⟨s.flash,xs'⟩:=⟨hsm.out.1,by show xs'.length ≤ 6;omega⟩;replace hsm2:=Lib.hid hsm2;clear hWb hOt hdk hl5;go_wp2;have hL:=jw q0 q1 (Value.slice A 4 c) (Value.slice (some ⟨db,dO + 1,none⟩) 5 5);have hsz:=hL.size;have hOf:=hOg.agr hL.agr (fun b h1 h2 h3=>by omega);have hRf:=(hRg.agr hL.agr (by omega) (fun b hb e=>by have:=hRg.le;omega)).mono (n:=m + 1200) (by omega);have hAf:=hAg2.trans (S':=(· = w.heap.size)) hL.agr (fun b hb e=>by omega);have r0:=hL.new_ 0 _ rfl;have r1:=hL.new_ 1 _ rfl;clear hL;go_wp2;refine bodyPost_ret (v:=.agg #[Value.slice A 4 c,Value.slice (some ⟨db,dO + 1,none⟩) 5 5]) (by simp [results,Tryz.results60,go_sem,r0,r1,q0,q1]) rfl ⟨A,(some ⟨db,dO + 1,none⟩),c,5,⟨s.flash,xs'⟩, ?_,hsm2.out,hOf.mono (by omega) (by omega),hRf,hAf⟩;rw [HLF.out,HL5.out]
 have t1:((k:Int) == 1) = false:=by rw [beq_eq_false_iff_ne];omega
 by_cases h2:k = 2
 . have t2:((k:Int) == 2) = true:=by subst h2;rfl
   clear h0 h1 h2;go_wp2_with fail
   refine (zc4 B R (m + 501) _ (by omega) hR2).mono ?_;rintro e w3 ⟨g,o,c3,f,rfl,hf,hO3,hR3,hA3⟩;have HF:=Lib.hid hf;have hs3:=hA3.size;replace q0:=(hA3.cell (b:=w.heap.size) (by omega) (by omega) 0).trans q0;replace q1:=(hA3.cell (b:=w.heap.size) (by omega) (by omega) 1).trans q1;replace f0:=(hA3.fz (b:=w.heap.size) (by omega) (by omega) 0).trans f0;replace f1:=(hA3.fz (b:=w.heap.size) (by omega) (by omega) 1).trans f1;replace b0:=(hA3.cell (b:=n1) (by omega) (by omega) 0).trans b0;replace b1:=(hA3.cell (b:=n1) (by omega) (by omega) 1).trans b1;replace g0:=(hA3.fz (b:=n1) (by omega) (by omega) 0).trans g0;have hA3':=hA2.trans hA3 (fun _ _ h=>h);have hWb:=zq b0 (.slice (some ⟨g,o,none⟩) f.length c3);have hOg:=OSt.mk' (lo:=w.heap.size + 1) (hi:=w3.heap.size) (hO3.agr hWb.agr (fun b h1 h2 h3=>by omega)) ((hO.agr hA3 (fun b h1 h2 h3=>by omega)).agr hWb.agr (fun b h1 h2 h3=>by omega)).disk (by omega) nl (by omega) (by omega) (.inl (by omega));have hAg2:=hA3'.trans (S':=(· = n1)) hWb.agr (fun b hb e=>by omega);have hRg:=(hR3.agr hWb.agr (by omega) (fun b hb e=>by have:=hR3.le;omega));have hsY:=hWb.size;replace q0:=(hWb.agr.cell (b:=w.heap.size) (by omega) (by omega) 0).trans q0;replace q1:=(hWb.agr.cell (b:=w.heap.size) (by omega) (by omega) 1).trans q1;replace f0:=(hWb.agr.fz (b:=w.heap.size) (by omega) (by omega) 0).trans f0;replace f1:=(hWb.agr.fz (b:=w.heap.size) (by omega) (by omega) 1).trans f1;have c1:=(World.cell?_setCell_other w3 ⟨n1,0,none⟩ ⟨n1,1,none⟩ (.slice (some ⟨g,o,none⟩) f.length c3) (by simp)).trans b1;have c0:=hWb.new_ 0 _ rfl;rw [Nat.add_zero] at c0;have hsm2:yu ⟨f,s.disk⟩:=⟨HF.out,hsm.out.2⟩;replace hsm2:=Lib.hid hsm2;clear hWb hO3 hO hf;go_wp2;have hL:=jw q0 q1 (Value.slice (some ⟨g,o,none⟩) f.length c3) (Value.slice (some ⟨db,dO,none⟩) 6 6);have hsz:=hL.size;have hOf:=hOg.agr hL.agr (fun b h1 h2 h3=>by omega);have hRf:=(hRg.agr hL.agr (by omega) (fun b hb e=>by have:=hRg.le;omega)).mono (n:=m + 1200) (by omega);have hAf:=hAg2.trans (S':=(· = w.heap.size)) hL.agr (fun b hb e=>by omega);have r0:=hL.new_ 0 _ rfl;have r1:=hL.new_ 1 _ rfl;clear hL;go_wp2;refine bodyPost_ret (v:=.agg #[Value.slice (some ⟨g,o,none⟩) f.length c3,Value.slice (some ⟨db,dO,none⟩) 6 6]) (by simp [results,Tryz.results60,go_sem,r0,r1,q0,q1]) rfl ⟨(some ⟨g,o,none⟩),(some ⟨db,dO,none⟩),c3,6,⟨f,s.disk⟩, ?_,hsm2.out,hOf.mono (by omega) (by omega),hRf,hAf⟩;rw [HLD.out]
 have t2:((k:Int) == 2) = false:=by rw [beq_eq_false_iff_ne];omega
 by_cases h3:k = 3
 . have t3:((k:Int) == 3) = true:=by subst h3;rfl
   clear h0 h1 h2 h3;obtain ⟨hs,hBk,hApt,hDk,hAp⟩:=hO;obtain ⟨g,o,rfl⟩:=hBk.addr (by intro e;have:=HLF.out;rw [e] at this;simp at this);have hgt:=hApt.top g (zf.2 rfl);have hgd:¬ db = g:=fun e=>(hAp db (zf.2 rfl)).2.2.1 (zf.2 e.symm);go_wp2
   go_loopw [5] (fun i wr=>∃ j:Nat,j ≤ 4∧i = .int .i64 j∧Agr (· = g) w2 wr∧Bks wr (some ⟨g,o,none⟩) (Zi s.flash j) hs) (fun i _=>4 - (intOf i).toNat)
   case atStart=>exact ⟨0,by omega,rfl,Agr.refl _ _,hBk⟩
   case round =>
    obtain ⟨j,hj,rfl,hAj,hBj⟩:=hrel;have y0:=(hAj.cell (b:=n1) (by omega) (by omega) 0).trans b0;have hsj:=hAj.size;by_cases hlt:j < 4
    . obtain ⟨b,hb⟩:=zc (l:=s.flash) (k:=j) (by rw [HLF.out];exact hlt);have hbj:(Zi s.flash j)[j]? = some b:=by rw [zi9];exact hb
      obtain ⟨x,hx,c0,c1,z0,z1,_,_⟩:=hBj.at_ hbj;have hWw:=(zq c1 (.int .i64 200)).less c0;have hBn:=hBj.setHdr (n:=200) hApt hbj hx hWw;rw [zgk hb] at hBn;have hAn:=hAj.trans hWw.agr (fun _ _ h=>h);have hj1:(j:Int) < 4:=by omega
      have e1:IntKind.i64.wrap ((j:Int) + 1) = (j:Int) + 1:=IntWalk.i64_in _ (by omega);clear hb hbj hx hWw hBj hAj;go_wp2;go_roundw
      (case rel=>exact ⟨j + 1,by omega,by go_num,hAn,hBn⟩)
      (case measure=>simp [intOf];omega)
    have hj4:(4:Int) ≤ (j:Int):=by omega
    have hjj:j = 4:=by omega
    rw [hjj] at hBj;clear hjj;have hOg:OSt wr lo hi (some ⟨g,o,none⟩) (Zi s.flash 4) (some ⟨db,dO,none⟩) s.disk:=⟨hs,hBj,hApt,hDk.agr hAj (fun b hb e=>by rw [zf] at hb;omega),hAp⟩;have hAg2:=hA2.trans (S':=(· = g)) hAj (fun b hb e=>by omega);have hRg:=(hR2.agr hAj (by omega) (fun b hb e=>by have:=hR2.le;omega));replace q0:=(hAj.cell (b:=w.heap.size) (by omega) (by omega) 0).trans q0;replace q1:=(hAj.cell (b:=w.heap.size) (by omega) (by omega) 1).trans q1;replace f0:=(hAj.fz (b:=w.heap.size) (by omega) (by omega) 0).trans f0;replace f1:=(hAj.fz (b:=w.heap.size) (by omega) (by omega) 1).trans f1;have y1:=(hAj.cell (b:=n1) (by omega) (by omega) 1).trans b1;have hsm2:=Lib.hid (show yu ⟨Zi s.flash 4,s.disk⟩ from ⟨zeh hsm.out.1 4,hsm.out.2⟩);have HWL:=Lib.hid (Ju s.flash 4);clear hBj hDk;go_wp2;have hL:=jw q0 q1 (Value.slice (some ⟨g,o,none⟩) 4 c) (Value.slice (some ⟨db,dO,none⟩) 6 6);have hsz:=hL.size;have hOf:=hOg.agr hL.agr (fun b h1 h2 h3=>by omega);have hRf:=(hRg.agr hL.agr (by omega) (fun b hb e=>by have:=hRg.le;omega)).mono (n:=m + 1200) (by omega);have hAf:=hAg2.trans (S':=(· = w.heap.size)) hL.agr (fun b hb e=>by omega);have r0:=hL.new_ 0 _ rfl;have r1:=hL.new_ 1 _ rfl;clear hL;go_wp2;refine bodyPost_ret (v:=.agg #[Value.slice (some ⟨g,o,none⟩) 4 c,Value.slice (some ⟨db,dO,none⟩) 6 6]) (by simp [results,Tryz.results60,go_sem,r0,r1,q0,q1]) rfl ⟨(some ⟨g,o,none⟩),(some ⟨db,dO,none⟩),c,6,⟨Zi s.flash 4,s.disk⟩, ?_,hsm2.out,hOf.mono (by omega) (by omega),hRf,hAf⟩;rw [HWL.out,HLF.out,HLD.out]
 have t3:((k:Int) == 3) = false:=by rw [beq_eq_false_iff_ne];omega
 clear h0 h1 h2 h3;go_wp2;have hL:=jw q0 q1 (Value.slice A 4 c) (Value.slice (some ⟨db,dO,none⟩) 6 6);have hsz:=hL.size;have hOf:=hO.agr hL.agr (fun b h1 h2 h3=>by omega);have hRf:=(hR2.agr hL.agr (by omega) (fun b hb e=>by have:=hR2.le;omega)).mono (n:=m + 1200) (by omega);have hAf:=hA2.trans (S':=(· = w.heap.size)) hL.agr (fun b hb e=>by omega);have r0:=hL.new_ 0 _ rfl;have r1:=hL.new_ 1 _ rfl;clear hL;go_wp2;refine bodyPost_ret (v:=.agg #[Value.slice A 4 c,Value.slice (some ⟨db,dO,none⟩) 6 6]) (by simp [results,Tryz.results60,go_sem,r0,r1,q0,q1]) rfl ⟨A,(some ⟨db,dO,none⟩),c,6,s, ?_,hsm.out,hOf.mono (by omega) (by omega),hRf,hAf⟩;rw [HLF.out,HLD.out]
end
section
open Go.RowKit Go.Maps
theorem zos {P:Program} {c:Go.Code} {Q:Exit->Act->World->Prop} {a:Act} {w:World} (F:(Nat->Value)->Act) (R:World->Prop)
 (h:c.wp P (fun e a' w'=>e = .normal∧R w'∧∃ v,a' = F v) a w) (h2:∀ v w',R w'->Q .normal (F v) w'):c.wp P Q a w :=
 Code.wp_mono (fun e a' w' ⟨he,hR,v,hv⟩=>by subst he;subst hv;exact h2 v w' hR) h
theorem ql {a:Act} {F:(Nat->Value)->Act} (h:a = F (fun i=>a.tmps.getD i undef)):∃ v,a = F v:=⟨_,h⟩
theorem zbi (f:List Bk) (A:Option Addr) (n c:Nat) (w:World) (hn:n = f.length) (hl:f.length < 1000000000000) (hF:Fl w A f) :
 Calls Tryz.prog 67 #[.slice A n c] w fun e w'=>e = .returned (.bool (j8 f))∧Below w.heap.size w w':=by
 subst hn;by_cases hok:ze f = true
 . have hfin:Hid (j8 f = qm f 0 f):=by unfold Hid j8;rw [if_pos hok]
   have HPL:=Lib.hid (show ∀ b ∈ f,b.pages.length < 1000000000000 from fun b hb=>by rw [(zo hok b hb).1];omega);have HL:=Lib.hid (zh hok)
   go_enter Tryz.func67,Tryz.ntmps67
   go_wp2_with fail
   refine (Yw f A c _ hl hF).mono ?_;rw [hok];clear hok;rintro e w1 ⟨rfl,hb1⟩;obtain ⟨hs,hBk⟩:=hF.below hb1 nl;obtain ⟨g,o,rfl⟩:=hBk.addr (by intro e;have:=HL.out;rw [e] at this;simp at this);rw [HL.out];go_wp2
   go_loopw [3] (fun i wr=>∃ k:Nat,k ≤ 4∧i = .int .i64 k∧Below w1.heap.size w1 wr∧Hid (qm f 0 f = qm f k (f.drop k))) (fun i _=>4 - (intOf i).toNat)
   case atStart=>exact ⟨0,by omega,rfl,Below.refl _ _,rfl⟩
   case round =>
    obtain ⟨k,hk,rfl,hB,hT⟩:=hrel;by_cases hlt:k < 4
    . obtain ⟨a,ha⟩:=zc (l:=f) (k:=k) (by rw [HL.out];exact hlt);have hT2:Hid (qm f 0 f = if yq k a 0 f = true then qm f (k + 1) (f.drop (k + 1)) else false):=by rw [Hid,hT.out,zr ha,qm]
      have hk1:(k:Int) < 4:=by omega
      have hpl:=HPL.out a (List.mem_of_getElem? ha);clear hT;go_wp2
      go_loopw [4] (fun i wl=>∃ j:Nat,j ≤ 4∧i = .int .i64 j∧Below w1.heap.size w1 wl∧Hid (yq k a 0 f = yq k a j (f.drop j))) (fun i _=>4 - (intOf i).toNat)
      case atStart=>exact ⟨0,by omega,rfl,hB,rfl⟩
      case round =>
       obtain ⟨j,hj,rfl,hBl,hU⟩:=hrel;by_cases hjt:j < 4
       . obtain ⟨b,hb⟩:=zc (l:=f) (k:=j) (by rw [HL.out];exact hjt);have hU2:Hid (yq k a 0 f = if bad1 k j a b = true∨bad2 k j a b = true then false else yq k a (j + 1) (f.drop (j + 1))):=by rw [Hid,hU.out,zr hb,yq]
         have hj1:(j:Int) < 4:=by omega
         obtain ⟨⟨Z,cz⟩,_,c0,c1,_,_,_,_⟩:=(hBk.below hBl nl).at_ ha;have hBa:Below w1.heap.size w1 (wr.alloc (.cells #[.slice Z a.pages.length cz, .int .i64 a.worn] 99)):=hBl.alloc hBl.size _;obtain ⟨⟨Y,cy⟩,_,d0,d1,_,_,_,_⟩:=(hBk.below hBa nl).at_ hb;dsimp only at c0 d0;have hBb:Below w1.heap.size w1 ((wr.alloc (.cells #[.slice Z a.pages.length cz, .int .i64 a.worn] 99)).alloc (.cells #[.slice Y b.pages.length cy, .int .i64 b.worn] 99)):=hBa.alloc hBa.size _;have hBk2:=hBk.below hBb nl;have hx1:=‹hs[k]? = some (Z,cz)›;have hx2:=‹hs[j]? = some (Y,cy)›;have hR1:=(hBk2.pg k a (Z,cz) ha hx1).1;have hR2:=(hBk2.pg j b (Y,cy) hb hx2).1;dsimp only at hR1 hR2;have p0:((wr.alloc (.cells #[.slice Z a.pages.length cz, .int .i64 a.worn] 99)).alloc (.cells #[.slice Y b.pages.length cy, .int .i64 b.worn] 99)).cell? ⟨wr.heap.size,0,none⟩ = some (.slice Z a.pages.length cz):=by simp [go_sem]
         have p1:((wr.alloc (.cells #[.slice Z a.pages.length cz, .int .i64 a.worn] 99)).alloc (.cells #[.slice Y b.pages.length cy, .int .i64 b.worn] 99)).cell? ⟨wr.heap.size,1,none⟩ = some (.int .i64 a.worn):=by simp [go_sem]
         have q0:((wr.alloc (.cells #[.slice Z a.pages.length cz, .int .i64 a.worn] 99)).alloc (.cells #[.slice Y b.pages.length cy, .int .i64 b.worn] 99)).cell? ⟨wr.heap.size + 1,0,none⟩ = some (.slice Y b.pages.length cy):=by simp [go_sem]
         have q1:((wr.alloc (.cells #[.slice Z a.pages.length cz, .int .i64 a.worn] 99)).alloc (.cells #[.slice Y b.pages.length cy, .int .i64 b.worn] 99)).cell? ⟨wr.heap.size + 1,1,none⟩ = some (.int .i64 b.worn):=by simp [go_sem]
         have hqL:=HPL.out b (List.mem_of_getElem? hb);have hsz:((wr.alloc (.cells #[.slice Z a.pages.length cz, .int .i64 a.worn] 99)).alloc (.cells #[.slice Y b.pages.length cy, .int .i64 b.worn] 99)).heap.size = wr.heap.size + 2:=by simp
         clear hU hb hx1 hx2 hBk2 hBa;go_wp2;obtain ⟨W2,hW2⟩:∃ W2,(wr.alloc (.cells #[.slice Z a.pages.length cz, .int .i64 a.worn] 99)).alloc (.cells #[.slice Y b.pages.length cy, .int .i64 b.worn] 99) = W2:=⟨_,rfl⟩;rw [hW2] at hBb hR1 hR2 p0 p1 q0 q1 hsz ⊢;clear hW2;obtain ⟨ma,hma⟩:∃ x:Int,most a = x:=⟨_,rfl⟩;obtain ⟨mb,hmb⟩:∃ x:Int,most b = x:=⟨_,rfl⟩;obtain ⟨la,hla⟩:∃ x:Int,ku a = x:=⟨_,rfl⟩;obtain ⟨lb,hlb⟩:∃ x:Int,ku b = x:=⟨_,rfl⟩;obtain ⟨ca,hca⟩:∃ x:Int,(clean a:Int) = x:=⟨_,rfl⟩;obtain ⟨cb,hcb⟩:∃ x:Int,(clean b:Int) = x:=⟨_,rfl⟩;have LI:∀ (n m:Nat) (p q:Prop) [Decidable p] [Decidable q],(p ↔ q)->decide p = decide q:=fun _ _ _ _ _ _ h=>by rw [decide_eq_decide];exact h
         have hpa:xm a = (decide (0 < ca) && decide (ca < 4)):=by unfold xm;rw [LI 0 0 (0 < clean a) (0 < ca) (by omega),LI 0 0 (clean a < 4) (ca < 4) (by omega)]
         have hpb:xm b = (decide (0 < cb) && decide (cb < 4)):=by unfold xm;rw [LI 0 0 (0 < clean b) (0 < cb) (by omega),LI 0 0 (clean b < 4) (cb < 4) (by omega)]
         have B1:Hid (bad1 k j a b = (decide (k ≠ j) && (decide (0 < ma) && (decide (0 < mb) && (decide (la < mb) && decide (lb < ma)))))):=by rw [Hid,bad1,hma,hmb,hla,hlb]
         have B2:Hid (bad2 k j a b = (decide (k ≠ j) && ((decide (0 < ca) && decide (ca < 4)) && ((decide (0 < cb) && decide (cb < 4)) || (decide (0 < ma) && decide (ma < mb)))))):=by rw [Hid,bad2,hpa,hpb,hma,hmb]
         have MA:∀ X,Below W2.heap.size W2 X->Calls Tryz.prog 112 #[.agg #[.slice Z a.pages.length cz, .int .i64 a.worn]] X fun e w'=>e = .returned (.int .i64 ma)∧Below X.heap.size X w':=fun X h=>by rw [← hma];exact yb a Z cz X hpl (hR1.below h nl)
         have MB:∀ X,Below W2.heap.size W2 X->Calls Tryz.prog 112 #[.agg #[.slice Y b.pages.length cy, .int .i64 b.worn]] X fun e w'=>e = .returned (.int .i64 mb)∧Below X.heap.size X w':=fun X h=>by rw [← hmb];exact yb b Y cy X hqL (hR2.below h nl)
         have LA:∀ X,Below W2.heap.size W2 X->Calls Tryz.prog 113 #[.agg #[.slice Z a.pages.length cz, .int .i64 a.worn]] X fun e w'=>e = .returned (.int .i64 la)∧Below X.heap.size X w':=fun X h=>by rw [← hla];exact Yu a Z cz X hpl (hR1.below h nl)
         have LB:∀ X,Below W2.heap.size W2 X->Calls Tryz.prog 113 #[.agg #[.slice Y b.pages.length cy, .int .i64 b.worn]] X fun e w'=>e = .returned (.int .i64 lb)∧Below X.heap.size X w':=fun X h=>by rw [← hlb];exact Yu b Y cy X hqL (hR2.below h nl)
         have CA:∀ X,Below W2.heap.size W2 X->Calls Tryz.prog 108 #[.agg #[.slice Z a.pages.length cz, .int .i64 a.worn]] X fun e w'=>e = .returned (.int .i64 ca)∧Below X.heap.size X w':=fun X h=>by rw [← hca];exact Zj a Z cz X hpl (hR1.below h nl)
         have CB:∀ X,Below W2.heap.size W2 X->Calls Tryz.prog 108 #[.agg #[.slice Y b.pages.length cy, .int .i64 b.worn]] X fun e w'=>e = .returned (.int .i64 cb)∧Below X.heap.size X w':=fun X h=>by rw [← hcb];exact Zj b Y cy X hqL (hR2.below h nl)
         replace MA:=Lib.hid MA;replace MB:=Lib.hid MB;replace LA:=Lib.hid LA;replace LB:=Lib.hid LB;replace CA:=Lib.hid CA;replace CB:=Lib.hid CB;have SS:∀ X,Below W2.heap.size W2 X->X.cell? ⟨wr.heap.size,0,none⟩ = some (.slice Z a.pages.length cz)∧X.cell? ⟨wr.heap.size,1,none⟩ = some (.int .i64 a.worn)∧X.cell? ⟨wr.heap.size + 1,0,none⟩ = some (.slice Y b.pages.length cy)∧X.cell? ⟨wr.heap.size + 1,1,none⟩ = some (.int .i64 b.worn):=fun X h =>
          ⟨(h.cell (p:=⟨wr.heap.size,0,none⟩) (by show wr.heap.size < _;omega)).trans p0,(h.cell (p:=⟨wr.heap.size,1,none⟩) (by show wr.heap.size < _;omega)).trans p1,(h.cell (p:=⟨wr.heap.size + 1,0,none⟩) (by show wr.heap.size + 1 < _;omega)).trans q0,(h.cell (p:=⟨wr.heap.size + 1,1,none⟩) (by show wr.heap.size + 1 < _;omega)).trans q1⟩
         have hcl:∀ X,Below W2.heap.size W2 X->Below w1.heap.size w1 X:=fun X h=>hBb.trans (h.mono hBb.size);have hb0:Below W2.heap.size W2 W2.drew:=(Below.refl _ _).drew;replace SS:=Lib.hid SS;clear hR1 hR2 p0 p1 q0 q1 hBb c0 c1 d0 d1 hma hmb hla hlb hca hcb hpa hpb LI hpl hqL;refine zos (fun x=>{ tmps:=#[Value.slice (some ⟨g,o,none⟩) 4 c,undef,x 2,Value.int .i64 (k:Int),Value.int .i64 (j:Int),Value.pointer (some ⟨wr.heap.size,0,none⟩),Value.pointer (some ⟨wr.heap.size + 1,0,none⟩),Value.slice (some ⟨g,o,none⟩) 4 c,Value.bool true,Value.bool false,Value.int .i64 (k:Int),Value.slice (some ⟨g,o,none⟩) 4 c,Value.int .i64 4,Value.bool true,u14,u15,x 16,x 17,x 18,x 19,x 20,x 21,x 22,x 23,x 24,x 25,x 26,x 27,x 28,x 29,x 30,x 31,x 32,x 33,x 34,x 35,x 36,x 37,x 38,x 39,x 40,x 41,x 42,x 43,x 44,x 45,x 46,x 47,x 48,x 49,x 50,x 51,x 52,x 53,x 54,x 55,Value.bool (bad1 k j a b),x 57,x 58,x 59,x 60,x 61,x 62,x 63,x 64,x 65,x 66,x 67,x 68,x 69,x 70,x 71,x 72,x 73,x 74,x 75,x 76,x 77,x 78,x 79,x 80,x 81,x 82,x 83,x 84,x 85,x 86,x 87,x 88,x 89,x 90,x 91],defers:=[] }) (fun X=>Below W2.heap.size W2 X) ?reg11 ?rest11
         case reg11 =>
          refine wp_region_held_drew (S:=fun X=>X.cell? ⟨wr.heap.size,0,none⟩ = some (.slice Z a.pages.length cz)∧X.cell? ⟨wr.heap.size,1,none⟩ = some (.int .i64 a.worn)∧X.cell? ⟨wr.heap.size + 1,0,none⟩ = some (.slice Y b.pages.length cy)∧X.cell? ⟨wr.heap.size + 1,1,none⟩ = some (.int .i64 b.worn)) (by kernel_rfl) (SS.out _ hb0) (fun hHeld0=>?_);refine tA 0 hHeld0 ?_;try simp only [Act.put,jj]
          refine tA 1 hHeld0 ?_;try simp only [Act.put,jj]
          by_cases n0:k ≠ j
          . have dn0:((k:Int) != (j:Int)) = true:=by rw [bne_iff_ne];omega
            have en0:decide (k ≠ j) = true:=decide_eq_true n0;refine tA 2 hHeld0 ?_;try simp only [Act.put,jj]
            refine tA 3 hHeld0 ?_;try simp only [Act.put,jj]
            refine tA 4 hHeld0 ?_;try simp only [Act.put,jj]
            refine wpAnyH_ready (rs:=[5]) (by kernel_rfl) (by simp) ?_;refine AllReadyH.cons rfl (fun K hK=>?_) AllReadyH.nil;go_simp;refine (MA.out _ hb0).mono ?_;rintro e x1 ⟨rfl,hc1⟩;have hb1:=hb0.trans (hc1.mono hb0.size);clear hc1;go_wp2_with fail
            refine hK.out _ _ (SS.out _ hb1) (fun hHeld1=>?_);clear hK K;try simp only [Act.put,jj]
            by_cases n1:0 < ma
            . have dn1:decide (0 < ma) = true:=decide_eq_true n1;refine tA 6 hHeld1 ?_;try simp only [Act.put,jj]
              refine tA 7 hHeld1 ?_;try simp only [Act.put,jj]
              refine tA 8 hHeld1 ?_;try simp only [Act.put,jj]
              refine tA 9 hHeld1 ?_;try simp only [Act.put,jj]
              refine wpAnyH_ready (rs:=[10]) (by kernel_rfl) (by simp) ?_;refine AllReadyH.cons rfl (fun K hK=>?_) AllReadyH.nil;go_simp;refine (MB.out _ hb1).mono ?_;rintro e x2 ⟨rfl,hc2⟩;have hb2:=hb1.trans (hc2.mono hb1.size);clear hc2;go_wp2_with fail
              refine hK.out _ _ (SS.out _ hb2) (fun hHeld2=>?_);clear hK K;try simp only [Act.put,jj]
              by_cases n2:0 < mb
              . have dn2:decide (0 < mb) = true:=decide_eq_true n2;refine tA 11 hHeld2 ?_;try simp only [Act.put,jj]
                refine tA 12 hHeld2 ?_;try simp only [Act.put,jj]
                refine tA 13 hHeld2 ?_;try simp only [Act.put,jj]
                refine tA 14 hHeld2 ?_;try simp only [Act.put,jj]
                refine tA 16 hHeld2 ?_;try simp only [Act.put,jj]
                refine wpAnyH_ready (rs:=[15]) (by kernel_rfl) (by simp) ?_;refine AllReadyH.cons rfl (fun K hK=>?_) AllReadyH.nil;go_simp;refine (LA.out _ hb2).mono ?_;rintro e x3 ⟨rfl,hc3⟩;have hb3:=hb2.trans (hc3.mono hb2.size);clear hc3;go_wp2_with fail
                refine hK.out _ _ (SS.out _ hb3) (fun hHeld3=>?_);clear hK K;try simp only [Act.put,jj]
                refine wpAnyH_ready (rs:=[17]) (by kernel_rfl) (by simp) ?_;refine AllReadyH.cons rfl (fun K hK=>?_) AllReadyH.nil;go_simp;refine (MB.out _ hb3).mono ?_;rintro e x4 ⟨rfl,hc4⟩;have hb4:=hb3.trans (hc4.mono hb3.size);clear hc4;go_wp2_with fail
                refine hK.out _ _ (SS.out _ hb4) (fun hHeld4=>?_);clear hK K;try simp only [Act.put,jj]
                by_cases n3:la < mb
                . have dn3:decide (la < mb) = true:=decide_eq_true n3;refine tA 18 hHeld4 ?_;try simp only [Act.put,jj]
                  refine tA 19 hHeld4 ?_;try simp only [Act.put,jj]
                  refine tA 20 hHeld4 ?_;try simp only [Act.put,jj]
                  refine tA 21 hHeld4 ?_;try simp only [Act.put,jj]
                  refine tA 23 hHeld4 ?_;try simp only [Act.put,jj]
                  refine wpAnyH_ready (rs:=[22]) (by kernel_rfl) (by simp) ?_;refine AllReadyH.cons rfl (fun K hK=>?_) AllReadyH.nil;go_simp;refine (LB.out _ hb4).mono ?_;rintro e x5 ⟨rfl,hc5⟩;have hb5:=hb4.trans (hc5.mono hb4.size);clear hc5;go_wp2_with fail
                  refine hK.out _ _ (SS.out _ hb5) (fun hHeld5=>?_);clear hK K;try simp only [Act.put,jj]
                  refine wpAnyH_ready (rs:=[24]) (by kernel_rfl) (by simp) ?_;refine AllReadyH.cons rfl (fun K hK=>?_) AllReadyH.nil;go_simp;refine (MA.out _ hb5).mono ?_;rintro e x6 ⟨rfl,hc6⟩;have hb6:=hb5.trans (hc6.mono hb5.size);clear hc6;go_wp2_with fail
                  refine hK.out _ _ (SS.out _ hb6) (fun hHeld6=>?_);clear hK K;try simp only [Act.put,jj]
                  by_cases n4:lb < ma
                  . have dn4:decide (lb < ma) = true:=decide_eq_true n4;refine tA 25 hHeld6 ?_;try simp only [Act.put,jj]
                    refine tA 26 hHeld6 ?_;try simp only [Act.put,jj]
                    refine wpAnyH_done (by kernel_rfl) ?_ _;have hv:bad1 k j a b = true:=by rw [B1.out,en0,dn1,dn2,dn3,dn4];rfl
                    refine ⟨rfl,hb6, ?_⟩;rw [hv];exact ql (by kernel_rfl)
                  have dn4:decide (lb < ma) = false:=decide_eq_false n4;refine tA 25 hHeld6 ?_;try simp only [Act.put,jj]
                  refine tA 26 hHeld6 ?_;try simp only [Act.put,jj]
                  refine wpAnyH_done (by kernel_rfl) ?_ _;have hv:bad1 k j a b = false:=by rw [B1.out,en0,dn1,dn2,dn3,dn4];rfl
                  refine ⟨rfl,hb6, ?_⟩;rw [hv];exact ql (by kernel_rfl)
                have dn3:decide (la < mb) = false:=decide_eq_false n3;refine tA 18 hHeld4 ?_;try simp only [Act.put,jj]
                refine tA 19 hHeld4 ?_;try simp only [Act.put,jj]
                refine tA 20 hHeld4 ?_;try simp only [Act.put,jj]
                refine tB 21 hHeld4 ?_;try simp only [Act.put,jj]
                refine tB 22 hHeld4 ?_;try simp only [Act.put,jj]
                refine tB 23 hHeld4 ?_;try simp only [Act.put,jj]
                refine tB 24 hHeld4 ?_;try simp only [Act.put,jj]
                refine tB 25 hHeld4 ?_;try simp only [Act.put,jj]
                refine tA 26 hHeld4 ?_;try simp only [Act.put,jj]
                refine wpAnyH_done (by kernel_rfl) ?_ _;have hv:bad1 k j a b = false:=by rw [B1.out,en0,dn1,dn2,dn3];rfl
                refine ⟨rfl,hb4, ?_⟩;rw [hv];exact ql (by kernel_rfl)
              have dn2:decide (0 < mb) = false:=decide_eq_false n2;refine tA 11 hHeld2 ?_;try simp only [Act.put,jj]
              refine tA 12 hHeld2 ?_;try simp only [Act.put,jj]
              refine tA 13 hHeld2 ?_;try simp only [Act.put,jj]
              refine tB 14 hHeld2 ?_;try simp only [Act.put,jj]
              refine tB 15 hHeld2 ?_;try simp only [Act.put,jj]
              refine tB 16 hHeld2 ?_;try simp only [Act.put,jj]
              refine tB 17 hHeld2 ?_;try simp only [Act.put,jj]
              refine tB 18 hHeld2 ?_;try simp only [Act.put,jj]
              refine tA 19 hHeld2 ?_;try simp only [Act.put,jj]
              refine tA 20 hHeld2 ?_;try simp only [Act.put,jj]
              refine tB 21 hHeld2 ?_;try simp only [Act.put,jj]
              refine tB 22 hHeld2 ?_;try simp only [Act.put,jj]
              refine tB 23 hHeld2 ?_;try simp only [Act.put,jj]
              refine tB 24 hHeld2 ?_;try simp only [Act.put,jj]
              refine tB 25 hHeld2 ?_;try simp only [Act.put,jj]
              refine tA 26 hHeld2 ?_;try simp only [Act.put,jj]
              refine wpAnyH_done (by kernel_rfl) ?_ _;have hv:bad1 k j a b = false:=by rw [B1.out,en0,dn1,dn2];rfl
              refine ⟨rfl,hb2, ?_⟩;rw [hv];exact ql (by kernel_rfl)
            have dn1:decide (0 < ma) = false:=decide_eq_false n1;refine tA 6 hHeld1 ?_;try simp only [Act.put,jj]
            refine tA 7 hHeld1 ?_;try simp only [Act.put,jj]
            refine tA 8 hHeld1 ?_;try simp only [Act.put,jj]
            refine tB 9 hHeld1 ?_;try simp only [Act.put,jj]
            refine tB 10 hHeld1 ?_;try simp only [Act.put,jj]
            refine tB 11 hHeld1 ?_;try simp only [Act.put,jj]
            refine tA 12 hHeld1 ?_;try simp only [Act.put,jj]
            refine tA 13 hHeld1 ?_;try simp only [Act.put,jj]
            refine tB 14 hHeld1 ?_;try simp only [Act.put,jj]
            refine tB 15 hHeld1 ?_;try simp only [Act.put,jj]
            refine tB 16 hHeld1 ?_;try simp only [Act.put,jj]
            refine tB 17 hHeld1 ?_;try simp only [Act.put,jj]
            refine tB 18 hHeld1 ?_;try simp only [Act.put,jj]
            refine tA 19 hHeld1 ?_;try simp only [Act.put,jj]
            refine tA 20 hHeld1 ?_;try simp only [Act.put,jj]
            refine tB 21 hHeld1 ?_;try simp only [Act.put,jj]
            refine tB 22 hHeld1 ?_;try simp only [Act.put,jj]
            refine tB 23 hHeld1 ?_;try simp only [Act.put,jj]
            refine tB 24 hHeld1 ?_;try simp only [Act.put,jj]
            refine tB 25 hHeld1 ?_;try simp only [Act.put,jj]
            refine tA 26 hHeld1 ?_;try simp only [Act.put,jj]
            refine wpAnyH_done (by kernel_rfl) ?_ _;have hv:bad1 k j a b = false:=by rw [B1.out,en0,dn1];rfl
            refine ⟨rfl,hb1, ?_⟩;rw [hv];exact ql (by kernel_rfl)
          have dn0:((k:Int) != (j:Int)) = false:=by rw [bne_eq_false_iff_eq];omega
          have en0:decide (k ≠ j) = false:=decide_eq_false n0;refine tA 2 hHeld0 ?_;try simp only [Act.put,jj]
          refine tA 3 hHeld0 ?_;try simp only [Act.put,jj]
          refine tB 4 hHeld0 ?_;try simp only [Act.put,jj]
          refine tB 5 hHeld0 ?_;try simp only [Act.put,jj]
          refine tB 6 hHeld0 ?_;try simp only [Act.put,jj]
          refine tA 7 hHeld0 ?_;try simp only [Act.put,jj]
          refine tA 8 hHeld0 ?_;try simp only [Act.put,jj]
          refine tB 9 hHeld0 ?_;try simp only [Act.put,jj]
          refine tB 10 hHeld0 ?_;try simp only [Act.put,jj]
          refine tB 11 hHeld0 ?_;try simp only [Act.put,jj]
          refine tA 12 hHeld0 ?_;try simp only [Act.put,jj]
          refine tA 13 hHeld0 ?_;try simp only [Act.put,jj]
          refine tB 14 hHeld0 ?_;try simp only [Act.put,jj]
          refine tB 15 hHeld0 ?_;try simp only [Act.put,jj]
          refine tB 16 hHeld0 ?_;try simp only [Act.put,jj]
          refine tB 17 hHeld0 ?_;try simp only [Act.put,jj]
          refine tB 18 hHeld0 ?_;try simp only [Act.put,jj]
          refine tA 19 hHeld0 ?_;try simp only [Act.put,jj]
          refine tA 20 hHeld0 ?_;try simp only [Act.put,jj]
          refine tB 21 hHeld0 ?_;try simp only [Act.put,jj]
          refine tB 22 hHeld0 ?_;try simp only [Act.put,jj]
          refine tB 23 hHeld0 ?_;try simp only [Act.put,jj]
          refine tB 24 hHeld0 ?_;try simp only [Act.put,jj]
          refine tB 25 hHeld0 ?_;try simp only [Act.put,jj]
          refine tA 26 hHeld0 ?_;try simp only [Act.put,jj]
          refine wpAnyH_done (by kernel_rfl) ?_ _;have hv:bad1 k j a b = false:=by rw [B1.out,en0];rfl
          refine ⟨rfl,hb0, ?_⟩;rw [hv];exact ql (by kernel_rfl)
         case rest11 =>
          intro x W3 hc3;by_cases hv1:bad1 k j a b = true
          . have hx:Hid (qm f 0 f = false):=by rw [Hid,hT2.out,show yq k a 0 f = false from by rw [hU2.out,if_pos (Or.inl hv1)]];rfl
            rw [hv1];go_wp2;go_ret;exact ⟨zg (by rw [hfin.out,hx.out]),hb1.trans ((hcl _ hc3).mono hb1.size)⟩
          rw [show bad1 k j a b = false from by simpa using hv1];have hbz:Below W2.heap.size W2 W3.drew:=hc3.drew;go_wp2;refine zos (fun x=>{ tmps:=#[Value.slice (some ⟨g,o,none⟩) 4 c,undef,x 2,Value.int .i64 (k:Int),Value.int .i64 (j:Int),Value.pointer (some ⟨wr.heap.size,0,none⟩),Value.pointer (some ⟨wr.heap.size + 1,0,none⟩),Value.slice (some ⟨g,o,none⟩) 4 c,Value.bool true,Value.bool false,Value.int .i64 (k:Int),Value.slice (some ⟨g,o,none⟩) 4 c,Value.int .i64 4,Value.bool true,u14,u15,x 16,x 17,x 18,x 19,x 20,x 21,x 22,x 23,x 24,x 25,x 26,x 27,x 28,x 29,x 30,x 31,x 32,x 33,x 34,x 35,x 36,x 37,x 38,x 39,x 40,x 41,x 42,x 43,x 44,x 45,x 46,x 47,x 48,x 49,x 50,x 51,x 52,x 53,x 54,x 55,Value.bool false,x 57,x 58,x 59,x 60,x 61,x 62,x 63,x 64,x 65,x 66,x 67,x 68,x 69,x 70,x 71,x 72,x 73,x 74,x 75,x 76,x 77,x 78,x 79,x 80,x 81,x 82,x 83,x 84,x 85,x 86,x 87,x 88,x 89,x 90,Value.bool (bad2 k j a b)],defers:=[] }) (fun X=>Below W2.heap.size W2 X) ?reg13 ?rest13
          case reg13 =>
           refine wp_region_held_drew (S:=fun X=>X.cell? ⟨wr.heap.size,0,none⟩ = some (.slice Z a.pages.length cz)∧X.cell? ⟨wr.heap.size,1,none⟩ = some (.int .i64 a.worn)∧X.cell? ⟨wr.heap.size + 1,0,none⟩ = some (.slice Y b.pages.length cy)∧X.cell? ⟨wr.heap.size + 1,1,none⟩ = some (.int .i64 b.worn)) (by kernel_rfl) (SS.out _ hbz) (fun hHeld0=>?_);refine tA 0 hHeld0 ?_;try simp only [Act.put,jj]
           refine tA 1 hHeld0 ?_;try simp only [Act.put,jj]
           by_cases n0:k ≠ j
           . have dn0:((k:Int) != (j:Int)) = true:=by rw [bne_iff_ne];omega
             have en0:decide (k ≠ j) = true:=decide_eq_true n0;refine tA 2 hHeld0 ?_;try simp only [Act.put,jj]
             refine tA 3 hHeld0 ?_;try simp only [Act.put,jj]
             refine tA 4 hHeld0 ?_;try simp only [Act.put,jj]
             refine wpAnyH_ready (rs:=[5]) (by kernel_rfl) (by simp) ?_;refine AllReadyH.cons rfl (fun K hK=>?_) AllReadyH.nil;go_simp;refine (CA.out _ hbz).mono ?_;rintro e x1 ⟨rfl,hc1⟩;have hb1:=hbz.trans (hc1.mono hbz.size);clear hc1;go_wp2_with fail
             refine hK.out _ _ (SS.out _ hb1) (fun hHeld1=>?_);clear hK K;try simp only [Act.put,jj]
             by_cases n1:0 < ca
             . have dn1:decide (0 < ca) = true:=decide_eq_true n1;refine tA 6 hHeld1 ?_;try simp only [Act.put,jj]
               refine tA 7 hHeld1 ?_;try simp only [Act.put,jj]
               refine tA 8 hHeld1 ?_;try simp only [Act.put,jj]
               refine tA 9 hHeld1 ?_;try simp only [Act.put,jj]
               refine wpAnyH_ready (rs:=[10]) (by kernel_rfl) (by simp) ?_;refine AllReadyH.cons rfl (fun K hK=>?_) AllReadyH.nil;go_simp;refine (CA.out _ hb1).mono ?_;rintro e x2 ⟨rfl,hc2⟩;have hb2:=hb1.trans (hc2.mono hb1.size);clear hc2;go_wp2_with fail
               refine hK.out _ _ (SS.out _ hb2) (fun hHeld2=>?_);clear hK K;try simp only [Act.put,jj]
               by_cases n2:ca < 4
               . have dn2:decide (ca < 4) = true:=decide_eq_true n2;refine tA 11 hHeld2 ?_;try simp only [Act.put,jj]
                 refine tA 12 hHeld2 ?_;try simp only [Act.put,jj]
                 refine tA 13 hHeld2 ?_;try simp only [Act.put,jj]
                 refine tA 14 hHeld2 ?_;try simp only [Act.put,jj]
                 refine wpAnyH_ready (rs:=[15]) (by kernel_rfl) (by simp) ?_;refine AllReadyH.cons rfl (fun K hK=>?_) AllReadyH.nil;go_simp;refine (CB.out _ hb2).mono ?_;rintro e x3 ⟨rfl,hc3⟩;have hb3:=hb2.trans (hc3.mono hb2.size);clear hc3;go_wp2_with fail
                 refine hK.out _ _ (SS.out _ hb3) (fun hHeld3=>?_);clear hK K;try simp only [Act.put,jj]
                 by_cases n3:0 < cb
                 . have dn3:decide (0 < cb) = true:=decide_eq_true n3;refine tA 16 hHeld3 ?_;try simp only [Act.put,jj]
                   refine tA 17 hHeld3 ?_;try simp only [Act.put,jj]
                   refine tA 18 hHeld3 ?_;try simp only [Act.put,jj]
                   refine wpAnyH_ready (rs:=[19]) (by kernel_rfl) (by simp) ?_;refine AllReadyH.cons rfl (fun K hK=>?_) AllReadyH.nil;go_simp;refine (CB.out _ hb3).mono ?_;rintro e x4 ⟨rfl,hc4⟩;have hb4:=hb3.trans (hc4.mono hb3.size);clear hc4;go_wp2_with fail
                   refine hK.out _ _ (SS.out _ hb4) (fun hHeld4=>?_);clear hK K;try simp only [Act.put,jj]
                   by_cases n4:cb < 4
                   . have dn4:decide (cb < 4) = true:=decide_eq_true n4;refine tA 20 hHeld4 ?_;try simp only [Act.put,jj]
                     refine tA 21 hHeld4 ?_;try simp only [Act.put,jj]
                     refine tA 22 hHeld4 ?_;try simp only [Act.put,jj]
                     refine tB 23 hHeld4 ?_;try simp only [Act.put,jj]
                     refine tB 24 hHeld4 ?_;try simp only [Act.put,jj]
                     refine tB 25 hHeld4 ?_;try simp only [Act.put,jj]
                     refine tB 26 hHeld4 ?_;try simp only [Act.put,jj]
                     refine tB 27 hHeld4 ?_;try simp only [Act.put,jj]
                     refine tB 28 hHeld4 ?_;try simp only [Act.put,jj]
                     refine tB 29 hHeld4 ?_;try simp only [Act.put,jj]
                     refine tB 30 hHeld4 ?_;try simp only [Act.put,jj]
                     refine tB 31 hHeld4 ?_;try simp only [Act.put,jj]
                     refine tB 32 hHeld4 ?_;try simp only [Act.put,jj]
                     refine tA 33 hHeld4 ?_;try simp only [Act.put,jj]
                     refine tA 34 hHeld4 ?_;try simp only [Act.put,jj]
                     refine wpAnyH_done (by kernel_rfl) ?_ _;have hv:bad2 k j a b = true:=by rw [B2.out,en0,dn1,dn2,dn3,dn4];rfl
                     refine ⟨rfl,hb4, ?_⟩;rw [hv];exact ql (by kernel_rfl)
                   have dn4:decide (cb < 4) = false:=decide_eq_false n4;refine tA 20 hHeld4 ?_;try simp only [Act.put,jj]
                   refine tA 21 hHeld4 ?_;try simp only [Act.put,jj]
                   refine tA 22 hHeld4 ?_;try simp only [Act.put,jj]
                   refine tA 23 hHeld4 ?_;try simp only [Act.put,jj]
                   refine wpAnyH_ready (rs:=[24]) (by kernel_rfl) (by simp) ?_;refine AllReadyH.cons rfl (fun K hK=>?_) AllReadyH.nil;go_simp;refine (MA.out _ hb4).mono ?_;rintro e x5 ⟨rfl,hc5⟩;have hb5:=hb4.trans (hc5.mono hb4.size);clear hc5;go_wp2_with fail
                   refine hK.out _ _ (SS.out _ hb5) (fun hHeld5=>?_);clear hK K;try simp only [Act.put,jj]
                   by_cases n5:0 < ma
                   . have dn5:decide (0 < ma) = true:=decide_eq_true n5;refine tA 25 hHeld5 ?_;try simp only [Act.put,jj]
                     refine tA 26 hHeld5 ?_;try simp only [Act.put,jj]
                     refine tA 27 hHeld5 ?_;try simp only [Act.put,jj]
                     refine tA 29 hHeld5 ?_;try simp only [Act.put,jj]
                     refine wpAnyH_ready (rs:=[28]) (by kernel_rfl) (by simp) ?_;refine AllReadyH.cons rfl (fun K hK=>?_) AllReadyH.nil;go_simp;refine (MB.out _ hb5).mono ?_;rintro e x6 ⟨rfl,hc6⟩;have hb6:=hb5.trans (hc6.mono hb5.size);clear hc6;go_wp2_with fail
                     refine hK.out _ _ (SS.out _ hb6) (fun hHeld6=>?_);clear hK K;try simp only [Act.put,jj]
                     refine wpAnyH_ready (rs:=[30]) (by kernel_rfl) (by simp) ?_;refine AllReadyH.cons rfl (fun K hK=>?_) AllReadyH.nil;go_simp;refine (MA.out _ hb6).mono ?_;rintro e x7 ⟨rfl,hc7⟩;have hb7:=hb6.trans (hc7.mono hb6.size);clear hc7;go_wp2_with fail
                     refine hK.out _ _ (SS.out _ hb7) (fun hHeld7=>?_);clear hK K;try simp only [Act.put,jj]
                     by_cases n6:ma < mb
                     . have dn6:decide (ma < mb) = true:=decide_eq_true n6;refine tA 31 hHeld7 ?_;try simp only [Act.put,jj]
                       refine tA 32 hHeld7 ?_;try simp only [Act.put,jj]
                       refine tA 33 hHeld7 ?_;try simp only [Act.put,jj]
                       refine tA 34 hHeld7 ?_;try simp only [Act.put,jj]
                       refine wpAnyH_done (by kernel_rfl) ?_ _;have hv:bad2 k j a b = true:=by rw [B2.out,en0,dn1,dn2,dn3,dn4,dn5,dn6];rfl
                       refine ⟨rfl,hb7, ?_⟩;rw [hv];exact ql (by kernel_rfl)
                     have dn6:decide (ma < mb) = false:=decide_eq_false n6;refine tA 31 hHeld7 ?_;try simp only [Act.put,jj]
                     refine tA 32 hHeld7 ?_;try simp only [Act.put,jj]
                     refine tA 33 hHeld7 ?_;try simp only [Act.put,jj]
                     refine tA 34 hHeld7 ?_;try simp only [Act.put,jj]
                     refine wpAnyH_done (by kernel_rfl) ?_ _;have hv:bad2 k j a b = false:=by rw [B2.out,en0,dn1,dn2,dn3,dn4,dn5,dn6];rfl
                     refine ⟨rfl,hb7, ?_⟩;rw [hv];exact ql (by kernel_rfl)
                   have dn5:decide (0 < ma) = false:=decide_eq_false n5;refine tA 25 hHeld5 ?_;try simp only [Act.put,jj]
                   refine tA 26 hHeld5 ?_;try simp only [Act.put,jj]
                   refine tB 27 hHeld5 ?_;try simp only [Act.put,jj]
                   refine tB 28 hHeld5 ?_;try simp only [Act.put,jj]
                   refine tB 29 hHeld5 ?_;try simp only [Act.put,jj]
                   refine tB 30 hHeld5 ?_;try simp only [Act.put,jj]
                   refine tB 31 hHeld5 ?_;try simp only [Act.put,jj]
                   refine tA 32 hHeld5 ?_;try simp only [Act.put,jj]
                   refine tA 33 hHeld5 ?_;try simp only [Act.put,jj]
                   refine tA 34 hHeld5 ?_;try simp only [Act.put,jj]
                   refine wpAnyH_done (by kernel_rfl) ?_ _;have hv:bad2 k j a b = false:=by rw [B2.out,en0,dn1,dn2,dn3,dn4,dn5];rfl
                   refine ⟨rfl,hb5, ?_⟩;rw [hv];exact ql (by kernel_rfl)
                 have dn3:decide (0 < cb) = false:=decide_eq_false n3;refine tA 16 hHeld3 ?_;try simp only [Act.put,jj]
                 refine tA 17 hHeld3 ?_;try simp only [Act.put,jj]
                 refine tB 18 hHeld3 ?_;try simp only [Act.put,jj]
                 refine tB 19 hHeld3 ?_;try simp only [Act.put,jj]
                 refine tB 20 hHeld3 ?_;try simp only [Act.put,jj]
                 refine tA 21 hHeld3 ?_;try simp only [Act.put,jj]
                 refine tA 22 hHeld3 ?_;try simp only [Act.put,jj]
                 refine tA 23 hHeld3 ?_;try simp only [Act.put,jj]
                 refine wpAnyH_ready (rs:=[24]) (by kernel_rfl) (by simp) ?_;refine AllReadyH.cons rfl (fun K hK=>?_) AllReadyH.nil;go_simp;refine (MA.out _ hb3).mono ?_;rintro e x4 ⟨rfl,hc4⟩;have hb4:=hb3.trans (hc4.mono hb3.size);clear hc4;go_wp2_with fail
                 refine hK.out _ _ (SS.out _ hb4) (fun hHeld4=>?_);clear hK K;try simp only [Act.put,jj]
                 by_cases n5:0 < ma
                 . have dn5:decide (0 < ma) = true:=decide_eq_true n5;refine tA 25 hHeld4 ?_;try simp only [Act.put,jj]
                   refine tA 26 hHeld4 ?_;try simp only [Act.put,jj]
                   refine tA 27 hHeld4 ?_;try simp only [Act.put,jj]
                   refine tA 29 hHeld4 ?_;try simp only [Act.put,jj]
                   refine wpAnyH_ready (rs:=[28]) (by kernel_rfl) (by simp) ?_;refine AllReadyH.cons rfl (fun K hK=>?_) AllReadyH.nil;go_simp;refine (MB.out _ hb4).mono ?_;rintro e x5 ⟨rfl,hc5⟩;have hb5:=hb4.trans (hc5.mono hb4.size);clear hc5;go_wp2_with fail
                   refine hK.out _ _ (SS.out _ hb5) (fun hHeld5=>?_);clear hK K;try simp only [Act.put,jj]
                   refine wpAnyH_ready (rs:=[30]) (by kernel_rfl) (by simp) ?_;refine AllReadyH.cons rfl (fun K hK=>?_) AllReadyH.nil;go_simp;refine (MA.out _ hb5).mono ?_;rintro e x6 ⟨rfl,hc6⟩;have hb6:=hb5.trans (hc6.mono hb5.size);clear hc6;go_wp2_with fail
                   refine hK.out _ _ (SS.out _ hb6) (fun hHeld6=>?_);clear hK K;try simp only [Act.put,jj]
                   by_cases n6:ma < mb
                   . have dn6:decide (ma < mb) = true:=decide_eq_true n6;refine tA 31 hHeld6 ?_;try simp only [Act.put,jj]
                     refine tA 32 hHeld6 ?_;try simp only [Act.put,jj]
                     refine tA 33 hHeld6 ?_;try simp only [Act.put,jj]
                     refine tA 34 hHeld6 ?_;try simp only [Act.put,jj]
                     refine wpAnyH_done (by kernel_rfl) ?_ _;have hv:bad2 k j a b = true:=by rw [B2.out,en0,dn1,dn2,dn3,dn5,dn6];rfl
                     refine ⟨rfl,hb6, ?_⟩;rw [hv];exact ql (by kernel_rfl)
                   have dn6:decide (ma < mb) = false:=decide_eq_false n6;refine tA 31 hHeld6 ?_;try simp only [Act.put,jj]
                   refine tA 32 hHeld6 ?_;try simp only [Act.put,jj]
                   refine tA 33 hHeld6 ?_;try simp only [Act.put,jj]
                   refine tA 34 hHeld6 ?_;try simp only [Act.put,jj]
                   refine wpAnyH_done (by kernel_rfl) ?_ _;have hv:bad2 k j a b = false:=by rw [B2.out,en0,dn1,dn2,dn3,dn5,dn6];rfl
                   refine ⟨rfl,hb6, ?_⟩;rw [hv];exact ql (by kernel_rfl)
                 have dn5:decide (0 < ma) = false:=decide_eq_false n5;refine tA 25 hHeld4 ?_;try simp only [Act.put,jj]
                 refine tA 26 hHeld4 ?_;try simp only [Act.put,jj]
                 refine tB 27 hHeld4 ?_;try simp only [Act.put,jj]
                 refine tB 28 hHeld4 ?_;try simp only [Act.put,jj]
                 refine tB 29 hHeld4 ?_;try simp only [Act.put,jj]
                 refine tB 30 hHeld4 ?_;try simp only [Act.put,jj]
                 refine tB 31 hHeld4 ?_;try simp only [Act.put,jj]
                 refine tA 32 hHeld4 ?_;try simp only [Act.put,jj]
                 refine tA 33 hHeld4 ?_;try simp only [Act.put,jj]
                 refine tA 34 hHeld4 ?_;try simp only [Act.put,jj]
                 refine wpAnyH_done (by kernel_rfl) ?_ _;have hv:bad2 k j a b = false:=by rw [B2.out,en0,dn1,dn2,dn3,dn5];rfl
                 refine ⟨rfl,hb4, ?_⟩;rw [hv];exact ql (by kernel_rfl)
               have dn2:decide (ca < 4) = false:=decide_eq_false n2;refine tA 11 hHeld2 ?_;try simp only [Act.put,jj]
               refine tA 12 hHeld2 ?_;try simp only [Act.put,jj]
               refine tA 13 hHeld2 ?_;try simp only [Act.put,jj]
               refine tB 14 hHeld2 ?_;try simp only [Act.put,jj]
               refine tB 15 hHeld2 ?_;try simp only [Act.put,jj]
               refine tB 16 hHeld2 ?_;try simp only [Act.put,jj]
               refine tB 17 hHeld2 ?_;try simp only [Act.put,jj]
               refine tB 18 hHeld2 ?_;try simp only [Act.put,jj]
               refine tB 19 hHeld2 ?_;try simp only [Act.put,jj]
               refine tB 20 hHeld2 ?_;try simp only [Act.put,jj]
               refine tB 21 hHeld2 ?_;try simp only [Act.put,jj]
               refine tB 22 hHeld2 ?_;try simp only [Act.put,jj]
               refine tB 23 hHeld2 ?_;try simp only [Act.put,jj]
               refine tB 24 hHeld2 ?_;try simp only [Act.put,jj]
               refine tB 25 hHeld2 ?_;try simp only [Act.put,jj]
               refine tB 26 hHeld2 ?_;try simp only [Act.put,jj]
               refine tB 27 hHeld2 ?_;try simp only [Act.put,jj]
               refine tB 28 hHeld2 ?_;try simp only [Act.put,jj]
               refine tB 29 hHeld2 ?_;try simp only [Act.put,jj]
               refine tB 30 hHeld2 ?_;try simp only [Act.put,jj]
               refine tB 31 hHeld2 ?_;try simp only [Act.put,jj]
               refine tB 32 hHeld2 ?_;try simp only [Act.put,jj]
               refine tB 33 hHeld2 ?_;try simp only [Act.put,jj]
               refine tA 34 hHeld2 ?_;try simp only [Act.put,jj]
               refine wpAnyH_done (by kernel_rfl) ?_ _;have hv:bad2 k j a b = false:=by rw [B2.out,en0,dn1,dn2];rfl
               refine ⟨rfl,hb2, ?_⟩;rw [hv];exact ql (by kernel_rfl)
             have dn1:decide (0 < ca) = false:=decide_eq_false n1;refine tA 6 hHeld1 ?_;try simp only [Act.put,jj]
             refine tA 7 hHeld1 ?_;try simp only [Act.put,jj]
             refine tA 8 hHeld1 ?_;try simp only [Act.put,jj]
             refine tB 9 hHeld1 ?_;try simp only [Act.put,jj]
             refine tB 10 hHeld1 ?_;try simp only [Act.put,jj]
             refine tB 11 hHeld1 ?_;try simp only [Act.put,jj]
             refine tA 12 hHeld1 ?_;try simp only [Act.put,jj]
             refine tA 13 hHeld1 ?_;try simp only [Act.put,jj]
             refine tB 14 hHeld1 ?_;try simp only [Act.put,jj]
             refine tB 15 hHeld1 ?_;try simp only [Act.put,jj]
             refine tB 16 hHeld1 ?_;try simp only [Act.put,jj]
             refine tB 17 hHeld1 ?_;try simp only [Act.put,jj]
             refine tB 18 hHeld1 ?_;try simp only [Act.put,jj]
             refine tB 19 hHeld1 ?_;try simp only [Act.put,jj]
             refine tB 20 hHeld1 ?_;try simp only [Act.put,jj]
             refine tB 21 hHeld1 ?_;try simp only [Act.put,jj]
             refine tB 22 hHeld1 ?_;try simp only [Act.put,jj]
             refine tB 23 hHeld1 ?_;try simp only [Act.put,jj]
             refine tB 24 hHeld1 ?_;try simp only [Act.put,jj]
             refine tB 25 hHeld1 ?_;try simp only [Act.put,jj]
             refine tB 26 hHeld1 ?_;try simp only [Act.put,jj]
             refine tB 27 hHeld1 ?_;try simp only [Act.put,jj]
             refine tB 28 hHeld1 ?_;try simp only [Act.put,jj]
             refine tB 29 hHeld1 ?_;try simp only [Act.put,jj]
             refine tB 30 hHeld1 ?_;try simp only [Act.put,jj]
             refine tB 31 hHeld1 ?_;try simp only [Act.put,jj]
             refine tB 32 hHeld1 ?_;try simp only [Act.put,jj]
             refine tB 33 hHeld1 ?_;try simp only [Act.put,jj]
             refine tA 34 hHeld1 ?_;try simp only [Act.put,jj]
             refine wpAnyH_done (by kernel_rfl) ?_ _;have hv:bad2 k j a b = false:=by rw [B2.out,en0,dn1];rfl
             refine ⟨rfl,hb1, ?_⟩;rw [hv];exact ql (by kernel_rfl)
           have dn0:((k:Int) != (j:Int)) = false:=by rw [bne_eq_false_iff_eq];omega
           have en0:decide (k ≠ j) = false:=decide_eq_false n0;refine tA 2 hHeld0 ?_;try simp only [Act.put,jj]
           refine tA 3 hHeld0 ?_;try simp only [Act.put,jj]
           refine tB 4 hHeld0 ?_;try simp only [Act.put,jj]
           refine tB 5 hHeld0 ?_;try simp only [Act.put,jj]
           refine tB 6 hHeld0 ?_;try simp only [Act.put,jj]
           refine tA 7 hHeld0 ?_;try simp only [Act.put,jj]
           refine tA 8 hHeld0 ?_;try simp only [Act.put,jj]
           refine tB 9 hHeld0 ?_;try simp only [Act.put,jj]
           refine tB 10 hHeld0 ?_;try simp only [Act.put,jj]
           refine tB 11 hHeld0 ?_;try simp only [Act.put,jj]
           refine tA 12 hHeld0 ?_;try simp only [Act.put,jj]
           refine tA 13 hHeld0 ?_;try simp only [Act.put,jj]
           refine tB 14 hHeld0 ?_;try simp only [Act.put,jj]
           refine tB 15 hHeld0 ?_;try simp only [Act.put,jj]
           refine tB 16 hHeld0 ?_;try simp only [Act.put,jj]
           refine tB 17 hHeld0 ?_;try simp only [Act.put,jj]
           refine tB 18 hHeld0 ?_;try simp only [Act.put,jj]
           refine tB 19 hHeld0 ?_;try simp only [Act.put,jj]
           refine tB 20 hHeld0 ?_;try simp only [Act.put,jj]
           refine tB 21 hHeld0 ?_;try simp only [Act.put,jj]
           refine tB 22 hHeld0 ?_;try simp only [Act.put,jj]
           refine tB 23 hHeld0 ?_;try simp only [Act.put,jj]
           refine tB 24 hHeld0 ?_;try simp only [Act.put,jj]
           refine tB 25 hHeld0 ?_;try simp only [Act.put,jj]
           refine tB 26 hHeld0 ?_;try simp only [Act.put,jj]
           refine tB 27 hHeld0 ?_;try simp only [Act.put,jj]
           refine tB 28 hHeld0 ?_;try simp only [Act.put,jj]
           refine tB 29 hHeld0 ?_;try simp only [Act.put,jj]
           refine tB 30 hHeld0 ?_;try simp only [Act.put,jj]
           refine tB 31 hHeld0 ?_;try simp only [Act.put,jj]
           refine tB 32 hHeld0 ?_;try simp only [Act.put,jj]
           refine tB 33 hHeld0 ?_;try simp only [Act.put,jj]
           refine tA 34 hHeld0 ?_;try simp only [Act.put,jj]
           refine wpAnyH_done (by kernel_rfl) ?_ _;have hv:bad2 k j a b = false:=by rw [B2.out,en0];rfl
           refine ⟨rfl,hbz, ?_⟩;rw [hv];exact ql (by kernel_rfl)
          case rest13 =>
           intro x W4 hc4;by_cases hv2:bad2 k j a b = true
           . have hx:Hid (qm f 0 f = false):=by rw [Hid,hT2.out,show yq k a 0 f = false from by rw [hU2.out,if_pos (Or.inr hv2)]];rfl
             rw [hv2];go_wp2;go_ret;exact ⟨zg (by rw [hfin.out,hx.out]),hb1.trans ((hcl _ hc4).mono hb1.size)⟩
           have hx:Hid (yq k a 0 f = yq k a (j + 1) (f.drop (j + 1))):=by rw [Hid,hU2.out,if_neg (by rintro (h | h);exact hv1 h;exact hv2 h)]
           rw [show bad2 k j a b = false from by simpa using hv2];go_wp2;go_roundw
           (case rel=>exact ⟨j + 1,by omega,by go_num,hcl _ hc4,hx⟩)
           (case measure=>simp [intOf];omega)
       have hj4:(4:Int) ≤ (j:Int):=by omega
       have hx:Hid (yq k a 0 f = true):=by rw [Hid,hU.out,List.drop_of_length_le (by rw [HL.out];omega)];rfl
       have hx2:Hid (qm f 0 f = qm f (k + 1) (f.drop (k + 1))):=by rw [Hid,hT2.out,if_pos hx.out]
       clear hU hT2 hx;go_wp2;go_roundw
       (case rel=>exact ⟨k + 1,by omega,by go_num,hBl,hx2⟩)
       (case measure=>simp [intOf];omega)
    have hk4:(4:Int) ≤ (k:Int):=by omega
    have hx:Hid (qm f 0 f = true):=by rw [Hid,hT.out,List.drop_of_length_le (by rw [HL.out];omega)];rfl
    clear hT;go_wp2;go_ret;exact ⟨zg (by rw [hfin.out,hx.out]),hb1.trans (hB.mono hb1.size)⟩
 have hok':ze f = false:=by simpa using hok
 have hfin:Hid (j8 f = false):=by unfold Hid j8;rw [if_neg hok]
 go_enter Tryz.func67,Tryz.ntmps67
 go_wp2_with fail
 refine (Yw f A c _ hl hF).mono ?_;rw [hok'];rintro e w1 ⟨rfl,hb⟩;go_wp2;go_ret;exact ⟨zg (by rw [hfin.out]),hb⟩
end
section
open Go.RowKit Go.Maps
theorem Yv (s:St) (A D:Option Addr) (n m c d:Nat) (w:World) (hn:n = s.flash.length) (hm:m = s.disk.length) (hl:s.flash.length < 1000000000000) (hF:Fl w A s.flash) (hD:Row w D (ints s.disk)) :
 Calls Tryz.prog 37 #[.agg #[.slice A n c, .slice D m d]] w fun e w'=>e = .returned (.bool (z8 s))∧Below w.heap.size w w':=by
 subst hn;subst hm;have hB0:Below w.heap.size w (w.alloc (.cells #[.slice A s.flash.length c, .slice D s.disk.length d] 28)):=(Below.refl _ _).alloc nl _;have hF0:=hF.below hB0 nl;have hD0:=hD.below hB0 nl
 go_enter Tryz.func37,Tryz.ntmps37
 go_wp2_with fail
 refine (zbi s.flash A _ c _ rfl hl hF0).mono ?_;rw [← zfx];rintro e w1 ⟨rfl,hb⟩;have hs1:=hb.size;simp only [World.size_alloc] at hs1;have x0:w1.cell? ⟨w.heap.size,0,none⟩ = some (.slice A s.flash.length c):=(hb.cell (p:=⟨w.heap.size,0,none⟩) (by simp)).trans (by simp);have x1:w1.cell? ⟨w.heap.size,1,none⟩ = some (.slice D s.disk.length d):=(hb.cell (p:=⟨w.heap.size,1,none⟩) (by simp)).trans (by simp);have hF1:=hF0.below hb nl;have hD1:=hD0.below hb nl;have hB1:=hB0.trans (hb.mono (by simp));clear hb hF0 hD0 hB0;by_cases hord:z6 s.flash = true
 . have hok:=Ql hord;have HPL:=Lib.hid (show ∀ b ∈ s.flash,b.pages.length < 1000000000000 from fun b hb=>by rw [(zo hok b hb).1];omega);have hfin:Hid (z8 s = if s.disk.length = 6 then jm s.flash 0 s.disk else false):=by unfold Hid z8;rw [if_pos hord]
   rw [hord];clear hord hok;by_cases h6:s.disk.length = 6
   . have H6:=Lib.hid h6;have hfin2:Hid (z8 s = jm s.flash 0 s.disk):=by rw [Hid,hfin.out,if_pos h6]
     obtain ⟨db,dO,rfl⟩:=hD1.addr (yi (by intro e;rw [e] at h6;simp at h6));rw [h6] at x1 ⊢;clear h6 hfin hF hD;go_wp2
     go_loopw [3] (fun i wr=>∃ k:Nat,k ≤ 6∧i = .int .i64 k∧Below w1.heap.size w1 wr∧Hid (jm s.flash 0 s.disk = jm s.flash k (s.disk.drop k))) (fun i _=>6 - (intOf i).toNat)
     case atStart=>exact ⟨0,by omega,rfl,Below.refl _ _,rfl⟩
     case round =>
      obtain ⟨k,hk,rfl,hB,hT⟩:=hrel;by_cases hlt:k < 6
      . obtain ⟨v,hv⟩:=zc (l:=s.disk) (k:=k) (by rw [H6.out];exact hlt);have hk1:(k:Int) < 6:=by omega
        have e1:IntKind.i64.wrap ((k:Int) + 1) = (k:Int) + 1:=IntWalk.i64_in _ (by omega);have hT2:Hid (jm s.flash 0 s.disk = if valB v = true then (if Zg s.flash k v then false else jm s.flash (k + 1) (s.disk.drop (k + 1))) else false):=by rw [Hid,hT.out,zr hv,jm]
        have hdb:Hid (Zg s.flash k v ↔ (0 < (last s.flash ((k:Int) + 1)).seq∧(last s.flash ((k:Int) + 1)).kind = 2∧(last s.flash ((k:Int) + 1)).val ≠ v)):=Iff.rfl;have HV:=Lib.hid hv;have hwn:w.heap.size < wr.heap.size:=by have:=hB.size;omega
        replace x0:=(hB.cell (p:=⟨w.heap.size,0,none⟩) (by show w.heap.size < _;omega)).trans x0;replace x1:=(hB.cell (p:=⟨w.heap.size,1,none⟩) (by show w.heap.size < _;omega)).trans x1;clear hv hT;go_wp2_with fail
        refine (qz s.flash ((k:Int) + 1) A c _ hl HPL.out (hF1.below hB nl)).mono ?_;generalize last s.flash ((k:Int) + 1) = r at *;rintro e w3 ⟨rfl,hb3⟩;have hB3:=hB.trans (hb3.mono hB.size);have hs3:=hb3.size;obtain ⟨R,hR⟩:∃ R,w3.heap.size = R:=⟨_,rfl⟩;have hBn:Below w1.heap.size w1 (w3.alloc (.cells #[.int .i64 r.kind, .int .i64 r.seq, .int .i64 r.addr, .int .i64 r.val] 64)).drew:=(hB3.alloc hB3.size _).drew;have hBf:=hB1.trans (hBn.mono (by omega));have y1:(w3.alloc (.cells #[.int .i64 r.kind, .int .i64 r.seq, .int .i64 r.addr, .int .i64 r.val] 64)).cell? ⟨w.heap.size,1,none⟩ = some (.slice (some ⟨db,dO,none⟩) 6 d):=(((Below.refl w3.heap.size w3).alloc nl _).cell (p:=⟨w.heap.size,1,none⟩) (by show w.heap.size < _;omega)).trans ((hb3.cell (p:=⟨w.heap.size,1,none⟩) hwn).trans x1);obtain ⟨cv,_⟩:=((hD1.below hB3 nl).alloc (.cells #[.int .i64 r.kind, .int .i64 r.seq, .int .i64 r.addr, .int .i64 r.val] 64)).int_ HV.out;have z0:(w3.alloc (.cells #[.int .i64 r.kind, .int .i64 r.seq, .int .i64 r.addr, .int .i64 r.val] 64)).cell? ⟨R,0,none⟩ = some (.int .i64 r.kind):=by rw [← hR];simp
        have z3:(w3.alloc (.cells #[.int .i64 r.kind, .int .i64 r.seq, .int .i64 r.addr, .int .i64 r.val] 64)).cell? ⟨R,3,none⟩ = some (.int .i64 r.val):=by rw [← hR];simp
        clear hb3 hB3;by_cases hr:0 < r.seq
        . have dr:decide (0 < r.seq) = true:=decide_eq_true hr;go_wp2
          (try rw [hR])
          by_cases hvo:valB v = true
          . have hT3:=hT2.out;rw [if_pos hvo] at hT3;replace hT3:=Lib.hid hT3;have HIN:=Lib.hid (fun X=>(kw v 0 9 X).mono (fun e w' (h:e = .returned (.bool (valB v))∧X = w')=>(show e = .returned (.bool true)∧X = w' from by rw [hvo] at h;exact h)));clear hT2 hvo;refine wp_region_held_drew (S:=fun X=>X.cell? ⟨w.heap.size,1,none⟩ = some (.slice (some ⟨db,dO,none⟩) 6 d)∧X.cell? ⟨db,dO + k,none⟩ = some (.int .i64 v)∧X.cell? ⟨R,0,none⟩ = some (.int .i64 r.kind)∧X.cell? ⟨R,3,none⟩ = some (.int .i64 r.val)) (by kernel_rfl) ⟨y1,cv,z0,z3⟩ (fun hHeld0=>?_);refine tA 0 hHeld0 ?_;try simp only [Act.put,jj]
            refine tA 1 hHeld0 ?_;try simp only [Act.put,jj]
            refine tA 2 hHeld0 ?_;try simp only [Act.put,jj]
            refine tA 3 hHeld0 ?_;try simp only [Act.put,jj]
            refine tA 4 hHeld0 ?_;try simp only [Act.put,jj]
            refine wpAnyH_ready (rs:=[5]) (by kernel_rfl) (by simp) ?_;refine AllReadyH.cons rfl (fun K hK=>?_) AllReadyH.nil;go_simp;refine (HIN.out _).mono ?_;rintro e x1 ⟨rfl,rfl⟩;go_wp2_with fail
            refine hK.out _ _ ((by first | exact hHeld0 | (obtain ⟨a1,a2,a3,a4⟩:=hHeld0;exact ⟨a1,a2,a3,a4⟩))) (fun hHeld1=>?_);clear hK K;try simp only [Act.put,jj]
            refine tA 6 hHeld1 ?_;try simp only [Act.put,jj]
            refine tA 7 hHeld1 ?_;try simp only [Act.put,jj]
            refine tA 8 hHeld1 ?_;try simp only [Act.put,jj]
            refine tA 9 hHeld1 ?_;try simp only [Act.put,jj]
            refine tA 10 hHeld1 ?_;try simp only [Act.put,jj]
            refine tA 11 hHeld1 ?_;try simp only [Act.put,jj]
            by_cases n1:r.kind = 2
            . have dn1:(r.kind == 2) = true:=by rw [beq_iff_eq];exact n1
              have HN1:=Lib.hid n1;clear n1;refine tA 12 hHeld1 ?_;try simp only [Act.put,jj]
              refine tA 13 hHeld1 ?_;try simp only [Act.put,jj]
              refine tA 14 hHeld1 ?_;try simp only [Act.put,jj]
              refine tA 15 hHeld1 ?_;try simp only [Act.put,jj]
              refine tA 16 hHeld1 ?_;try simp only [Act.put,jj]
              refine tA 17 hHeld1 ?_;try simp only [Act.put,jj]
              refine tA 18 hHeld1 ?_;try simp only [Act.put,jj]
              refine tA 19 hHeld1 ?_;try simp only [Act.put,jj]
              refine tA 20 hHeld1 ?_;try simp only [Act.put,jj]
              refine tA 21 hHeld1 ?_;try simp only [Act.put,jj]
              by_cases n2:r.val ≠ v
              . have dn2:(r.val != v) = true:=by rw [bne_iff_ne];exact n2
                refine tA 22 hHeld1 ?_;try simp only [Act.put,jj]
                refine tA 23 hHeld1 ?_;try simp only [Act.put,jj]
                refine tA 24 hHeld1 ?_;try simp only [Act.put,jj]
                refine wpAnyH_done (by kernel_rfl) ?_ _;have hx:=hT3.out;rw [if_pos (hdb.out.2 ⟨hr,HN1.out,n2⟩)] at hx;replace hx:=Lib.hid hx;clear hT3;go_wp2;go_ret;exact ⟨zg (by rw [hfin2.out,hx.out]),hBf⟩
              have dn2:(r.val != v) = false:=by rw [bne_eq_false_iff_eq];simpa using n2
              refine tA 22 hHeld1 ?_;try simp only [Act.put,jj]
              refine tA 23 hHeld1 ?_;try simp only [Act.put,jj]
              refine tA 24 hHeld1 ?_;try simp only [Act.put,jj]
              refine wpAnyH_done (by kernel_rfl) ?_ _;have hx:=hT3.out;rw [if_neg (fun e=>n2 (hdb.out.1 e).2.2)] at hx;replace hx:=Lib.hid hx;clear hT3;go_wp2;go_roundw
              (case rel=>exact ⟨k + 1,by omega,by go_num,hBn,hx⟩)
              (case measure=>simp [intOf];omega)
            have dn1:(r.kind == 2) = false:=by rw [beq_eq_false_iff_ne];exact n1
            have HN1:=Lib.hid n1;refine tA 12 hHeld1 ?_;try simp only [Act.put,jj]
            refine tA 13 hHeld1 ?_;try simp only [Act.put,jj]
            refine tA 14 hHeld1 ?_;try simp only [Act.put,jj]
            refine tB 15 hHeld1 ?_;try simp only [Act.put,jj]
            refine tB 16 hHeld1 ?_;try simp only [Act.put,jj]
            refine tB 17 hHeld1 ?_;try simp only [Act.put,jj]
            refine tB 18 hHeld1 ?_;try simp only [Act.put,jj]
            refine tB 19 hHeld1 ?_;try simp only [Act.put,jj]
            refine tB 20 hHeld1 ?_;try simp only [Act.put,jj]
            refine tB 21 hHeld1 ?_;try simp only [Act.put,jj]
            refine tB 22 hHeld1 ?_;try simp only [Act.put,jj]
            refine tA 23 hHeld1 ?_;try simp only [Act.put,jj]
            refine tA 24 hHeld1 ?_;try simp only [Act.put,jj]
            refine wpAnyH_done (by kernel_rfl) ?_ _;have hx:=hT3.out;rw [if_neg (fun e=>by have h1:=(hdb.out.1 e).2.1;have h2:=HN1.out;omega)] at hx;replace hx:=Lib.hid hx;clear hT3;go_wp2;go_roundw
            (case rel=>exact ⟨k + 1,by omega,by go_num,hBn,hx⟩)
            (case measure=>simp [intOf];omega)
          have hx:=hT2.out;rw [if_neg hvo] at hx;replace hx:=Lib.hid hx;have HIN:=Lib.hid (fun X=>(kw v 0 9 X).mono (fun e w' (h:e = .returned (.bool (valB v))∧X = w')=>(show e = .returned (.bool false)∧X = w' from by rw [show valB v = false from by simpa using hvo] at h;exact h)));clear hT2 hvo;refine wp_region_held_drew (S:=fun X=>X.cell? ⟨w.heap.size,1,none⟩ = some (.slice (some ⟨db,dO,none⟩) 6 d)∧X.cell? ⟨db,dO + k,none⟩ = some (.int .i64 v)∧X.cell? ⟨R,0,none⟩ = some (.int .i64 r.kind)∧X.cell? ⟨R,3,none⟩ = some (.int .i64 r.val)) (by kernel_rfl) ⟨y1,cv,z0,z3⟩ (fun hHeld0=>?_);refine tA 0 hHeld0 ?_;try simp only [Act.put,jj]
          refine tA 1 hHeld0 ?_;try simp only [Act.put,jj]
          refine tA 2 hHeld0 ?_;try simp only [Act.put,jj]
          refine tA 3 hHeld0 ?_;try simp only [Act.put,jj]
          refine tA 4 hHeld0 ?_;try simp only [Act.put,jj]
          refine wpAnyH_ready (rs:=[5]) (by kernel_rfl) (by simp) ?_;refine AllReadyH.cons rfl (fun K hK=>?_) AllReadyH.nil;go_simp;refine (HIN.out _).mono ?_;rintro e x1 ⟨rfl,rfl⟩;go_wp2_with fail
          refine hK.out _ _ ((by first | exact hHeld0 | (obtain ⟨a1,a2,a3,a4⟩:=hHeld0;exact ⟨a1,a2,a3,a4⟩))) (fun hHeld1=>?_);clear hK K;try simp only [Act.put,jj]
          refine tA 6 hHeld1 ?_;try simp only [Act.put,jj]
          refine tA 7 hHeld1 ?_;try simp only [Act.put,jj]
          refine tB 8 hHeld1 ?_;try simp only [Act.put,jj]
          refine tB 9 hHeld1 ?_;try simp only [Act.put,jj]
          refine tB 10 hHeld1 ?_;try simp only [Act.put,jj]
          refine tB 11 hHeld1 ?_;try simp only [Act.put,jj]
          refine tB 12 hHeld1 ?_;try simp only [Act.put,jj]
          refine tB 13 hHeld1 ?_;try simp only [Act.put,jj]
          refine tB 14 hHeld1 ?_;try simp only [Act.put,jj]
          refine tB 15 hHeld1 ?_;try simp only [Act.put,jj]
          refine tB 16 hHeld1 ?_;try simp only [Act.put,jj]
          refine tB 17 hHeld1 ?_;try simp only [Act.put,jj]
          refine tB 18 hHeld1 ?_;try simp only [Act.put,jj]
          refine tB 19 hHeld1 ?_;try simp only [Act.put,jj]
          refine tB 20 hHeld1 ?_;try simp only [Act.put,jj]
          refine tB 21 hHeld1 ?_;try simp only [Act.put,jj]
          refine tB 22 hHeld1 ?_;try simp only [Act.put,jj]
          refine tB 23 hHeld1 ?_;try simp only [Act.put,jj]
          refine tA 24 hHeld1 ?_;try simp only [Act.put,jj]
          refine wpAnyH_done (by kernel_rfl) ?_ _;go_wp2;go_ret;exact ⟨zg (by rw [hfin2.out,hx.out]),hBf⟩
        have dr:decide (0 < r.seq) = false:=decide_eq_false hr;have HR:=Lib.hid hr;clear hr;go_wp2
        (try rw [hR])
        by_cases hvo:valB v = true
        . have hx:=hT2.out;rw [if_pos hvo,if_neg (fun e=>by have h1:=(hdb.out.1 e).1;have h2:=HR.out;omega)] at hx;replace hx:=Lib.hid hx;have HIN:=Lib.hid (fun X=>(kw v 0 9 X).mono (fun e w' (h:e = .returned (.bool (valB v))∧X = w')=>(show e = .returned (.bool true)∧X = w' from by rw [hvo] at h;exact h)));clear hT2 hvo;refine wp_region_held_drew (S:=fun X=>X.cell? ⟨w.heap.size,1,none⟩ = some (.slice (some ⟨db,dO,none⟩) 6 d)∧X.cell? ⟨db,dO + k,none⟩ = some (.int .i64 v)∧X.cell? ⟨R,0,none⟩ = some (.int .i64 r.kind)∧X.cell? ⟨R,3,none⟩ = some (.int .i64 r.val)) (by kernel_rfl) ⟨y1,cv,z0,z3⟩ (fun hHeld0=>?_);refine tA 0 hHeld0 ?_;try simp only [Act.put,jj]
          refine tA 1 hHeld0 ?_;try simp only [Act.put,jj]
          refine tA 2 hHeld0 ?_;try simp only [Act.put,jj]
          refine tA 3 hHeld0 ?_;try simp only [Act.put,jj]
          refine tA 4 hHeld0 ?_;try simp only [Act.put,jj]
          refine wpAnyH_ready (rs:=[5]) (by kernel_rfl) (by simp) ?_;refine AllReadyH.cons rfl (fun K hK=>?_) AllReadyH.nil;go_simp;refine (HIN.out _).mono ?_;rintro e x1 ⟨rfl,rfl⟩;go_wp2_with fail
          refine hK.out _ _ ((by first | exact hHeld0 | (obtain ⟨a1,a2,a3,a4⟩:=hHeld0;exact ⟨a1,a2,a3,a4⟩))) (fun hHeld1=>?_);clear hK K;try simp only [Act.put,jj]
          refine tA 6 hHeld1 ?_;try simp only [Act.put,jj]
          refine tA 7 hHeld1 ?_;try simp only [Act.put,jj]
          refine tA 8 hHeld1 ?_;try simp only [Act.put,jj]
          refine tA 9 hHeld1 ?_;try simp only [Act.put,jj]
          refine tB 10 hHeld1 ?_;try simp only [Act.put,jj]
          refine tB 11 hHeld1 ?_;try simp only [Act.put,jj]
          refine tB 12 hHeld1 ?_;try simp only [Act.put,jj]
          refine tA 13 hHeld1 ?_;try simp only [Act.put,jj]
          refine tA 14 hHeld1 ?_;try simp only [Act.put,jj]
          refine tB 15 hHeld1 ?_;try simp only [Act.put,jj]
          refine tB 16 hHeld1 ?_;try simp only [Act.put,jj]
          refine tB 17 hHeld1 ?_;try simp only [Act.put,jj]
          refine tB 18 hHeld1 ?_;try simp only [Act.put,jj]
          refine tB 19 hHeld1 ?_;try simp only [Act.put,jj]
          refine tB 20 hHeld1 ?_;try simp only [Act.put,jj]
          refine tB 21 hHeld1 ?_;try simp only [Act.put,jj]
          refine tB 22 hHeld1 ?_;try simp only [Act.put,jj]
          refine tA 23 hHeld1 ?_;try simp only [Act.put,jj]
          refine tA 24 hHeld1 ?_;try simp only [Act.put,jj]
          refine wpAnyH_done (by kernel_rfl) ?_ _;go_wp2;go_roundw
          (case rel=>exact ⟨k + 1,by omega,by go_num,hBn,hx⟩)
          (case measure=>simp [intOf];omega)
        have hx:=hT2.out;rw [if_neg hvo] at hx;replace hx:=Lib.hid hx;have HIN:=Lib.hid (fun X=>(kw v 0 9 X).mono (fun e w' (h:e = .returned (.bool (valB v))∧X = w')=>(show e = .returned (.bool false)∧X = w' from by rw [show valB v = false from by simpa using hvo] at h;exact h)));clear hT2 hvo;refine wp_region_held_drew (S:=fun X=>X.cell? ⟨w.heap.size,1,none⟩ = some (.slice (some ⟨db,dO,none⟩) 6 d)∧X.cell? ⟨db,dO + k,none⟩ = some (.int .i64 v)∧X.cell? ⟨R,0,none⟩ = some (.int .i64 r.kind)∧X.cell? ⟨R,3,none⟩ = some (.int .i64 r.val)) (by kernel_rfl) ⟨y1,cv,z0,z3⟩ (fun hHeld0=>?_);refine tA 0 hHeld0 ?_;try simp only [Act.put,jj]
        refine tA 1 hHeld0 ?_;try simp only [Act.put,jj]
        refine tA 2 hHeld0 ?_;try simp only [Act.put,jj]
        refine tA 3 hHeld0 ?_;try simp only [Act.put,jj]
        refine tA 4 hHeld0 ?_;try simp only [Act.put,jj]
        refine wpAnyH_ready (rs:=[5]) (by kernel_rfl) (by simp) ?_;refine AllReadyH.cons rfl (fun K hK=>?_) AllReadyH.nil;go_simp;refine (HIN.out _).mono ?_;rintro e x1 ⟨rfl,rfl⟩;go_wp2_with fail
        refine hK.out _ _ ((by first | exact hHeld0 | (obtain ⟨a1,a2,a3,a4⟩:=hHeld0;exact ⟨a1,a2,a3,a4⟩))) (fun hHeld1=>?_);clear hK K;try simp only [Act.put,jj]
        refine tA 6 hHeld1 ?_;try simp only [Act.put,jj]
        refine tA 7 hHeld1 ?_;try simp only [Act.put,jj]
        refine tB 8 hHeld1 ?_;try simp only [Act.put,jj]
        refine tB 9 hHeld1 ?_;try simp only [Act.put,jj]
        refine tB 10 hHeld1 ?_;try simp only [Act.put,jj]
        refine tB 11 hHeld1 ?_;try simp only [Act.put,jj]
        refine tB 12 hHeld1 ?_;try simp only [Act.put,jj]
        refine tB 13 hHeld1 ?_;try simp only [Act.put,jj]
        refine tB 14 hHeld1 ?_;try simp only [Act.put,jj]
        refine tB 15 hHeld1 ?_;try simp only [Act.put,jj]
        refine tB 16 hHeld1 ?_;try simp only [Act.put,jj]
        refine tB 17 hHeld1 ?_;try simp only [Act.put,jj]
        refine tB 18 hHeld1 ?_;try simp only [Act.put,jj]
        refine tB 19 hHeld1 ?_;try simp only [Act.put,jj]
        refine tB 20 hHeld1 ?_;try simp only [Act.put,jj]
        refine tB 21 hHeld1 ?_;try simp only [Act.put,jj]
        refine tB 22 hHeld1 ?_;try simp only [Act.put,jj]
        refine tB 23 hHeld1 ?_;try simp only [Act.put,jj]
        refine tA 24 hHeld1 ?_;try simp only [Act.put,jj]
        refine wpAnyH_done (by kernel_rfl) ?_ _;go_wp2;go_ret;exact ⟨zg (by rw [hfin2.out,hx.out]),hBf⟩
      have hk6:(6:Int) ≤ (k:Int):=by omega
      have hx:Hid (jm s.flash 0 s.disk = true):=by rw [Hid,hT.out,List.drop_of_length_le (by rw [H6.out];omega)];rfl
      clear hT;go_wp2;go_ret;exact ⟨zg (by rw [hfin2.out,hx.out]),hB1.trans (hB.mono (by omega))⟩
   have hfin2:Hid (z8 s = false):=by rw [Hid,hfin.out,if_neg h6]
   have h6':((s.disk.length:Int) != 6) = true:=by rw [bne_iff_ne];omega
   clear h6 hfin;go_wp2;go_ret;exact ⟨zg hfin2.out.symm,hB1⟩
 have hfin2:Hid (z8 s = false):=by unfold Hid z8;rw [if_neg hord];split <;> rfl
 rw [show z6 s.flash = false from by simpa using hord];clear hord;go_wp2;go_ret;exact ⟨zg hfin2.out.symm,hB1⟩
end
section
open Go.RowKit Go.Maps
theorem OwnI.lit (w:World) (base:Nat) (hb:base ≤ w.heap.size):OwnI (w.alloc (.cells #[] 3)) base (.slice (some ⟨w.heap.size,0,none⟩) 0 0) []:=World.ownsRow_lit w #[] 0 hb (by unfold maxLen;omega) rfl
def zgd (s:St):List Int:=if z8 s = true then allV s else []
theorem zhf (A A':Option Addr) (n m c c':Nat) (xs ys:List Int) (w:World) (hn:n = xs.length) (hm:m = ys.length) (hl:xs.length < 1000000000000) (hR:Row w A (ints xs)) (hR':Row w A' (ints ys)) :
 Calls Tryz.prog 19 #[.slice A n c, .slice A' m c'] w fun e w'=>e = .returned (.bool (decide (xs = ys)))∧Below w.heap.size w w':=by
 subst hn;subst hm;by_cases hlen:xs.length = ys.length
 . have HL:=Lib.hid hlen;rw [← hlen];clear hlen
   go_enter Tryz.func19,Tryz.ntmps19
   go_wp2
   go_loopw [5] (fun i wr=>∃ k:Nat,k ≤ xs.length∧i = .int .i64 k∧Below w.heap.size w wr∧Hid (decide (xs = ys) = decide (xs.drop k = ys.drop k))) (fun i _=>xs.length - (intOf i).toNat)
   case atStart=>exact ⟨0,by omega,rfl,Below.refl _ _,rfl⟩
   case round =>
    obtain ⟨k,hk,rfl,hB,hT⟩:=hrel;by_cases hlt:k < xs.length
    . obtain ⟨x,hx⟩:=zc hlt;obtain ⟨y,hy⟩:=zc (l:=ys) (k:=k) (by rw [← HL.out];exact hlt);obtain ⟨b,o,rfl⟩:=hR.addr (yi (by intro e;rw [e] at hx;simp at hx));obtain ⟨b',o',rfl⟩:=hR'.addr (yi (by intro e;rw [e] at hy;simp at hy));obtain ⟨c0,_⟩:=(hR.below hB nl).int_ hx;obtain ⟨d0,_⟩:=(hR'.below hB nl).int_ hy;have hk1:(k:Int) < xs.length:=by omega
      have e1:IntKind.i64.wrap ((k:Int) + 1) = (k:Int) + 1:=IntWalk.i64_in _ (by omega);have hT2:Hid (decide (xs = ys) = decide (x :: xs.drop (k + 1) = y :: ys.drop (k + 1))):=by rw [Hid,hT.out,zr hx,zr hy]
      clear hx hy hT;by_cases he:x = y
      . subst he;have hz:Hid (decide (xs = ys) = decide (xs.drop (k + 1) = ys.drop (k + 1))):=by rw [Hid,hT2.out];simp
        clear hT2;go_wp2;go_quiet (fail);have hBq:=y5 hB nq;go_wp2;go_roundw
        (case rel=>exact ⟨k + 1,by omega,by go_num,hBq,hz⟩)
        (case measure=>simp [intOf];omega)
      have hz:Hid (decide (xs = ys) = false):=by rw [Hid,hT2.out];simp [he]
      have hne:(x != y) = true:=by rw [bne_iff_ne];exact he
      clear hT2 he;go_wp2;go_quiet (fail);have hBq:=y5 hB nq;go_wp2;go_ret;exact ⟨zg hz.out.symm,hBq⟩
    have hk4:(xs.length:Int) ≤ (k:Int):=by omega
    have hz:Hid (decide (xs = ys) = true):=by rw [Hid,hT.out,List.drop_of_length_le (by omega),List.drop_of_length_le (by have:=HL.out;omega)];simp
    clear hT;go_wp2;go_ret;exact ⟨zg hz.out.symm,hB⟩
 have hz:Hid (decide (xs = ys) = false):=by rw [Hid];exact decide_eq_false (fun e=>hlen (by rw [e]))
 have hne:((xs.length:Int) != (ys.length:Int)) = true:=by rw [bne_iff_ne];omega
 clear hlen
 go_enter Tryz.func19,Tryz.ntmps19
 go_wp2;go_ret;exact ⟨zg hz.out.symm,Below.refl _ _⟩
end
section
theorem zan {a:Int}:∀ {ps:List Pg} {o:Rc},(∀ p ∈ ps,p.state ≠ 1)->xr a o ps = o
 | [],_,_=>rfl
 | p :: ps, o, h => by
   show xr a (zz a o p) ps = o;have:zz a o p = o:=by unfold zz;rw [if_neg (fun e=>h p (List.mem_cons_self ..) e.1)]
   rw [this];exact zan fun q hq=>h q (List.mem_cons_of_mem _ hq)
theorem zfg:∀ {f:List Bk} {a:Int} {o:Rc},(∀ b ∈ f,∀ p ∈ b.pages,p.state ≠ 1)->f.foldl (fun o b=>xr a o b.pages) o = o
 | [],_,_,_=>rfl
 | b :: f, a, o, h => by
   rw [List.foldl_cons,zan (h b (List.mem_cons_self ..))];exact zfg fun c hc=>h c (List.mem_cons_of_mem _ hc)
theorem zln:∀ b ∈ xp,∀ p ∈ b.pages,p.state ≠ 1:=by decide
theorem znz (a:Int):last xp a = rc0:=zfg zln
theorem zlg:z6 xp = true:=by decide
theorem zcr:∀ {xs:List Int} {i:Nat},(∀ v ∈ xs,valB v = true)->jm xp i xs = true
 | [],_,_=>rfl
 | x :: xs, i, h => by
   unfold jm;rw [if_pos (h x (List.mem_cons_self ..)),if_neg]
   . exact zcr fun v hv=>h v (List.mem_cons_of_mem _ hv)
   unfold Zg;rw [znz];rintro ⟨h0,_⟩;exact absurd h0 (by decide)
theorem zgl {xs:List Int} (h6:xs.length = 6) (hv:∀ v ∈ xs,valB v = true):z8 ⟨xp,xs⟩ = true:=by
 unfold z8;rw [if_pos h6,if_pos zlg];exact zcr hv
theorem zj9:∀ v ∈ Qh,valB v = true:=by decide
theorem zqi:z8 ⟨xp,Qh⟩ = true:=zgl rfl zj9
end
section
open Go.RowKit Go.Maps
structure Held (W:World) (bx:Nat) (A D:Option Addr) (n c m d:Nat) (s:St):Prop where
 fl:Fl W A s.flash
 dk:Row W D (ints s.disk)
 x0:W.cell? ⟨bx,0,none⟩ = some (.slice A n c)
 x1:W.cell? ⟨bx,1,none⟩ = some (.slice D m d)
 hn:n = s.flash.length
 hm:m = s.disk.length
theorem Held.below {W X:World} {bx n c m d B:Nat} {A D:Option Addr} {s:St} (h:Held W bx A D n c m d s) (hb:Below B W X) (hB:W.heap.size ≤ B):Held X bx A D n c m d s :=
 ⟨h.fl.below hb hB,h.dk.below hb hB,(hb.cell (p:=⟨bx,0,none⟩) (Nat.lt_of_lt_of_le (zd h.x0) hB)).trans h.x0,(hb.cell (p:=⟨bx,1,none⟩) (Nat.lt_of_lt_of_le (zd h.x1) hB)).trans h.x1,h.hn,h.hm⟩
theorem Held.new (w:World) {A D:Option Addr} {n c m d:Nat} {s:St} (hF:Fl w A s.flash) (hD:Row w D (ints s.disk)) (hn:n = s.flash.length) (hm:m = s.disk.length):Held (w.alloc (.cells #[.slice A n c, .slice D m d] 28)) w.heap.size A D n c m d s :=
 ⟨hF.below ((Below.refl _ _).alloc nl _) nl,hD.alloc _,by simp,by simp,hn,hm⟩
theorem Held.drew {W:World} {bx n c m d:Nat} {A D:Option Addr} {s:St} (h:Held W bx A D n c m d s):Held W.drew bx A D n c m d s:=⟨h.fl.drew',h.dk,h.x0,h.x1,h.hn,h.hm⟩
theorem Qk {s:St} (h:yu s):s.flash.length < 1000000000000:=by have:=h.1.1;omega
theorem zbn (s:St) (A D:Option Addr) (n m c d:Nat) (w:World) (hn:n = s.flash.length) (hm:m = s.disk.length) (hF:Fl w A s.flash) (hD:Row w D (ints s.disk)) :
 Calls Tryz.prog 18 #[.agg #[.slice A n c, .slice D m d]] w fun e w'=>∃ A' c',e = .returned (.slice A' (zgd s).length c')∧Row w' A' (ints (zgd s))∧Below w.heap.size w w':=by
 refine (Jn s A D n m c d w hn hm hF hD).mono ?_;rintro e w' ⟨hb,⟨h,g,rfl,_,hR⟩ | ⟨h,rfl⟩⟩
 . have ha:zgd s = allV s:=by unfold zgd;rw [if_pos h]
   exact ⟨_,6,by rw [ha];rfl,by rw [ha];exact hR,hb⟩
 have ha:zgd s = []:=by unfold zgd;rw [if_neg (by rw [h];simp)]
 exact ⟨none,0,by rw [ha];rfl,by rw [ha];exact Row.nil _ _,hb⟩
end
section
open Go.Conc Go.ConcN Go.ConcR.Gen Go.RowKit
theorem VIn.wide {G G2:Cfg} {A A2:Nat->Prop} (hf:∀ f,G f = true->G2 f = true) (hl:∀ b,G2.lo b = 0) (h:∀ b,A b->A2 b) {v:Value} (hv:VIn G A v):VIn G2 A2 v:=by
 have hi:∀ {a:Addr},Ina G A a->Ina G2 A2 a:=fun x=>⟨h _ x.blk,by rw [hl];exact Nat.zero_le _⟩
 induction hv with
 | bool b=>exact .bool b
 | int k n=>exact .int k n
 | float k n=>exact .float k n
 | string s=>exact .string s
 | ptr0=>exact .ptr0
 | ptr x=>exact .ptr (hi x)
 | slice0 n c=>exact .slice0 n c
 | slice n c x=>exact .slice n c (hi x)
 | map0=>exact .map0
 | map x=>exact .map (h _ x)
 | chan0=>exact .chan0
 | func hg _ _ i1 i2=>exact .func (hf _ hg) i1 i2
 | yield hl _ _ i1 i2=>exact .yield (h _ hl) i1 i2
 | nilFunc=>exact .nilFunc
 | nilIface=>exact .nilIface
 | iface _ i=>exact .iface i
 | agg _ i=>exact .agg i
 | tuple _ i=>exact .tuple i
section
variable {SB A:Nat->Prop} {w0 w:World} {D1 D2:Nat->Option (Nat × Nat)}
theorem zl3 (h:∀ b x,D2 b = some x->x = (0,0)) (b:Nat):(good D2).lo b = 0:=by
 unfold Cfg.lo;split
 . rename_i l hi e;have:=h b _ e;cases this;rfl
 rfl
theorem Co.wide {A2:Nat->Prop} (co:Co (good D1) SB A w0 w) (hA:∀ b,A b->A2 b) (hD:∀ b x,D1 b = some x->D2 b ≠ none) (h0:∀ b x,D2 b = some x->x = (0,0)) (h2:∀ b,A2 b->A b∨D2 b ≠ none)
 (hc:∀ b x,D2 b = some x->∃ cs t fr,w.heap[b]? = some (.cells cs t fr)) (hSB:∀ b,SB b->D2 b = none):Co (good D2) SB A2 w0 w:=by
 refine ⟨⟨fun r hr=>?_,fun c l h e=>?_⟩,fun b hb=>⟨fun x=>?_, ?_⟩,co.bel⟩
 . cases e:D2 r with
   | some x =>
     obtain ⟨cs,t,fr,ho⟩:=hc r x e;have hx:=h0 r x e;subst hx;refine ⟨.cells (cs.extract 0 0) t fr, ?_, .cells fun j v _ hv=>?_⟩
     . rw [X8,ho,show (good D2).dead r = some (0,0) from e];rfl
     simp at hv
   | none =>
     have hr1:A r:=(h2 r hr).elim id fun x=>absurd e x;have e1:D1 r = none:=by
      cases e1:D1 r with
      | none=>rfl
      | some x=>exact absurd e (hD r x e1)
     obtain ⟨o,ho,hin⟩:=co.hin.obj r hr1;rw [Xj (show (good D1).dead r = none from e1)] at ho;refine ⟨o,by rw [Xj (show (good D2).dead r = none from e)];exact ho, ?_⟩;have hlo:=zl3 h0;have hlo1:(good D1).lo r = 0:=by unfold Cfg.lo;rw [show (good D1).dead r = none from e1]
     have hw:∀ {v:Value},VIn (good D1) A v->VIn (good D2) A2 v:=fun h=>VIn.wide (G:=good D1) (G2:=good D2) (fun _ h=>h) hlo hA h;cases hin with
     | cells hc=>exact .cells fun j v hj hv=>hw (hc j v (by rw [hlo1];exact Nat.zero_le _) hv)
     | map hm=>exact .map fun e he=>⟨hw (hm e he).1,hw (hm e he).2⟩
     | loop h1 h2 h3 h4 h5=>exact .loop (fun v hv=>hw (h1 v hv)) h2 h3 h4 (hA _ h5)
     | deferred hd=>exact .deferred hd
     | number ha=>exact .number (hA _ ha)
 . obtain ⟨cs,t,fr,ho⟩:=hc c _ e;rw [zy];exact (Array.getElem?_eq_some_iff.1 ho).1
 . exact (h2 b x).elim (co.away b hb).1 fun h=>h (hSB b hb)
 have:=(co.away b hb).2;rw [zy] at this ⊢;exact this
end
section
variable {SB A:Nat->Prop} {w0 w:World} {G:Cfg}
theorem Co.pushIn (h:Co G SB A w0 w) {o:Obj} (ho:OIn Tryz.prog G (fun b=>A b∨b = w.heap.size) w.heap.size o):Co G SB (fun b=>A b∨b = w.heap.size) w0 { w with heap:=w.heap.push o }:=by
 have e:=zd9 h.dead o;have h1:=h.push o;have hs:(cutW G w).heap.size = w.heap.size:=zy _ _;refine ⟨⟨fun r hr=>?_,h1.hin.there⟩,fun b hb=>⟨fun x=>x.elim (h1.away b hb).1 fun x=>?_,(h1.away b hb).2⟩,h1.bel⟩
 . rcases hr with hr | rfl
   . obtain ⟨x,hx,hin⟩:=h1.hin.obj r hr;exact ⟨x,hx,hin.mono fun _ z=>.inl z⟩
   refine ⟨o, ?_,ho⟩;rw [e];show ((cutW G w).heap.push o)[w.heap.size]? = _;rw [← hs,Array.getElem?_push_size]
 have:=h.shun hb;omega
theorem Co.setIn (h:Co G SB A w0 w) {b:Nat} (j:Nat) {v:Value} (hv:VIn G A v) (hb:w0.heap.size ≤ b):Co G SB A w0 (w.setCell ⟨b,j,none⟩ v):=by
 have e:=Xi (G:=G) (w:=w) ⟨b,j,none⟩ v;have hs:(cutW G (w.setCell ⟨b,j,none⟩ v)).heap.size = (cutW G w).heap.size:=by rw [zy,zy];simp [World.setCell]
 refine ⟨by rw [e];exact h.hin.setCell ⟨b,j,none⟩ hv,fun b hb=>⟨(h.away b hb).1,by rw [hs];exact (h.away b hb).2⟩,h.bel.more (by simp [World.setCell]) rfl rfl fun x hx=>Below.heap_setCell _ ⟨b,j,none⟩ v x (by show x ≠ b;omega)⟩
end
section
variable {SB A:Nat->Prop} {w0 w v:World} {D:Nat->Option (Nat × Nat)} {A1 E1:Option Addr} {n c m d bx:Nat} {s:St}
structure Sx (D:Nat->Option (Nat × Nat)) (SB A:Nat->Prop) (w0:World) (A1:Option Addr) (n c:Nat) (E1:Option Addr) (m d:Nat) (s:St) (w:World):Prop where
 co:Co (good D) SB A w0 w
 fl:Fl (cutW (good D) w) A1 s.flash
 dk:Row (cutW (good D) w) E1 (ints s.disk)
 va:VIn (good D) A (.slice A1 n c)
 vd:VIn (good D) A (.slice E1 m d)
 hn:n = s.flash.length
 hm:m = s.disk.length
theorem Fl.cz {w:World} {A:Option Addr} {f:List Bk} (h:Fl w A f) {w':World} (k:Bel w w'):Fl w' A f:=h.bel k
theorem Row.bz {w w':World} {a:Option Addr} {vs:List Value} (h:Row w a vs) (hb:Bel w w'):Row w' a vs:=by
 have:Row { w' with tape:=w.tape } a vs:=h.below hb.bl nl;exact this
theorem Sx.tp (w:World) (T:Nat->Question->Nat) (k:Nat) (h:Sx D SB A w0 A1 n c E1 m d s w):Sx D SB A w0 A1 n c E1 m d s (tp0 w T k):=⟨h.co.tp T k,h.fl.bel (Bel.tp _ T k),h.dk.bz (Bel.tp _ T k),h.va,h.vd,h.hn,h.hm⟩
structure Sy (D:Nat->Option (Nat × Nat)) (SB A:Nat->Prop) (w0:World) (A1:Option Addr) (n c:Nat) (E1:Option Addr) (m d:Nat) (s:St) (bx:Nat) (v w:World):Prop where
 co:Co (good D) SB A w0 w
 fl:Fl (cutW (good D) v) A1 s.flash
 dk:Row (cutW (good D) v) E1 (ints s.disk)
 va:VIn (good D) A (.slice A1 n c)
 vd:VIn (good D) A (.slice E1 m d)
 hn:n = s.flash.length
 hm:m = s.disk.length
 bel:Bel v w
 lt:v.heap.size ≤ bx
 ge:w0.heap.size ≤ bx
 own:A bx
 dead:D bx = none
 there:w.heap[bx]? = some (.cells #[.slice none 0 0, .slice none 0 0] 28)
theorem Sy.tp (w:World) (T:Nat->Question->Nat) (k:Nat) (h:Sy D SB A w0 A1 n c E1 m d s bx v w):Sy D SB A w0 A1 n c E1 m d s bx v (tp0 w T k):=⟨h.co.tp T k,h.fl,h.dk,h.va,h.vd,h.hn,h.hm,h.bel.trans (Bel.tp _ T k),h.lt,h.ge,h.own,h.dead,h.there⟩
theorem Sx.push (h:Sx D SB A w0 A1 n c E1 m d s w):Sy D SB (fun b=>A b∨b = w.heap.size) w0 A1 n c E1 m d s w.heap.size w { w with heap:=w.heap.push (.cells #[.slice none 0 0, .slice none 0 0] 28) }:=by
 have hb:Bel w { w with heap:=w.heap.push (.cells #[.slice none 0 0, .slice none 0 0] 28) }:=⟨rfl,rfl,by simp,fun b hb=>getElem?_push_old _ _ hb⟩;refine ⟨h.co.pushIn (.all fun v hv=>?_),h.fl,h.dk,h.va.mono fun _ x=>.inl x,h.vd.mono fun _ x=>.inl x,h.hn,h.hm,hb,Nat.le_refl _,h.co.bel.size, .inr rfl, ?_,by simp⟩
 . simp at hv;subst hv;exact .slice0 _ _
 cases e:D w.heap.size with
 | none=>rfl
 | some x=>have:=h.co.dead w.heap.size x.1 x.2 e;omega
theorem Sy.cell (h:Sy D SB A w0 A1 n c E1 m d s bx v w):(w.cell? ⟨bx,0,none⟩ = some (.slice none 0 0)∧w.cell? ⟨bx,1,none⟩ = some (.slice none 0 0))∧w.frozen? ⟨bx,0,none⟩ = false∧w.frozen? ⟨bx,1,none⟩ = false:=by
 have h1:=h.there;simp [World.cell?,World.frozen?,h1]
theorem Sy.set (h:Sy D SB A w0 A1 n c E1 m d s bx v w):Co (good D) SB A w0 ((w.setCell ⟨bx,0,none⟩ (.slice A1 n c)).setCell ⟨bx,1,none⟩ (.slice E1 m d))∧Held (cutW (good D) ((w.setCell ⟨bx,0,none⟩ (.slice A1 n c)).setCell ⟨bx,1,none⟩ (.slice E1 m d))) bx A1 E1 n c m d s:=by
 have hco:=(h.co.setIn 0 h.va h.ge).setIn 1 h.vd h.ge;have hb:Bel v ((w.setCell ⟨bx,0,none⟩ (.slice A1 n c)).setCell ⟨bx,1,none⟩ (.slice E1 m d)):=by
  refine h.bel.more (by simp [World.setCell]) rfl rfl fun b hb=>?_;have hne:b ≠ bx:=by have:=h.lt;omega
  rw [Below.heap_setCell _ ⟨bx,1,none⟩ _ b hne,Below.heap_setCell _ ⟨bx,0,none⟩ _ b hne]
 have hz:((w.setCell ⟨bx,0,none⟩ (.slice A1 n c)).setCell ⟨bx,1,none⟩ (.slice E1 m d)).heap[bx]? = some (.cells #[.slice A1 n c, .slice E1 m d] 28):=by
  have h1:=h.there;simp [World.setCell,Array.getElem?_modify,h1]
 have hz2:(cutW (good D) ((w.setCell ⟨bx,0,none⟩ (.slice A1 n c)).setCell ⟨bx,1,none⟩ (.slice E1 m d))).heap[bx]? = some (.cells #[.slice A1 n c, .slice E1 m d] 28):=by
  rw [Xj (show (good D).dead bx = none from h.dead)];exact hz
 exact ⟨hco,h.fl.bel hb.cut,h.dk.bz hb.cut,by simp [World.cell?,hz2],by simp [World.cell?,hz2],h.hn,h.hm⟩
structure Sz (D:Nat->Option (Nat × Nat)) (SB A:Nat->Prop) (w0:World) (A1:Option Addr) (n c:Nat) (E1:Option Addr) (m d:Nat) (s:St) (bx:Nat) (w:World):Prop where
 co:Co (good D) SB A w0 w
 own:A bx
 lo:(good D).lo bx = 0
 h:Held (cutW (good D) w) bx A1 E1 n c m d s
theorem Sz.tp (w:World) (T:Nat->Question->Nat) (k:Nat) (h:Sz D SB A w0 A1 n c E1 m d s bx w):Sz D SB A w0 A1 n c E1 m d s bx (tp0 w T k):=⟨h.co.tp T k,h.own,h.lo,h.h.fl.bel (Bel.tp _ T k),h.h.dk.bz (Bel.tp _ T k),h.h.x0,h.h.x1,h.h.hn,h.h.hm⟩
theorem Sz.held (h:Sz D SB A w0 A1 n c E1 m d s bx w) (T:Nat->Question->Nat) (k:Nat):Held (tp0 (cutW (good D) w) T k) bx A1 E1 n c m d s:=⟨h.h.fl.bel (Bel.tp _ T k),h.h.dk.bz (Bel.tp _ T k),h.h.x0,h.h.x1,h.h.hn,h.h.hm⟩
theorem Sz.c0 (h:Sz D SB A w0 A1 n c E1 m d s bx w):w.cell? ⟨bx,0,none⟩ = some (.slice A1 n c):=Zs h.h.x0
theorem Sz.c1 (h:Sz D SB A w0 A1 n c E1 m d s bx w):w.cell? ⟨bx,1,none⟩ = some (.slice E1 m d):=Zs h.h.x1
theorem Sz.nsb (h:Sz D SB A w0 A1 n c E1 m d s bx w):¬ SB bx:=fun x=>(h.co.away _ x).1 h.own
theorem Sz.lt (h:Sz D SB A w0 A1 n c E1 m d s bx w):bx < w.heap.size:=h.co.lt h.own
theorem Sz.va (h:Sz D SB A w0 A1 n c E1 m d s bx w):VIn (good D) A (.slice A1 n c):=K8 h.co.hin ⟨h.own,by rw [h.lo];exact Nat.zero_le _⟩ h.h.x0
theorem Sz.vd (h:Sz D SB A w0 A1 n c E1 m d s bx w):VIn (good D) A (.slice E1 m d):=K8 h.co.hin (a:=⟨bx,1,none⟩) ⟨h.own,by rw [h.lo];exact Nat.zero_le _⟩ h.h.x1
theorem Sz.agg (h:Sz D SB A w0 A1 n c E1 m d s bx w):VIn (good D) A (.agg #[.slice A1 n c, .slice E1 m d]):=.agg fun v hv=>by
 simp at hv;rcases hv with rfl | rfl
 . exact h.va
 exact h.vd
theorem Sz.ptr (h:Sz D SB A w0 A1 n c E1 m d s bx w):VIn (good D) A (.pointer (some ⟨bx,0,none⟩)):=.ptr ⟨h.own,by rw [h.lo];exact Nat.zero_le _⟩
theorem Sz.more {SB' A':Nat->Prop} {w':World} (h:Sz D SB A w0 A1 n c E1 m d s bx w) (hA:∀ b,A b->A' b) (co:Co (good D) SB' A' w0 w') (hb:Bel w w'):Sz D SB' A' w0 A1 n c E1 m d s bx w':=⟨co,hA _ h.own,h.lo,h.h.fl.bel hb.cut,h.h.dk.bz hb.cut,(hb.cut.cell (zd h.h.x0) 0).trans h.h.x0,(hb.cut.cell (zd h.h.x1) 1).trans h.h.x1,h.h.hn,h.h.hm⟩
theorem Sy.fill (h:Sy D SB A w0 A1 n c E1 m d s bx v w):Sz D SB A w0 A1 n c E1 m d s bx ((w.setCell ⟨bx,0,none⟩ (.slice A1 n c)).setCell ⟨bx,1,none⟩ (.slice E1 m d)):=⟨h.set.1,h.own,by unfold Cfg.lo;rw [show (good D).dead bx = none from h.dead],h.set.2⟩
end
theorem VIn.tup {G:Cfg} {A:Nat->Prop} {vs:Array Value} (h:VIn G A (.tuple vs)):∀ v ∈ vs,VIn G A v:=by cases h;assumption
theorem VIn.ags {G:Cfg} {A:Nat->Prop} {vs:Array Value} (h:VIn G A (.agg vs)):∀ v ∈ vs,VIn G A v:=by cases h;assumption
open Classical in
theorem Co.open_ {A:Nat->Prop} {W w:World} {D1:Nat->Option (Nat × Nat)} {A0 A1:Option Addr} (co:Co (good D1) (fun _=>False) A W w) (hD:∀ b x,D1 b = some x->∃ a,A0 = some a∧a.block = b) (hl0:Lain W A0) (hl1:Lain W A1) :
 ∃ (D:Nat->Option (Nat × Nat)) (A2:Nat->Prop),Co (good D) (fun _=>False) A2 W w∧(∀ v,VIn (good D1) A v->VIn (good D) A2 v)∧(∀ n c,VIn (good D) A2 (.slice A0 n c))∧(∀ n c,VIn (good D) A2 (.slice A1 n c))∧∀ b,W.heap.size ≤ b->(cutW (good D) w).heap[b]? = (cutW (good D1) w).heap[b]?:=by
 let E:Nat->Prop:=fun b=>(∃ a,A0 = some a∧a.block = b)∨∃ a,A1 = some a∧a.block = b
 let D:Nat->Option (Nat × Nat):=fun b=>if E b then some (0,0) else none
 have hE:∀ b x,D b = some x->E b∧x = (0,0):=by
  intro b x e;by_cases h:E b
  . refine ⟨h, ?_⟩;have e':(if E b then some (0,0) else none) = some x:=e;rw [if_pos h] at e';cases e';rfl
  have e':(if E b then some (0,0) else none) = some x:=e;rw [if_neg h] at e';cases e'
 have hE2:∀ b,E b->D b ≠ none:=by
  intro b h e;have e':(if E b then some ((0:Nat),(0:Nat)) else none) = none:=e;rw [if_pos h] at e';cases e'
 have h0:∀ b x,D b = some x->x = (0,0):=fun b x e=>(hE b x e).2;have hcs:∀ b,E b->b < W.heap.size∧∃ cs t fr,W.heap[b]? = some (.cells cs t fr):=by
  rintro b (⟨a,e,rfl⟩ | ⟨a,e,rfl⟩)
  . obtain ⟨_,cs,t,fr,ho⟩:=hl0 a e;exact ⟨(Array.getElem?_eq_some_iff.1 ho).1,cs,t,fr,ho⟩
  obtain ⟨_,cs,t,fr,ho⟩:=hl1 a e;exact ⟨(Array.getElem?_eq_some_iff.1 ho).1,cs,t,fr,ho⟩
 have hlo:=zl3 h0;have hsl:∀ {a:Option Addr} (n c:Nat),(∀ x,a = some x->E x.block)->VIn (good D) (fun b=>A b∨E b) (.slice a n c):=by
  intro a n c h;cases a with
  | none=>exact .slice0 _ _
  | some a=>exact .slice _ _ ⟨.inr (h a rfl),by rw [hlo];exact Nat.zero_le _⟩
 refine ⟨D,fun b=>A b∨E b,co.wide (fun _ h=>.inl h) (fun b x e=>hE2 b (.inl (hD b x e))) h0 (fun b h=>h.imp id (hE2 b)) (fun b x e=>?_) (fun b h=>h.elim),fun v hv=>VIn.wide (G:=good D1) (G2:=good D) (fun _ h=>h) hlo (fun _ h=>.inl h) hv,fun n c=>hsl n c fun x e=>.inl ⟨x,e,rfl⟩,fun n c=>hsl n c fun x e=>.inr ⟨x,e,rfl⟩,fun b hb=>?_⟩
 . obtain ⟨hlt,cs,t,fr,ho⟩:=hcs b (hE b x e).1;exact ⟨cs,t,fr,(co.bel.block b hlt).trans ho⟩
 have e1:D1 b = none:=by
  cases e:D1 b with
  | none=>rfl
  | some x=>have:=(hcs b (.inl (hD b x e))).1;omega
 have e2:D b = none:=by
  cases e:D b with
  | none=>rfl
  | some x=>have:=(hcs b (hE b x e).1).1;omega
 rw [Xj (show (good D).dead b = none from e2),Xj (show (good D1).dead b = none from e1)]
end
section
open Go.RowKit Go.Maps
noncomputable def zpi:Go.Code:=match Tryz.f16.body with | some (.seq _ (.seq _ (.seq _ (.seq (.seq _ c) _))))=>c | _=>.skip
def zqh (f:List Bk) (a:Act) (_:World):Prop:=∃ T:Array Value,a = ⟨T,[]⟩∧T.size = 22∧T[3]? = some (.int .i64 (wSum f))
theorem zq5 {W0 W:World} {C:Nat} {f:List Bk} (h0:Bel W0 W) (hok:ze f = true) (hc:∀ (k:Nat) (b:Bk),f[k]? = some b->W.cell? ⟨C,k * 2,none⟩ = some (.int .i64 b.worn)∧W.cell? ⟨C,k * 2 + 1,none⟩ = some (.int .i64 (tornN b.pages:Int))) (T:Array Value) (hT:T.size = 22) (t3:T[3]? = some (.int .i64 0)) (to:T[10]? = some (.slice (some ⟨C,0,none⟩) 4 4)) (tl:T[11]? = some (.int .i64 4)) (tk:T[12]? = some (.int .i64 0)) :
 zpi.wp Tryz.prog (Qc (zqh f) W0) ⟨T,[]⟩ W:=by
 have h4:=(yy hok).1;simp only [zpi,Tryz.f16];replace hT:=exT hT;iterate 22 (obtain ⟨_,hT⟩:=hT)
 dsimp only [Ex] at hT;subst hT;simp only [List.getElem?_toArray,List.getElem?_cons_succ,List.getElem?_cons_zero,Option.some.injEq] at t3 to tl tk;subst t3 to tl tk;replace hc:=Lib.hid hc;go_wp2
 go_loopw [3,12] (fun a3 i wr=>∃ k:Nat,k ≤ 4∧i = .int .i64 k∧a3 = .int .i64 (wSum (f.take k))∧Below W.heap.size W wr) (fun _ i _=>4 - (intOf i).toNat)
 case atStart=>exact ⟨0,by omega,rfl,rfl,Below.refl _ _⟩
 case round =>
  obtain ⟨k,hk,rfl,rfl,hB⟩:=hrel;by_cases hlt:k < 4
  . obtain ⟨b,hb⟩:=zc (l:=f) (k:=k) (by omega);have hbl:=((yy hok).2 b (List.mem_of_getElem? hb)).1;have hbw:=((yy hok).2 b (List.mem_of_getElem? hb)).2;obtain ⟨c0,c1⟩:=hc.out k b hb;replace c0:=(hB.cell (p:=⟨C,k * 2,none⟩) (zd c0)).trans c0;replace c1:=(hB.cell (p:=⟨C,k * 2 + 1,none⟩) (zd c1)).trans c1;have hkl:(k:Int) < 4:=by omega
    have hk1:IntKind.i64.wrap ((k:Int) + 1) = (k:Int) + 1:=IntWalk.i64_in _ (by omega);have htk:f.take (k + 1) = f.take k ++ [b]:=by rw [List.take_add_one,hb];rfl
    have hx3:IntKind.i64.wrap (wSum (f.take k) + b.worn) = wSum (f.take k) + b.worn:=by have:=zjc hok (k:=k);rw [IntKind.wrap_i64];omega
    have E3:=Lib.hid (show wSum (f.take (k + 1)) = wSum (f.take k) + b.worn by rw [htk];unfold wSum;rw [List.foldl_append];rfl);clear htk hb h4;go_wp2;go_roundw
    (case rel=>exact ⟨k + 1,by omega,by go_num,by rw [E3.out],bw⟩)
    (case measure=>simp [intOf];omega)
  obtain rfl:k = 4:=by omega
  rw [List.take_of_length_le (show f.length ≤ 4 by omega)];go_wp2;exact Qc.mk' rfl ⟨_,rfl,rfl,rfl⟩ (Below.bel h0 hB)
end
section
open Go.Conc Go.ConcN Go.ConcR.Gen Go.RowKit
section
variable {SB A:Nat->Prop} {w0 w:World} {Post:Value->World->Prop}
theorem Co.weC {Gd:Nat->Option (Nat × Nat)} {ad:Option Addr} {f:List Bk} {c:Nat} {cc:Frame} {rest:List Frame} (co:Co (good Gd) SB A w0 w) (hv:VIn (good Gd) A (.slice ad 4 c)) (hf:Fl (cutW (good Gd) w) ad f) (h4:f.length = 4) (hp4:∀ b ∈ f,b.pages.length = 4)
 (next:∀ w' C W,w.heap.size ≤ C->Co (good Gd) (fun b=>SB b∨b = W) (fun b=>A b∨b = C) w0 w'->Bel w w'->w'.heap[C]? = some (.cells (Xo f).toArray 58) ->
  Fine Tryz.prog Post (fun b=>SB b∨b = W) (G (cc.finish (.slice (some ⟨C,0,none⟩) 4 4)) rest) w') :
 Fine Tryz.prog Post SB (G (Frame.enter Tryz.prog 30 #[.slice ad 4 c] .normal) (cc :: rest)) w:=by
 obtain ⟨hs,hf⟩:=hf;have hne:f ≠ []:=by rintro rfl;simp at h4
 have hpn:∀ b ∈ f,b.pages ≠ []:=fun b hb e=>by have:=hp4 b hb;rw [e] at this;simp at this
 have hin:=zmk co.hin hv hf hne hpn;obtain ⟨bk,off,rfl⟩:=hf.addr hne;have hfR:Bks w (some ⟨bk,off,none⟩) f hs:=⟨hf.len,fun hn=>let ⟨b,o,e,hc⟩:=hf.row hn;⟨b,o,e,fun j u hj=>⟨Zs (hc j u hj).1,by rw [← qy (G:=good Gd)];exact (hc j u hj).2⟩⟩,
  fun i b x hb hx=>⟨fun hn=>let ⟨b',o,e,hc⟩:=(hf.pg i b x hb hx).1 hn;⟨b',o,e,fun j u hj=>⟨Zs (hc j u hj).1,by rw [← qy (G:=good Gd)];exact (hc j u hj).2⟩⟩,(hf.pg i b x hb hx).2⟩⟩
 refine Fine.wearEach hfR h4 hp4 (fun b hb=>co.shun hb) (fun b hb h=>(co.away b h).1 (hin b hb)) fun w' h1 h2 h3 h5 h6=>?_;have hb:Bel w w':=⟨h5,h6,by omega,h2⟩;have co':=co.keep hb;have hdC:(cutW (good Gd) w').heap[w.heap.size + 1]? = some (.cells (Xo f).toArray 58):=by
  rw [za9]
  . exact h3
  intro c l hi e x;have:=co.dead c l hi e;omega
 refine next w' (w.heap.size + 1) (w.heap.size + 3) (by omega) ⟨⟨fun r hr=>?_,co'.hin.there⟩,fun b hb'=>?_,co'.bel⟩ hb h3
 . rcases hr with hr | rfl
   . obtain ⟨x,hx,hxin⟩:=co'.hin.obj r hr;exact ⟨x,hx,hxin.mono fun _ z=>.inl z⟩
   refine ⟨_,hdC, .all fun v hv=>?_⟩;simp only [Xo,List.mem_toArray,List.mem_flatMap,List.mem_cons,List.not_mem_nil,or_false] at hv;obtain ⟨b,_,rfl | rfl⟩:=hv <;> exact .int _ _
 rw [zy];rcases hb' with hb' | rfl
 . have:=co'.away b hb';have h9:=co.shun hb';rw [zy] at this;exact ⟨fun x=>x.elim this.1 (fun e=>by omega),this.2⟩
 exact ⟨fun x=>x.elim (fun x=>by have:=co.lt x;omega) (fun e=>by omega),by omega⟩
end
section
variable {Gd:Nat->Option (Nat × Nat)} {SB A:Nat->Prop} {w0 w1 w:World} {C:Nat} {f:List Bk} {Post:Value->World->Prop} {cc:Frame} {rest:List Frame}
theorem Co.wAll {ad:Option Addr} {c:Nat} (co:Co (good Gd) SB A w0 w) (hv:VIn (good Gd) A (.slice ad f.length c)) (hf:Fl (cutW (good Gd) w) ad f)
 (next:∀ w' SB' A',(∀ b,A b->A' b)->Co (good Gd) SB' A' w0 w'->Bel w w'->Fine Tryz.prog Post SB' (G (cc.finish (.int .i64 (if ze f then wSum f else -1))) rest) w') :
 Fine Tryz.prog Post SB (G (Frame.enter Tryz.prog 16 #[.slice ad f.length c] .normal) (cc :: rest)) w:=by
 rw [enter_at _ Tryz.func16 rfl]
 walk_nrmf Tryz.f16
 refine xf rfl (fun w=>stepG_seq) ?_;refine xf rfl (fun w=>stepG_region) ?_;simp only [sz,Nat.reduceAdd,Nat.zero_add,List.range,List.range.loop];refine fo ?_;walk_nrm;refine xf rfl (fun w=>stepG_region_end) ?_;refine xf rfl (fun w=>stepG_seq) ?_;refine xf rfl (fun w=>stepG_seq) ?_;refine xf rfl (fun w=>stepG_region) ?_;simp only [sz,Nat.reduceAdd,Nat.zero_add,List.range,List.range.loop];refine fo ?_;walk_nrm;refine K6 rfl rfl (by k_ne) rfl Tryz.func29 rfl rfl ?_;walk_nrm;refine co.call (R:=fun v _=>v = .bool (ze f)) (fun _ _ _ _ h=>h) (by kernel_rfl) (fun v hx=>by simp at hx;subst hx;exact hv) (fun T d=>(xh f ad c (tp0 (cutW (good Gd) w) T d) (hf.bel (Bel.tp _ T d))).mono fun e w' ⟨h1,h2⟩=>⟨_,h1,rfl,h2⟩) ?_;intro A1 v w1 hA co1 hb1 _ hv1;subst hv1;rw [Frame.finish_at];walk_nrm;refine fo ?_;walk_nrm;refine xf rfl (fun w=>stepG_region_end) ?_;cases hok:ze f with
 | false =>
   refine xf rfl (fun w=>stepG_cond (t:=true) (by simp [Act.eval,hok])) ?_;simp only [if_true,Bool.false_eq_true,if_false];refine xf rfl (fun w=>stepG_seq) ?_;refine xf rfl (fun w=>stepG_region) ?_;simp only [sz,Nat.reduceAdd,Nat.zero_add,List.range,List.range.loop];refine fo ?_;walk_nrm;refine xf rfl (fun w=>stepG_region_end) ?_;refine xf rfl (fun w=>stepG_ret') ?_;refine zmn rfl rfl Tryz.func16 (fun w=>⟨?_, ?_⟩) (v:=.int .i64 (-1)) ?_
   . simp [results,Tryz.f16,go_sem]
   . rw [show (results Tryz.f16 _).events Tryz.prog w #[] = #[] by simp [results,Tryz.f16,go_sem]];rfl
   have:=next w1 SB A1 hA co1 hb1;rw [hok] at this
   simpa using this
 | true =>
   have h4:=(yy hok).1;rw [h4] at hv ⊢;refine xf rfl (fun w=>stepG_cond (t:=false) (by simp [Act.eval,hok])) ?_;simp only [if_true,Bool.false_eq_true,if_false];refine xf rfl (fun w=>stepG_skip) ?_;refine xf rfl (fun w=>stepG_seq) ?_;refine xf rfl (fun w=>stepG_region) ?_;simp only [sz,Nat.reduceAdd,Nat.zero_add,List.range,List.range.loop];refine fo ?_;walk_nrm;refine xf rfl (fun w=>stepG_region_end) ?_;refine xf rfl (fun w=>stepG_seq) ?_;refine xf rfl (fun w=>stepG_seq) ?_;refine xf rfl (fun w=>stepG_region) ?_;simp only [sz,Nat.reduceAdd,Nat.zero_add,List.range,List.range.loop];refine fo ?_;walk_nrm;refine K6 rfl rfl (by k_ne) rfl Tryz.func30 rfl rfl ?_;walk_nrm;refine Co.weC co1 (hv.mono hA) (hf.bel hb1.cut) h4 (fun b hb=>((yy hok).2 b hb).1) ?_;intro w2 C W hC co2 hb2 hcell;rw [Frame.finish_at];walk_nrm;refine fo ?_;walk_nrm;refine fo ?_;walk_nrm;refine xf rfl (fun w=>stepG_region_end) ?_;have hz:(good Gd).lo C = 0:=co1.hin.zero C (by rw [zy];exact hC);replace hv:=(hv.mono hA).mono (fun b hb=>Or.inl (b:=b = C) hb);have hcl:∀ (T:Nat->Question->Nat) (d:Nat) (k:Nat) (b:Bk),f[k]? = some b->(tp0 (cutW (good Gd) w2) T d).cell? ⟨C,k * 2,none⟩ = some (.int .i64 b.worn)∧(tp0 (cutW (good Gd) w2) T d).cell? ⟨C,k * 2 + 1,none⟩ = some (.int .i64 (tornN b.pages:Int)):=fun T d k b hb=>by
    have hcut:(cutW (good Gd) w2).heap[C]? = some (.cells (Xo f).toArray 58):=by
     rw [za9]
     . exact hcell
     intro c l hi e x;have:=co1.dead c l hi e;omega
    have g:=fun j hj=>yn (fun b:Bk=>[Value.int .i64 b.worn, .int .i64 (tornN b.pages:Int)]) 2 (fun _=>rfl) f k j b hb hj;have g0:=g 0 (by omega);have g1:=g 1 (by omega);have hh:(tp0 (cutW (good Gd) w2) T d).heap[C]? = some (.cells (Xo f).toArray 58):=hcut;constructor
    . simp only [World.cell?,hh,Xo];simpa using g0
    simp only [World.cell?,hh,Xo];simpa using g1
   refine Co.wp (zqh f) co2 rfl (by kernel_rfl) (fun _=>rfl) (AllV.arr ?vin) rfl (fun a w T d h=>h) (fun T d'=>?lone) ?_
   case vin=>repeat' (first | exact AllV.nil | (refine AllV.cons (by first | exact .int _ _ | exact .bool _ | exact VIn.undef | exact (VIn.slice (a:=⟨C,0,none⟩) _ _ ⟨.inr rfl,by rw [hz];exact Nat.zero_le _⟩) | exact hv) ?_))
   case lone =>
    have hp:=fun Tx=>zq5 (Bel.tp (cutW (good Gd) w2) T d') hok (hcl T d') Tx;simp only [zpi,Tryz.f16] at hp;exact hp _ rfl rfl rfl rfl rfl
   clear co2 hcl;rintro A3 _ w3 hA3 co3 hb3 _ ⟨T,rfl,hT,t3⟩;replace hT:=exT hT;iterate 22 (obtain ⟨_,hT⟩:=hT)
   dsimp only [Ex] at hT;subst hT;simp only [List.getElem?_toArray,List.getElem?_cons_succ,List.getElem?_cons_zero,Option.some.injEq] at t3;subst t3;refine xf rfl (fun w=>stepG_seq) ?_;refine xf rfl (fun w=>stepG_region) ?_;simp only [sz,Nat.reduceAdd,Nat.zero_add,List.range,List.range.loop];refine fo ?_;walk_nrm;refine fo ?_;walk_nrm;refine xf rfl (fun w=>stepG_region_end) ?_;refine xf rfl (fun w=>stepG_ret') ?_;refine zmn rfl rfl Tryz.func16 (fun w=>⟨?_, ?_⟩) (v:=.int .i64 (wSum f)) ?_
   . simp [results,Tryz.f16,go_sem]
   . rw [show (results Tryz.f16 _).events Tryz.prog w #[] = #[] by simp [results,Tryz.f16,go_sem]];rfl
   have:=next w3 _ A3 (fun b hb=>hA3 b (.inl (hA b hb))) co3 (hb1.trans (hb2.trans hb3));rw [hok] at this
   simpa using this
end
end
section
open Go.RowKit Go.Maps
end
section
open Go.RowKit Go.Maps
theorem zi8 (f:List Bk) (i:Nat) (r:Rc) (t:Bool):(x8 f i r t).1.length = f.length:=by
 unfold x8;split <;> simp
theorem zar (f:List Bk) (block:Int) (r:Rc) (torn:Bool) (A:Option Addr) (n c:Nat) (w:World) (hn:n = f.length) (hF:Fl w A f) :
 Calls Tryz.prog 80 #[.slice A n c, .int .i64 block, .agg #[.int .i64 r.kind, .int .i64 r.seq, .int .i64 r.addr, .int .i64 r.val], .bool torn] w (zi5 (k8 f block r torn) w):=by
 subst hn;have hF0:=hF.alloc (.cells #[.int .i64 r.kind, .int .i64 r.seq, .int .i64 r.addr, .int .i64 r.val] 64);have hB0:Below w.heap.size w (w.alloc (.cells #[.int .i64 r.kind, .int .i64 r.seq, .int .i64 r.addr, .int .i64 r.val] 64)):=bw;have hq:=Row.new w #[.int .i64 r.kind, .int .i64 r.seq, .int .i64 r.addr, .int .i64 r.val] 64;obtain ⟨r0,_⟩:=hq.at0 (j:=0) rfl;obtain ⟨r1,_⟩:=hq.at0 (j:=1) rfl;obtain ⟨r2,_⟩:=hq.at0 (j:=2) rfl;obtain ⟨r3,_⟩:=hq.at0 (j:=3) rfl;have hs0:w.heap.size < (w.alloc (.cells #[.int .i64 r.kind, .int .i64 r.seq, .int .i64 r.addr, .int .i64 r.val] 64)).heap.size:=by simp
 have hfin:Hid (k8 f block r torn = if ze f = false∨j9 block = false∨xj r = false then ([],false) else x8 f block.toNat r torn):=rfl;clear hq
 go_enter Tryz.func80,Tryz.ntmps80
 go_wp2_with fail
 refine (xh f A c _ hF0).mono ?_;rintro e w1 ⟨rfl,hb⟩;replace r0:=(hb.cell (p:=⟨w.heap.size,0,none⟩) hs0).trans r0;replace r1:=(hb.cell (p:=⟨w.heap.size,1,none⟩) hs0).trans r1;replace r2:=(hb.cell (p:=⟨w.heap.size,2,none⟩) hs0).trans r2;replace r3:=(hb.cell (p:=⟨w.heap.size,3,none⟩) hs0).trans r3;have hF1:=hF0.below hb nl;have hs1:w.heap.size < w1.heap.size:=Nat.lt_of_lt_of_le hs0 hb.size;have hB1:Below w.heap.size w w1:=hB0.trans (hb.mono (by simp));clear hb hB0 hF0 hs0;by_cases hok:ze f = true
 . rw [hok];have hl:=zh hok;have hsh:=Lib.hid (zo hok);have HL:=Lib.hid hl;go_wp2_with fail
   refine (yf _ _).mono ?_;rintro e w2 ⟨rfl,rfl⟩;by_cases hbo:j9 block = true
   . rw [hbo];have hb04:0 ≤ block∧block < 4:=by unfold j9 at hbo;simpa using hbo
     obtain ⟨i,rfl⟩:=Int.eq_ofNat_of_zero_le hb04.1;have hi4:i < 4:=by omega
     obtain ⟨B,hB⟩:=zc (l:=f) (k:=i) (by omega);have hB4:=(hsh.out B (List.mem_of_getElem? hB)).1;have hBget:f.getD i zbk = B:=by rw [List.getD_eq_getElem?_getD,hB];rfl
     have hcl:=X9 hB4;have hi4':(i:Int) < 4:=by omega
     go_wp2_with fail
     refine (Ke r _).mono ?_;rintro e w2 ⟨rfl,hb⟩;replace r0:=(hb.cell (p:=⟨w.heap.size,0,none⟩) hs1).trans r0;replace r1:=(hb.cell (p:=⟨w.heap.size,1,none⟩) hs1).trans r1;replace r2:=(hb.cell (p:=⟨w.heap.size,2,none⟩) hs1).trans r2;replace r3:=(hb.cell (p:=⟨w.heap.size,3,none⟩) hs1).trans r3;have hF2:=hF1.below hb nl;have hs2:w.heap.size < w2.heap.size:=Nat.lt_of_lt_of_le hs1 hb.size;have hB2:=hB1.trans (hb.mono (by omega));clear hb hF1 hB1;by_cases hro:xj r = true
     . rw [hro];have hfin2:Hid (k8 f i r torn = if clean B = 0∨qo f r.seq = true then (f,false) else (f.set i { B with pages:=B.pages.set (4 - clean B) (if torn then ⟨2,rc0⟩ else ⟨1,r⟩) },true)):=by
        rw [Hid,hfin.out,if_neg (by rw [hok,hbo,hro];simp),Int.toNat_natCast];unfold x8;rw [hBget]
       have HB:=Lib.hid hB;have HB4:=Lib.hid hB4;clear hfin hok hbo hro hB hB4 hBget hl hb04;go_wp2_with fail
       refine (Zu A c f _ HL.out (fun b hb=>(hsh.out b hb).1) hF2).mono ?_;rintro e w3 ⟨g,rfl,⟨hs,hBk,hApt⟩,hb⟩;replace r0:=(hb.cell (p:=⟨w.heap.size,0,none⟩) hs2).trans r0;replace r1:=(hb.cell (p:=⟨w.heap.size,1,none⟩) hs2).trans r1;replace r2:=(hb.cell (p:=⟨w.heap.size,2,none⟩) hs2).trans r2;replace r3:=(hb.cell (p:=⟨w.heap.size,3,none⟩) hs2).trans r3;have hs3:w.heap.size < w3.heap.size:=Nat.lt_of_lt_of_le hs2 hb.size;have hB3:=hB2.trans (hb.mono (by omega));have hlo:w.heap.size ≤ w2.heap.size:=by omega
       have hhi:=hb.size;obtain ⟨⟨Z,cz⟩,hx,z0,z1,z2,z3,hR,_⟩:=hBk.at_ HB.out;dsimp only at z0 hR;rw [Nat.zero_add] at z0 z1 z2 z3;rw [HB4.out] at z0;have HX:=Lib.hid hx;have hpl:B.pages.length < 1000000000000:=by rw [HB4.out];omega
       clear hb hF2 hB2 hx;go_wp2_with fail
       refine (jh B Z 4 cz _ HB4.out.symm hpl hR).mono ?_;rintro e w4 ⟨rfl,hb⟩;replace r0:=(hb.cell (p:=⟨w.heap.size,0,none⟩) hs3).trans r0;replace r1:=(hb.cell (p:=⟨w.heap.size,1,none⟩) hs3).trans r1;replace r2:=(hb.cell (p:=⟨w.heap.size,2,none⟩) hs3).trans r2;replace r3:=(hb.cell (p:=⟨w.heap.size,3,none⟩) hs3).trans r3;have hs4:w.heap.size < w4.heap.size:=Nat.lt_of_lt_of_le hs3 hb.size;have hB4':=hB3.trans (hb.mono (by omega));have hBk4:=hBk.below hb nl;have hhi4:=hb.size;clear hb hBk hB3 z0 z1 z2 z3 hR;generalize clean B = n at *;by_cases h0:n = 0
       . subst h0;have h3:Hid (k8 f i r torn = (f,false)):=by rw [Hid,hfin2.out,if_pos (.inl rfl)]
         go_wp2
         go_ret2
         rw [h3.out];exact ⟨some ⟨g,0,none⟩,4,Q9 HL.out.symm,by rw [HL.out];exact Nat.le_refl _,⟨hs,hBk4,hApt.mono hlo hhi4⟩,hB4'⟩
       have hn0:((n:Int) == 0) = false:=by rw [beq_eq_false_iff_ne];omega
       go_wp2_with fail
       refine (zfj f r.seq _ 4 4 _ HL.out.symm (by rw [HL.out];omega) (fun b hb=>by rw [(hsh.out b hb).1];omega) ⟨hs,hBk4⟩).mono ?_;rintro e w5 ⟨rfl,hb⟩;replace r0:=(hb.cell (p:=⟨w.heap.size,0,none⟩) hs4).trans r0;replace r1:=(hb.cell (p:=⟨w.heap.size,1,none⟩) hs4).trans r1;replace r2:=(hb.cell (p:=⟨w.heap.size,2,none⟩) hs4).trans r2;replace r3:=(hb.cell (p:=⟨w.heap.size,3,none⟩) hs4).trans r3;have hs5:w.heap.size < w5.heap.size:=Nat.lt_of_lt_of_le hs4 hb.size;have hB5:=hB4'.trans (hb.mono (by omega));have hBk5:=hBk4.below hb nl;have hhi5:=hb.size;clear hb hBk4 hB4';by_cases hsq:qo f r.seq = true
       . have h3:Hid (k8 f i r torn = (f,false)):=by rw [Hid,hfin2.out,if_pos (.inr hsq)]
         rw [hsq];go_wp2
         go_ret2
         rw [h3.out];exact ⟨some ⟨g,0,none⟩,4,Q9 HL.out.symm,by rw [HL.out];exact Nat.le_refl _,⟨hs,hBk5,hApt.mono hlo (by omega)⟩,hB5⟩
       have h3:Hid (k8 f i r torn = (f.set i { B with pages:=B.pages.set (4 - n) (if torn then ⟨2,rc0⟩ else ⟨1,r⟩) },true)):=by
        rw [Hid,hfin2.out,if_neg (by intro h;rcases h with h | h;exact h0 h;exact hsq h)]
       rw [show qo f r.seq = false by simpa using hsq];obtain ⟨j,hj⟩:∃ j,j + n = 4:=⟨4 - n,by omega⟩;have hj4:4 - n = j:=by omega
       have e1:IntKind.i64.wrap ((4:Int) - n) = (j:Int):=by rw [show (4:Int) - n = j by omega];exact IntWalk.i64_in _ (by omega)
       have e2:(4:Int) - n = (j:Int):=by omega
       rw [hj4] at h3;clear hj4 hfin2 hsq;obtain ⟨x,hx2,y0,y1,_,_,hR1,_⟩:=hBk5.at_ HB.out;rw [HX.out] at hx2;cases hx2;dsimp only at y0 hR1;rw [HB4.out,Nat.zero_add] at y0;obtain ⟨p,hq⟩:=zc (l:=B.pages) (k:=j) (by rw [HB4.out];omega);obtain ⟨pb,po,rfl⟩:=hR1.addr (ky (by intro e;rw [e] at hq;simp at hq));obtain ⟨c0,c1,c2,c3,c4⟩:=hR1.pg hq;obtain ⟨f0,f1,f2,f3,f4⟩:=hR1.pgf hq;have hj1:(j:Int) < 4:=by omega
       have hpin:=hApt.in_ i _ pb HX.out (by rw [zf]);have HQ:=Lib.hid hq;have hpb:=zd c0;have hgl:=zd y0;have hel:∀ X:Bk,(f.set i X).length = 4:=fun X=>by rw [List.length_set];exact HL.out
       have HEL:=Lib.hid hel;clear hq hel;cases torn
       . have hWp:=yt hR1 HQ.out ⟨1,r⟩;have hBk6:=hBk5.setPage hApt HB.out HX.out (by rw [HB4.out];omega) hWp;have hB6:=hB5.trans (hWp.agr.below (B:=w.heap.size) (by omega) (fun k e=>by omega));have hss:=hWp.size;clear hWp hBk5 hB5;go_wp2
         go_region
         all_goals
          go_wp2
          go_ret2
          rw [h3.out];exact ⟨some ⟨g,0,none⟩,4,Q9 (HEL.out _).symm,by rw [HEL.out];exact Nat.le_refl _,⟨hs,(hBk6.alloc _).drew,hApt.mono hlo (by simp;omega)⟩,(hB6.alloc hB6.size _).drew⟩
       have hWp:=yt hR1 HQ.out ⟨2,rc0⟩;have hBk6:=hBk5.setPage hApt HB.out HX.out (by rw [HB4.out];omega) hWp;have hB6:=hB5.trans (hWp.agr.below (B:=w.heap.size) (by omega) (fun k e=>by omega));have hss:=hWp.size;simp only [rc0] at hBk6 hB6;clear hWp hBk5 hB5;go_wp2
       go_region
       all_goals
        go_wp2
        go_ret2
        rw [h3.out];exact ⟨some ⟨g,0,none⟩,4,Q9 (HEL.out _).symm,by rw [HEL.out];exact Nat.le_refl _,⟨hs,(hBk6.alloc _).drew,hApt.mono hlo (by simp;omega)⟩,(hB6.alloc hB6.size _).drew⟩
     have hro':xj r = false:=by simpa using hro
     have h3:Hid (k8 f i r torn = ([],false)):=by rw [Hid,hfin.out,if_pos (.inr (.inr hro'))]
     rw [hro'];go_wp2
     go_ret2
     rw [h3.out];exact ⟨none,0,rfl,Nat.le_refl _,zaf _ _ _,hB2⟩
   have hbo':j9 block = false:=by simpa using hbo
   have h3:Hid (k8 f block r torn = ([],false)):=by rw [Hid,hfin.out,if_pos (.inr (.inl hbo'))]
   rw [hbo'];go_wp2
   go_ret2
   rw [h3.out];exact ⟨none,0,rfl,Nat.le_refl _,zaf _ _ _,hB1⟩
 have hok':ze f = false:=by simpa using hok
 have h3:Hid (k8 f block r torn = ([],false)):=by rw [Hid,hfin.out,if_pos (.inl hok')]
 rw [hok'];go_wp2
 go_ret2
 rw [h3.out];exact ⟨none,0,rfl,Nat.le_refl _,zaf _ _ _,hB1⟩
end
section
open Go.Conc Go.ConcN Go.ConcR.Gen Go.RowKit
theorem Code.tp {w:World} {A:Option Addr} {bs:List Nat} {c:Nat} (h:Code w A bs c) (T:Nat->Question->Nat) (d:Nat):Code (tp0 w T d) A bs c:=⟨h.len,h.cap,h.byte,h.row⟩
end
section
end
section
theorem J3 {b:Bk} (hp:∀ p ∈ b.pages,zn p = true):(most b = 0∧xg b.pages = [])∨(0 < most b∧most b ∈ xg b.pages∧ku b ∈ xg b.pages∧0 < ku b∧ku b ≤ most b):=by
 cases hs:xg b.pages with
 | nil=>exact .inl ⟨zfe hp hs,rfl⟩
 | cons q r =>
   have hq:q ∈ xg b.pages:=by rw [hs];exact List.mem_cons_self ..
   have h1:=(Q8 hp hq).1;have h2:=q9 hp hq;have h0:0 < most b:=by omega
   rw [← hs];exact .inr ⟨h0,y8 hp h0,Za hp h0,Z2 hp h0⟩
theorem zez {b c:Bk} (hb:∀ p ∈ b.pages,zn p = true) (hc:∀ p ∈ c.pages,zn p = true) (h:xg c.pages = xg b.pages):most c = most b∧(0 < most b->ku c = ku b):=by
 rcases J3 hb with ⟨b1,b2⟩ | ⟨b1,b2,b3,b4,b5⟩ <;> rcases J3 hc with ⟨c1,c2⟩ | ⟨c1,c2,c3,c4,c5⟩
 . exact ⟨by omega,fun h=>by omega⟩
 . rw [h,b2] at c2;cases c2
 . rw [← h,c2] at b2;cases b2
 have m1:=q9 hb (h ▸ c2);have m2:=q9 hc (h.symm ▸ b2);have l1:=Kc hb (h ▸ c3);have l2:=Kc hc (h.symm ▸ b3);exact ⟨by omega,fun _=>by omega⟩
theorem zh4 {b c:Bk} (hb:∀ p ∈ b.pages,zn p = true) (hc:∀ p ∈ c.pages,zn p = true) {s:Int} (h:(xg c.pages).Perm ([s] ++ xg b.pages)) (hs:most b < s) :
 most c = s∧(0 < most b->ku c = ku b)∧(most b = 0->ku c = s):=by
 have hm:∀ q,q ∈ xg c.pages ↔ q = s∨q ∈ xg b.pages:=fun q=>by rw [h.mem_iff];simp
 have hsm:=(hm s).2 (.inl rfl);have h1:=q9 hc hsm;rcases J3 hc with ⟨c1,c2⟩ | ⟨c1,c2,c3,c4,c5⟩
 . rw [c2] at hsm;cases hsm
 have hcs:most c = s:=by
  rcases (hm _).1 c2 with e | e
  . exact e
  have:=q9 hb e;omega
 refine ⟨hcs,fun h0=>?_,fun h0=>?_⟩
 . have l1:=Za hb h0;have l2:=Kc hc ((hm _).2 (.inr l1));rcases (hm _).1 c3 with e | e
   . have:=Z2 hb h0;omega
   have:=Kc hb e;omega
 rcases (hm _).1 c3 with e | e
 . exact e
 have:=q9 hb e;have:=(Q8 hb e).1;omega
theorem zhs {b:Bk} (h4:b.pages.length = 4) (hc:clean b = 4):xg b.pages = []:=by
 have hall:∀ p ∈ b.pages,xw p = true:=by
  rw [← List.countP_eq_length];have:b.pages.countP xw = clean b:=rfl;omega
 unfold xg;rw [List.map_eq_nil_iff,List.filter_eq_nil_iff];intro p hp;have:=hall p hp;unfold xw at this;simp at this;simp [this]
theorem getElem?_set_cases {α:Type} {l:List α} {i j:Nat} {x y:α} (h:(l.set i x)[j]? = some y):(j = i∧y = x)∨(j ≠ i∧l[j]? = some y):=by
 by_cases hj:j = i
 . subst hj;have hl:=(List.getElem?_eq_some_iff.1 h).1;rw [List.getElem?_set_self (by simpa using hl)] at h;cases h;exact .inl ⟨rfl,rfl⟩
 rw [List.getElem?_set_ne (by omega)] at h;exact .inr ⟨hj,h⟩
def Sole (f:List Bk) (i:Nat):Prop:=∀ (j:Nat) (c:Bk),j ≠ i->f[j]? = some c->xm c = false
theorem Sole.set {f:List Bk} {i:Nat} (h:Sole f i) (b:Bk):Sole (f.set i b) i:=fun j c hj hc=>by
 rcases getElem?_set_cases hc with ⟨e,_⟩ | ⟨_,hc⟩
 . exact absurd e hj
 exact h j c hj hc
theorem zka {b:Bk} (h4:b.pages.length = 4) (hc:clean b ≠ 0):xm b = true∨clean b = 4:=by
 have:=X9 h4;by_cases h:clean b = 4
 . exact .inr h
 left;unfold xm;simp;omega
theorem zpj {f:List Bk} (h:ze f = true) (hO:Ord f) {i:Nat} {b:Bk} (hb:f[i]? = some b) {r:Rc} (hr:xj r = true) (torn:Bool) (hc:clean b ≠ 0) (hS:Sole f i) (hs:∀ c ∈ f,most c < r.seq) :
 Ord (f.set i (j5 b r torn)):=by
 have hbm:=List.mem_of_getElem? hb;obtain ⟨l4,_,_,hbp⟩:=xi h hbm;obtain ⟨_,kp,k3,k4,k5⟩:=Ks h hbm hr torn hc;have hbs:=hs b hbm;have hbn:=zha hbp
 -- what the new block spans
 have hx:(most (j5 b r torn) = most b∧(0 < most b->ku (j5 b r torn) = ku b))∨(most (j5 b r torn) = r.seq∧(0 < most b->ku (j5 b r torn) = ku b)∧(most b = 0->ku (j5 b r torn) = r.seq)):=by
  cases torn
  . exact .inr (zh4 hbp kp (k5 rfl) hbs)
  exact .inl (zez hbp kp (k4 rfl))
 -- if it held a record it was begun: no other has a greater number
 have hbeg:0 < most b->∀ (j:Nat) (c:Bk),j ≠ i->f[j]? = some c->most c ≤ most b:=fun h0 j c hj hcj=>by
  rcases zka l4 hc with hp | h4
  . exact (hO.begun i j b c (Ne.symm hj) hb hcj hp).2 h0
  have:=zfe hbp (zhs l4 h4);omega
 have key:∀ (j:Nat) (c:Bk),j ≠ i->f[j]? = some c->0 < most (j5 b r torn)->0 < most c->¬ (ku (j5 b r torn) < most c):=fun j c hj hcj h1 h2 hlt=>by
  have hcm:=List.mem_of_getElem? hcj;have hcp:=(xi h hcm).2.2.2;have hcs:=hs c hcm;by_cases h0:0 < most b
  . have hle:=hbeg h0 j c hj hcj;have e1:ku (j5 b r torn) = ku b:=by
     rcases hx with hx | hx
     . exact hx.2 h0
     exact hx.2.1 h0
    have e2:most c ≠ most b:=fun e=>yv ((jt f).1 h).2.2 hj hcj hb (y8 hcp h2) (e ▸ y8 hbp h0);have:=Z2 hcp h2;exact hO.apart i j b c (Ne.symm hj) hb hcj h0 h2 ⟨by omega,by omega⟩
  rcases hx with hx | hx
  . omega
  have:=hx.2.2 (by omega);omega
 refine ⟨fun i' j a c hij ha hcj p1 p2 p3=>?_,fun i' j a c hij ha hcj hp=>?_⟩
 . rcases getElem?_set_cases ha with ⟨rfl,rfl⟩ | ⟨hi,ha'⟩
   . rcases getElem?_set_cases hcj with ⟨rfl,_⟩ | ⟨hj,hcj⟩
     . exact hij rfl
     exact key j c hj hcj p1 p2 p3.1
   rcases getElem?_set_cases hcj with ⟨rfl,rfl⟩ | ⟨hj,hcj⟩
   . exact key i' a hi ha' p2 p1 p3.2
   exact hO.apart i' j a c hij ha' hcj p1 p2 p3
 rcases getElem?_set_cases ha with ⟨rfl,rfl⟩ | ⟨hi,ha'⟩
 . rcases getElem?_set_cases hcj with ⟨rfl,_⟩ | ⟨hj,hcj⟩
   . exact absurd rfl hij
   refine ⟨hS j c hj hcj,fun h0=>?_⟩;have hcs:=hs c (List.mem_of_getElem? hcj);rcases hx with hx | hx
   . have:=hbeg (by omega) j c hj hcj;omega
   omega
 rw [hS i' a hi ha'] at hp;cases hp
theorem zkv {f:List Bk} {c:Bk} (h:c ∈ f):most c < next f:=by
 have:=zak (n:=0) h;unfold next qi;omega
theorem zli {f:List Bk} (h:ze f = true) (hO:Ord f) (ho:(Jh f).2 = true):∃ (m:Nat) (b:Bk),Jh f = ((m:Int),true)∧f[m]? = some b∧clean b ≠ 0∧Sole f m:=by
 obtain ⟨m,b,h1,h2,h3⟩:=zlh ho;refine ⟨m,b,Prod.ext h1 ho,h2,by omega,fun j c hj hc=>?_⟩;by_cases hp:xm c = true
 . exfalso;unfold Jh at h1;cases hg:yh 0 f with
   | some k =>
     obtain ⟨n,d,e1,e2,e3⟩:=Kv hg;rw [hg] at h1;have:n = m:=by dsimp only at h1;omega
     subst this;have:=(hO.begun j n c d hj hc e2 hp).1;rw [this] at e3;cases e3
   | none =>
     have:=Kw hg c (List.mem_of_getElem? hc);rw [hp] at this;cases this
 simpa using hp
theorem zbs (torn:Bool) (n:Int):most ⟨List.replicate 4 (if torn then ⟨2,rc0⟩ else pg0),n⟩ = 0∧xm ⟨List.replicate 4 (if torn then ⟨2,rc0⟩ else pg0),n⟩ = false:=by
 cases torn
 . exact ⟨rfl,rfl⟩
 exact ⟨rfl,rfl⟩
theorem znt {f:List Bk} (hO:Ord f) (hp:∀ b ∈ f,0 ≤ most b) (i:Nat) (torn:Bool):Ord (wipe f i torn):=by
 obtain ⟨z1,z2⟩:=zbs torn ((f.getD i zbk).worn + 1);unfold wipe;refine ⟨fun i' j a c hij ha hcj p1 p2 p3=>?_,fun i' j a c hij ha hcj hq=>?_⟩
 . rcases getElem?_set_cases ha with ⟨rfl,rfl⟩ | ⟨hi,ha'⟩
   . omega
   rcases getElem?_set_cases hcj with ⟨rfl,rfl⟩ | ⟨hj,hcj⟩
   . omega
   exact hO.apart i' j a c hij ha' hcj p1 p2 p3
 rcases getElem?_set_cases ha with ⟨rfl,rfl⟩ | ⟨hi,ha'⟩
 . rw [z2] at hq;cases hq
 rcases getElem?_set_cases hcj with ⟨rfl,rfl⟩ | ⟨hj,hcj⟩
 . exact ⟨z2,fun _=>by have:=hp a (List.mem_of_getElem? ha');omega⟩
 exact hO.begun i' j a c hij ha' hcj hq
theorem zdy {ss:List Span}:∀ (r:List Span) (i old:Nat),ss.drop i = r->old < ss.length->(∀ (k:Nat) (s:Span),k < i->ss[k]? = some s->(ss.getD old (0,0)).2 ≤ s.2) ->
 ∀ (k:Nat) (s:Span),ss[k]? = some s->(ss.getD (hiGo ss i old r) (0,0)).2 ≤ s.2
 | [], i, old, hd, ho, h, k, s, hk => by
   have:ss.length ≤ i:=by
    have:=congrArg List.length hd;simp at this;omega
   exact h k s (by have:=(List.getElem?_eq_some_iff.1 hk).1;omega) hk
 | a :: r, i, old, hd, ho, h, k, s, hk => by
   have ha:ss[i]? = some a:=by
    have:(ss.drop i)[0]? = some a:=by rw [hd];rfl
    simpa using this
   have hd':ss.drop (i + 1) = r:=by
    have:(ss.drop i).drop 1 = r:=by rw [hd];rfl
    simpa [List.drop_drop,Nat.add_comm] using this
   have hga:ss.getD i (0,0) = a:=by rw [List.getD_eq_getElem?_getD,ha];rfl
   unfold hiGo;by_cases hc:a.2 < (ss.getD old (0,0)).2
   . rw [if_pos hc];refine zdy r (i + 1) i hd' (List.getElem?_eq_some_iff.1 ha).1 (fun k s hk1 hks=>?_) k s hk;rw [hga];by_cases hki:k = i
     . subst hki;rw [ha] at hks;cases hks;exact Int.le_refl _
     have:=h k s (by omega) hks;omega
   rw [if_neg hc];refine zdy r (i + 1) old hd' ho (fun k s hk1 hks=>?_) k s hk;by_cases hki:k = i
   . subst hki;rw [ha] at hks;cases hks;omega
   exact h k s (by omega) hks
theorem zhp {f:List Bk} (h:ze f = true) {m:Nat} (hm:Xg f = m) {b:Bk} (hb:f[m]? = some b):∀ c ∈ f,most b ≤ most c:=by
 have hl:=zh h;unfold Xg at hm;rw [if_pos h,zgx h] at hm;have hm':hiGo (f.map spn) 0 0 (f.map spn) = m:=by omega
 intro c hc;obtain ⟨k,hk⟩:=List.mem_iff_getElem?.1 hc;have:=zdy (ss:=f.map spn) (f.map spn) 0 0 rfl (by simp;omega) (fun k s hk=>by omega) k (spn c) (by rw [List.getElem?_map,hk];rfl);rw [hm',List.getD_eq_getElem?_getD,List.getElem?_map,hb] at this;exact this
end
section
def Wr (b:Bk) (r:Rc):Prop:=∃ p ∈ b.pages,p.state = 1∧p.rc = r
def Has (f:List Bk) (r:Rc):Prop:=∃ b ∈ f,Wr b r
theorem Jc {b:Bk} {r:Rc} (h:Wr b r):r.seq ∈ xg b.pages:=by
 obtain ⟨p,hp,h1,rfl⟩:=h;exact Ji.2 ⟨p,hp,h1,rfl⟩
theorem zo0 {f:List Bk} (h:ze f = true) {r:Rc} (hr:Has f r):xj r = true:=by
 obtain ⟨b,hb,p,hp,h1,rfl⟩:=hr;exact xk ((xi h hb).2.2.2 p hp) h1
theorem zhi {f:List Bk} (h:ze f = true) {r:Rc} (hr:Has f r):1 ≤ r.seq:=by
 have:=xx (zo0 h hr);omega
theorem zam (a:Int):∀ (ps:List Pg) (o:Rc),o.seq ≤ (xr a o ps).seq∧(∀ p ∈ ps,p.state = 1->p.rc.addr = a->p.rc.seq ≤ (xr a o ps).seq)∧(xr a o ps = o∨∃ p ∈ ps,p.state = 1∧p.rc.addr = a∧p.rc = xr a o ps)
 | [],o=>⟨Int.le_refl _,fun p hp=>(by cases hp), .inl rfl⟩
 | p :: ps, o => by
   obtain ⟨i1,i2,i3⟩:=zam a ps (zz a o p);have he:xr a o (p :: ps) = xr a (zz a o p) ps:=rfl;rw [he];have hs:zz a o p = o∨(p.state = 1∧p.rc.addr = a∧o.seq < p.rc.seq∧zz a o p = p.rc):=by
    unfold zz;split
    . rename_i h;exact .inr ⟨h.1,h.2.1,h.2.2,rfl⟩
    exact .inl rfl
   have hle:o.seq ≤ (zz a o p).seq:=by
    rcases hs with hs | ⟨_,_,h3,hs⟩
    . rw [hs];exact Int.le_refl _
    rw [hs];omega
   refine ⟨by omega,fun q hq h1 h2=>?_, ?_⟩
   . rcases List.mem_cons.1 hq with rfl | hq
     . have:q.rc.seq ≤ (zz a o q).seq:=by
        unfold zz;split
        . exact Int.le_refl _
        rename_i hn;have:¬ o.seq < q.rc.seq:=fun e=>hn ⟨h1,h2,e⟩;omega
       omega
     exact i2 q hq h1 h2
   rcases i3 with i3 | ⟨q,hq,q1,q2,q3⟩
   . rcases hs with hs | ⟨h1,h2,_,hs⟩
     . exact .inl (i3.trans hs)
     exact .inr ⟨p,List.mem_cons_self ..,h1,h2,(i3.trans hs).symm⟩
   exact .inr ⟨q,List.mem_cons_of_mem _ hq,q1,q2,q3⟩
theorem J9 (a:Int):∀ (f:List Bk) (o:Rc),o.seq ≤ (f.foldl (fun o b=>xr a o b.pages) o).seq∧(∀ r,Has f r->r.addr = a->r.seq ≤ (f.foldl (fun o b=>xr a o b.pages) o).seq) ∧
 (f.foldl (fun o b=>xr a o b.pages) o = o∨(Has f (f.foldl (fun o b=>xr a o b.pages) o)∧(f.foldl (fun o b=>xr a o b.pages) o).addr = a))
 | [],o=>⟨Int.le_refl _,fun r hr=>(by obtain ⟨b,hb,_⟩:=hr;cases hb), .inl rfl⟩
 | b :: f, o => by
   obtain ⟨p1,p2,p3⟩:=zam a b.pages o;obtain ⟨i1,i2,i3⟩:=J9 a f (xr a o b.pages);rw [List.foldl_cons];refine ⟨by omega,fun r hr h=>?_, ?_⟩
   . obtain ⟨c,hc,p,hp,q1,rfl⟩:=hr;rcases List.mem_cons.1 hc with rfl | hc
     . have:=p2 p hp q1 h;omega
     exact i2 p.rc ⟨c,hc,p,hp,q1,rfl⟩ h
   rcases i3 with i3 | ⟨⟨c,hc,hw⟩,i4⟩
   . rcases p3 with p3 | ⟨p,hp,q1,q2,q3⟩
     . exact .inl (i3.trans p3)
     refine .inr ⟨⟨b,List.mem_cons_self ..,p,hp,q1, ?_⟩, ?_⟩
     . rw [i3];exact q3
     rw [i3,← q3];exact q2
   exact .inr ⟨⟨c,List.mem_cons_of_mem _ hc,hw⟩,i4⟩
theorem Xa {f:List Bk} {r:Rc} (hr:Has f r):r.seq ≤ (last f r.addr).seq:=(J9 r.addr f rc0).2.1 r hr rfl
theorem Qo (f:List Bk) (a:Int):last f a = rc0∨(Has f (last f a)∧(last f a).addr = a):=(J9 a f rc0).2.2
theorem zdq {f:List Bk} {a:Int} (h:0 < (last f a).seq):Has f (last f a)∧(last f a).addr = a:=by
 rcases Qo f a with e | e
 . rw [e] at h;exact absurd h (by decide)
 exact e
theorem zfc {α β:Type} {g:α->β}:∀ {l:List α},(l.map g).Nodup->∀ {x y:α},x ∈ l->y ∈ l->g x = g y->x = y
 | [],_,x,y,hx,_,_=>by cases hx
 | a :: l, hn, x, y, hx, hy, he => by
   rw [List.map_cons,List.nodup_cons] at hn;rcases List.mem_cons.1 hx with ex | hx' <;> rcases List.mem_cons.1 hy with ey | hy'
   . rw [ex,ey]
   . rw [ex] at he;exact absurd (List.mem_map.2 ⟨y,hy',he.symm⟩) hn.1
   . rw [ey] at he;exact absurd (List.mem_map.2 ⟨x,hx',he⟩) hn.1
   exact zfc hn.2 hx' hy' he
theorem zb5:∀ {f:List Bk},(ki f).Nodup->∀ b ∈ f,(xg b.pages).Nodup
 | [],_,b,hb=>by cases hb
 | c :: f, hn, b, hb => by
   rw [show ki (c :: f) = xg c.pages ++ ki f from by simp [ki],List.nodup_append] at hn;rcases List.mem_cons.1 hb with rfl | hb
   . exact hn.1
   exact zb5 hn.2.1 b hb
theorem zor {f:List Bk} (h:ze f = true) {i j:Nat} {b c:Bk} {r q:Rc} (hb:f[i]? = some b) (hc:f[j]? = some c) (hr:Wr b r) (hq:Wr c q) (he:r.seq = q.seq):i = j∧r = q:=by
 have hn:=((jt f).1 h).2.2;have hij:i = j:=by
  by_cases hij:i = j
  . exact hij
  exact absurd (he ▸ Jc hq) (yv hn hij hb hc (Jc hr))
 subst hij;rw [hb,Option.some.injEq] at hc;subst hc;refine ⟨rfl, ?_⟩;obtain ⟨p,hp,p1,rfl⟩:=hr;obtain ⟨p',hp',p1',rfl⟩:=hq;have hnb:=zb5 hn b (List.mem_of_getElem? hb);unfold xg at hnb;have:=zfc hnb (List.mem_filter.2 ⟨hp,by simpa using p1⟩) (List.mem_filter.2 ⟨hp',by simpa using p1'⟩) he;rw [this]
theorem zpp {f:List Bk} (h:ze f = true) {r q:Rc} (hr:Has f r) (hq:Has f q) (he:r.seq = q.seq):r = q:=by
 obtain ⟨b,hb,hr⟩:=hr;obtain ⟨c,hc,hq⟩:=hq;obtain ⟨i,hi⟩:=List.mem_iff_getElem?.1 hb;obtain ⟨j,hj⟩:=List.mem_iff_getElem?.1 hc;exact (zor h hi hj hr hq he).2
theorem zhg {f:List Bk} (h:ze f = true) {r:Rc} (hr:Has f r) (hm:∀ q,Has f q->q.addr = r.addr->q.seq ≤ r.seq):last f r.addr = r:=by
 have h1:=Xa hr;have h2:=zhi h hr;obtain ⟨h3,h4⟩:=zdq (f:=f) (a:=r.addr) (by omega);have h5:=hm _ h3 h4;exact zpp h h3 hr (by omega)
theorem J7 {f:List Bk} {a:Int} (h:∀ r,Has f r->r.addr ≠ a):last f a = rc0:=by
 rcases Qo f a with e | e
 . exact e
 exact absurd e.2 (h _ e.1)
theorem zcd {f g:List Bk} (hf:ze f = true) (hg:ze g = true) {a:Int} (h:∀ r,r.addr = a->(Has f r ↔ Has g r)):last g a = last f a:=by
 rcases Qo f a with e | ⟨e1,e2⟩
 . rw [e];refine J7 fun r hr ha=>?_;have h1:=(h r ha).2 hr;have h2:=Xa h1;have h3:=zhi hf h1;rw [ha,e] at h2;have:rc0.seq = 0:=rfl;omega
 have h1:=(h _ e2).1 e1;have:=zhg hg h1 (fun q hq ha=>by
  have h3:=(h q (ha.trans e2)).2 hq;have:=Xa h3
  rwa [ha,e2] at this)
 rwa [e2] at this
theorem zp4 {f:List Bk} (h:ze f = true) {b:Bk} (hb:b ∈ f) {r:Rc} (hr:xj r = true) (torn:Bool) (hc:clean b ≠ 0) (x:Rc):Wr (j5 b r torn) x ↔ (torn = false∧x = r)∨Wr b x:=by
 obtain ⟨l4,_,hs,hbp⟩:=xi h hb;obtain ⟨_,⟨p,hp,hp0⟩,_⟩:=ze1 l4 hs (zh9 hr torn).2 hc;have hk:=(List.getElem?_eq_some_iff.1 hp).1;unfold j5;constructor
 . rintro ⟨q,hq,q1,rfl⟩;dsimp only at hq;obtain ⟨j,hj⟩:=List.mem_iff_getElem?.1 hq;rcases getElem?_set_cases hj with ⟨_,rfl⟩ | ⟨_,hj⟩
   . cases torn
     . exact .inl ⟨rfl,rfl⟩
     exact absurd q1 (by show ¬ (2:Int) = 1;decide)
   exact .inr ⟨q,List.mem_of_getElem? hj,q1,rfl⟩
 rintro (⟨rfl,rfl⟩ | ⟨q,hq,q1,rfl⟩)
 . exact ⟨⟨1,x⟩,List.mem_iff_getElem?.2 ⟨_,List.getElem?_set_self hk⟩,rfl,rfl⟩
 obtain ⟨j,hj⟩:=List.mem_iff_getElem?.1 hq;have hne:4 - b.pages.countP xw ≠ j:=fun e=>by
  rw [← e,hp,Option.some.injEq] at hj;rw [hj] at hp0;omega
 exact ⟨q,List.mem_iff_getElem?.2 ⟨j,by show (b.pages.set (4 - b.pages.countP xw) (znr r torn))[j]? = _;rw [List.getElem?_set_ne hne];exact hj⟩,q1,rfl⟩
theorem zd0 {f:List Bk} (h:ze f = true) {i:Nat} {b:Bk} (hb:f[i]? = some b) {r:Rc} (hr:xj r = true) (torn:Bool) (hc:clean b ≠ 0) (x:Rc):Has (f.set i (j5 b r torn)) x ↔ (torn = false∧x = r)∨Has f x:=by
 have hw:=zp4 h (List.mem_of_getElem? hb) hr torn hc x;have hi:=(List.getElem?_eq_some_iff.1 hb).1;constructor
 . rintro ⟨c,hc',hx⟩;obtain ⟨j,hj⟩:=List.mem_iff_getElem?.1 hc';rcases getElem?_set_cases hj with ⟨_,rfl⟩ | ⟨_,hj⟩
   . rcases hw.1 hx with hx | hx
     . exact .inl hx
     exact .inr ⟨b,List.mem_of_getElem? hb,hx⟩
   exact .inr ⟨c,List.mem_of_getElem? hj,hx⟩
 rintro (hx | ⟨c,hc',hx⟩)
 . exact ⟨_,List.mem_iff_getElem?.2 ⟨i,List.getElem?_set_self hi⟩,hw.2 (.inl hx)⟩
 obtain ⟨j,hj⟩:=List.mem_iff_getElem?.1 hc';by_cases hij:i = j
 . subst hij;rw [hb,Option.some.injEq] at hj;subst hj;exact ⟨_,List.mem_iff_getElem?.2 ⟨i,List.getElem?_set_self hi⟩,hw.2 (.inr hx)⟩
 exact ⟨c,List.mem_iff_getElem?.2 ⟨j,by rw [List.getElem?_set_ne hij];exact hj⟩,hx⟩
theorem zl2 {f:List Bk} (h:ze f = true) {s:Int} (hs:∀ c ∈ f,most c < s) {x:Rc} (hx:Has f x):x.seq < s:=by
 obtain ⟨c,hc,hw⟩:=hx;have:=q9 (xi h hc).2.2.2 (Jc hw);have:=hs c hc;omega
theorem zag {f:List Bk} (h:ze f = true) {s:Int} (hs:∀ c ∈ f,most c < s):qo f s ≠ true:=fun e=>by
 obtain ⟨c,hc,hq⟩:=Jj.1 (ze4.1 e);have:=q9 (xi h hc).2.2.2 hq;have:=hs c hc;omega
theorem zny {f:List Bk} (h:ze f = true) {i:Nat} {b:Bk} (hb:f[i]? = some b) {r:Rc} (hr:xj r = true) (hc:clean b ≠ 0) (hs:∀ c ∈ f,most c < r.seq) (a:Int) :
 last (f.set i (j5 b r false)) a = if a = r.addr then r else last f a:=by
 have hok:=zdj h hb hr false hc (zag h hs);by_cases ha:a = r.addr
 . rw [if_pos ha,ha];refine zhg hok ((zd0 h hb hr false hc r).2 (.inl ⟨rfl,rfl⟩)) fun q hq _=>?_;rcases (zd0 h hb hr false hc q).1 hq with ⟨_,rfl⟩ | hq
   . exact Int.le_refl _
   have:=zl2 h hs hq;omega
 rw [if_neg ha];refine zcd h hok fun x hx=>?_;rw [zd0 h hb hr false hc x];constructor
 . exact .inr
 rintro (⟨_,rfl⟩ | hx')
 . exact absurd hx.symm ha
 exact hx'
theorem zlw {f:List Bk} (h:ze f = true) {i:Nat} {b:Bk} (hb:f[i]? = some b) {r:Rc} (hr:xj r = true) (hc:clean b ≠ 0) (hs:∀ c ∈ f,most c < r.seq) (a:Int) :
 last (f.set i (j5 b r true)) a = last f a:=by
 have hok:=zdj h hb hr true hc (zag h hs);refine zcd h hok fun x hx=>?_;rw [zd0 h hb hr true hc x];simp
theorem Qr {f:List Bk} {i:Nat} (hi:i < f.length) (torn:Bool) (x:Rc):Has (wipe f i torn) x ↔ ∃ (j:Nat) (c:Bk),j ≠ i∧f[j]? = some c∧Wr c x:=by
 constructor
 . rintro ⟨c,hc,hx⟩;obtain ⟨j,hj⟩:=List.mem_iff_getElem?.1 hc;unfold wipe at hj;rcases getElem?_set_cases hj with ⟨_,rfl⟩ | ⟨hne,hj⟩
   . obtain ⟨p,hp,p1,_⟩:=hx;dsimp only at hp;rw [List.mem_replicate] at hp;rw [hp.2] at p1;cases torn
     . exact absurd p1 (by show ¬ (0:Int) = 1;decide)
     exact absurd p1 (by show ¬ (2:Int) = 1;decide)
   exact ⟨j,c,hne,hj,hx⟩
 rintro ⟨j,c,hne,hj,hx⟩;exact ⟨c,List.mem_iff_getElem?.2 ⟨j,by rw [zki hne];exact hj⟩,hx⟩
theorem zqv {f:List Bk} (h:ze f = true) (hO:Ord f) {i j:Nat} {b c:Bk} (hij:j ≠ i) (hb:f[i]? = some b) (hc:f[j]? = some c) (hmin:∀ d ∈ f,most b ≤ most d) {r q:Rc} (hr:Wr b r) (hq:Wr c q):r.seq < q.seq:=by
 have pb:=(xi h (List.mem_of_getElem? hb)).2.2.2;have pc:=(xi h (List.mem_of_getElem? hc)).2.2.2;have b1:=q9 pb (Jc hr);have b2:=Kc pb (Jc hr);have c1:=q9 pc (Jc hq);have c2:=Kc pc (Jc hq);have p1:=(Q8 pb (Jc hr)).1;have p2:=(Q8 pc (Jc hq)).1;have h1:=hO.apart i j b c (Ne.symm hij) hb hc (by omega) (by omega);have h2:=hmin c (List.mem_of_getElem? hc);have hne:r.seq ≠ q.seq:=fun e=>hij (zor h hb hc hr hq e).1.symm;have h3:most b ≠ most c:=fun e=>yv ((jt f).1 h).2.2 (Ne.symm hij) hb hc (y8 pb (by omega)) (e ▸ y8 pc (by omega));have h4:=Z2 pb (by omega);have h5:=Z2 pc (by omega);have h6:ku c ≠ most b:=fun e=>yv ((jt f).1 h).2.2 (Ne.symm hij) hb hc (y8 pb (by omega)) (e ▸ Za pc (by omega));by_cases h7:ku c < most b
 . exact absurd ⟨by omega,h7⟩ h1
 omega
theorem zlv {f:List Bk} (h:ze f = true) (hO:Ord f) {i:Nat} {b:Bk} (hb:f[i]? = some b) (hmin:∀ d ∈ f,most b ≤ most d) (hw:b.worn ≠ 200) (torn:Bool) (a:Int) :
 (Wr b (last f a)->last (wipe f i torn) a = rc0)∧(¬ Wr b (last f a)->last (wipe f i torn) a = last f a):=by
 have hi:=(List.getElem?_eq_some_iff.1 hb).1;have hok:=zc1 h (by rw [zh h] at hi;exact hi) torn (by rw [Xd hb];exact hw);constructor
 . intro hl;refine J7 fun x hx ha=>?_;obtain ⟨j,c,hne,hj,hx⟩:=(Qr hi torn x).1 hx;have h1:=zqv h hO hne hb hj hmin hl hx;have h2:=Xa (f:=f) ⟨c,List.mem_of_getElem? hj,hx⟩;rw [ha] at h2;omega
 intro hl;rcases Qo f a with e | ⟨⟨c,hc,hx⟩,e2⟩
 . rw [e];refine J7 fun x hx ha=>?_;obtain ⟨j,c,hne,hj,hx⟩:=(Qr hi torn x).1 hx;have hh:Has f x:=⟨c,List.mem_of_getElem? hj,hx⟩;have h2:=Xa hh;have h3:=zhi h hh;rw [ha,e] at h2;have:rc0.seq = 0:=rfl;omega
 obtain ⟨j,hj⟩:=List.mem_iff_getElem?.1 hc;have hne:j ≠ i:=by
  rintro rfl;rw [hb,Option.some.injEq] at hj;subst hj;exact hl hx
 have:=zhg hok ((Qr hi torn _).2 ⟨j,c,hne,hj,hx⟩) (fun q hq ha=>by
  obtain ⟨j',c',_,hj',hq⟩:=(Qr hi torn q).1 hq;have:=Xa (f:=f) ⟨c',List.mem_of_getElem? hj',hq⟩
  rwa [ha,e2] at this)
 rwa [e2] at this
end
end Go.Proofs.YtclnogfmmekooaaGreat
