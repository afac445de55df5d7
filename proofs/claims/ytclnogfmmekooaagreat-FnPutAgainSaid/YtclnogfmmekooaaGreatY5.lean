/- What the laws' walks share: words, plain laws, and the walks of functions, part 5. -/
import Derived.Deep.AppendLies
import Derived.Deep.Onto
import Derived.OwnWalk
import Derived.Deep.RegionHeld3
import Derived.BigQuiet
import Derived.Deep.RegionWith
import Derived.Test.YtclnogfmmekooaaGreatY4
set_option linter.unusedVariables false
set_option linter.unusedSimpArgs false
set_option maxHeartbeats 16000000
set_option maxRecDepth 100000
namespace Go.Proofs.YtclnogfmmekooaaGreat
section
open Go.RowKit Go.Maps
theorem Tryz.info3_step:(Tryz.prog.info? 81).map (fun i=>(i.zero,i.size,i.bytes)) = some (some (.agg #[.int .i64 0, .int .i64 0, .int .i64 0, .int .i64 0, .int .i64 0, .int .i64 0, .int .i64 0, .int .i64 0]),8,64):=by kernel_rfl
theorem Yt (n:Nat) (f:List Bk) (A:Option Addr) (c:Nat) (w:World) (hn:n = f.length) (hl:f.length < 1000000000000) (hp:∀ b ∈ f,b.pages.length < 1000000000000) (hF:Fl w A f) :
 Calls Tryz.prog 61 #[.slice A n c] w fun e w'=>e = .returned (.tuple #[.int .i64 (jd f).1, .bool (jd f).2])∧0 ≤ (jd f).1∧(f ≠ []->(jd f).1 < f.length)∧Below w.heap.size w w':=by subst hn;exact zgs f A c w hl hp hF
theorem zgt (n:Nat) (f:List Bk) (A:Option Addr) (c:Nat) (w:World) (hn:n = f.length) (hl:f.length < 1000000000000) (h0:0 < f.length) (hp:∀ b ∈ f,b.pages.length < 1000000000000) (hF:Fl w A f) :
 Calls Tryz.prog 114 #[.slice A n c] w fun e w'=>e = .returned (.int .i64 (old f))∧old f < f.length∧Below w.heap.size w w':=by subst hn;exact zji f A c w hl h0 hp hF
theorem zes (n:Nat) (f:List Bk) (A:Option Addr) (c:Nat) (w:World) (hn:n = f.length) (hl:f.length < 1000000000000) (hp:∀ b ∈ f,b.pages.length < 1000000000000) (hm:∀ b ∈ f,most b < 1000000000000) (hF:Fl w A f) :
 Calls Tryz.prog 70 #[.slice A n c] w fun e w'=>e = .returned (.int .i64 (next f))∧Below w.heap.size w w':=by subst hn;exact zgu f A c w hl hp hm hF
theorem zet (n:Nat) (f:List Bk) (p:Pg) (A:Option Addr) (c:Nat) (w:World) (hn:n = f.length) (hl:f.length < 1000000000000) (hp:∀ b ∈ f,b.pages.length < 1000000000000) (hF:Fl w A f) :
 Calls Tryz.prog 115 #[.slice A n c, .agg #[.int .i64 p.state, .int .i64 p.rc.kind, .int .i64 p.rc.seq, .int .i64 p.rc.addr, .int .i64 p.rc.val]] w fun e w'=>e = .returned (.bool (live f p))∧Below w.heap.size w w':=by subst hn;exact zgv f p A c w hl hp hF
theorem zeu (n:Nat) (f:List Bk) (addr:Int) (A:Option Addr) (c:Nat) (w:World) (hn:n = f.length) (hl:f.length < 1000000000000) (hp:∀ b ∈ f,b.pages.length < 1000000000000) (hF:Fl w A f) :
 Calls Tryz.prog 68 #[.slice A n c, .int .i64 addr] w fun e w'=>e = .returned (.tuple #[.agg #[.int .i64 (last f addr).kind, .int .i64 (last f addr).seq, .int .i64 (last f addr).addr, .int .i64 (last f addr).val], .bool (decide (0 < (last f addr).seq))])∧Below w.heap.size w w':=by subst hn;exact qz f addr A c w hl hp hF
theorem zbh (n:Nat) (f:List Bk) (a:Int) (A D:Option Addr) (c m d:Nat) (w:World) (hn:n = f.length) (hl:f.length < 1000000000000) (hp:∀ b ∈ f,b.pages.length < 1000000000000) (hF:Fl w A f) :
 Calls Tryz.prog 123 #[.agg #[.slice A n c, .slice D m d], .int .i64 a] w fun e w'=>e = .returned (.bool (xz f a))∧Below w.heap.size w w':=by subst hn;exact zc9 f a A D c m d w hl hp hF
theorem zc8 (n:Nat) (s:St) (a:Int) (A D:Option Addr) (c d:Nat) (w:World) (hn:n = s.flash.length) (hl:s.flash.length < 1000000000000) (hp:∀ b ∈ s.flash,b.pages.length < 1000000000000) (hd:s.disk.length = 6) (ha:1 ≤ a) (ha2:a ≤ 6) (hF:Fl w A s.flash) (hD:Row w D (ints s.disk)) :
 Calls Tryz.prog 124 #[.agg #[.slice A n c, .slice D 6 d], .int .i64 a] w fun e w'=>e = .returned (.int .i64 (xe s a))∧Below w.heap.size w w':=by subst hn;exact zey s a A D c d w hl hp hd ha ha2 hF hD
def OwnS (w:World) (base:Nat) (v:Value) (xs:List Sp):Prop:=w.ownsRow base 81 8 v xs.length (sps xs)
theorem jq {w w':World} {base:Nat} {e:TypeId} {size n:Nat} {v:Value} {xs:List Value} (h:w.ownsRow base e size v n xs) (hk:∀ b,v.ownBlock = some b->b < w.heap.size->w'.heap[b]? = w.heap[b]?):w'.ownsRow base e size v n xs:=by
 refine ⟨h.1, ?_⟩;rcases h.2 with hn | ⟨g,cap,cur,hv,hb,hg,rest⟩
 . exact .inl hn
 have hl:g < w.heap.size:=by
  rcases Nat.lt_or_ge g w.heap.size with hl | hl
  . exact hl
  rw [Array.getElem?_eq_none hl] at hg;cases hg
 exact .inr ⟨g,cap,cur,hv,hb,by rw [hk g (by rw [hv];rfl) hl];exact hg,rest⟩
theorem OwnS.below {w w':World} {base B:Nat} {v:Value} {xs:List Sp} (h:OwnS w base v xs) (hb:Below B w w') (hB:w.heap.size ≤ B):OwnS w' base v xs:=jq h fun b _ hl=>hb.block b (by omega)
theorem OwnS.agr {w w':World} {base:Nat} {v:Value} {xs:List Sp} {S:Nat->Prop} (h:OwnS w base v xs) (hb:Agr S w w') (hS:∀ b,base ≤ b->¬ S b):OwnS w' base v xs:=by
 refine jq h fun b hbl hl=>hb.block b hl (hS b ?_);exact (World.ownsRow.lt h b hbl).1
theorem OwnS.mono {w:World} {base base':Nat} {v:Value} {xs:List Sp} (h:OwnS w base v xs) (hb:base' ≤ base):OwnS w base' v xs:=World.ownsRow.mono h hb
theorem OwnS.nil (w:World) (base:Nat) (hb:base ≤ w.heap.size):OwnS (w.alloc (.cells #[] 81)) base (.slice (some ⟨w.heap.size,0,none⟩) 0 0) []:=World.ownsRow_lit w #[] 0 hb (by unfold maxLen;omega) rfl
theorem OwnS.shape {w:World} {base:Nat} {v:Value} {xs:List Sp} (h:OwnS w base v xs):∃ A c,v = .slice A xs.length c∧xs.length ≤ c∧Row w A (sps xs)∧∀ b,blk A b->base ≤ b∧b < w.heap.size:=by
 rcases h.2 with ⟨hv,hn⟩ | ⟨g,cap,cur,hv,hb,hg,hc,rest⟩
 . exact ⟨none,0,by rw [hv,hn],by omega,by have:xs = []:=List.length_eq_zero_iff.1 hn;subst this;exact Row.nil _ _,fun b hb=>by simp [blk] at hb⟩
 refine ⟨some ⟨g,0,none⟩,cap,hv,hc,Row.of_own (by rw [← hv];exact h),fun b hbb=>?_⟩;rw [zf] at hbb;subst hbb;exact ⟨hb,(World.ownsRow.lt h g (by rw [hv];rfl)).2⟩
theorem OwnS.snoc {w:World} {base g n c:Nat} {xs:List Sp} {x:Sp} (hn:n = xs.length + 1) (h:w.ownsRow base 81 8 (.slice (some ⟨g,0,none⟩) (xs.length + 1) c) (xs.length + 1) (sps xs ++ x.vs)):OwnS w base (.slice (some ⟨g,0,none⟩) n c) (xs ++ [x]):=by
 subst hn;unfold OwnS;rw [List.length_append,sps,List.flatMap_append,show [x].flatMap Sp.vs = x.vs by simp];exact h
theorem zbt (f:List Bk) (xs:List Sp) (p:Pg) (r:List Pg):xs ++ tells f (p :: r) = (if told f p then xs ++ [Zt p] else xs) ++ tells f r:=by
 unfold tells;rw [List.filter_cons];split
 . simp
 rfl
theorem zll {f:List Bk}:∀ (r:List Bk) (i out:Nat),i + r.length = f.length->out < f.length->Kl f i out r < f.length
 | [],_,_,_,h=>h
 | b :: r, i, out, hi, h => by
   rw [List.length_cons] at hi;unfold Kl;split
   . exact zll r _ _ (by omega) (by omega)
   exact zll r _ _ (by omega) h
theorem zew (f:List Bk) (A D:Option Addr) (c m d:Nat) (w:World) (hf:f.length = 4) (hp:∀ b ∈ f,b.pages.length = 4) (hF:Fl w A f) :
 Calls Tryz.prog 71 #[.agg #[.slice A 4 c, .slice D m d]] w fun e w'=>∃ v,e = .returned (.tuple #[v, .int .i64 (room f).2.1, .bool (room f).2.2])∧OwnS w' w.heap.size v (room f).1∧Below w.heap.size w w':=by
 obtain ⟨ib,hib,hbz0,hbz1,hbz2⟩:=info_parts Tryz.info3_step;have HL:=Lib.hid hf;have HP4:=Lib.hid hp;have hl4:f.length < 1000000000000:=by omega
 have h04:0 < f.length:=by omega
 have HP:=Lib.hid (show ∀ b ∈ f,b.pages.length < 1000000000000 from fun b hb=>by rw [hp b hb];omega);clear hf hp
 go_enter Tryz.func71,Tryz.ntmps71
 go_wp2_with fail
 refine (Yt _ f A c _ HL.out.symm hl4 HP.out ((hF.alloc _).alloc _)).mono ?_;rintro e w1 ⟨rfl,ho0,ho1,hb⟩;have hB:Below w.heap.size w w1:=Below.trans bw (hb.mono (by simp;omega));have hz:w.heap.size + 1 < w1.heap.size:=by have:=hb.size;simp at this;omega
 obtain ⟨hc,hfz⟩:=qv hb;have hO1:OwnS w1 (w.heap.size + 1) (.slice (some ⟨w.heap.size + 1,0,none⟩) 0 0) []:=by
  have:=(OwnS.nil (w.alloc (.cells #[.slice A 4 c, .slice D m d] 28)) (w.heap.size + 1) (by simp));simp only [World.size_alloc] at this;exact this.below hb (by simp)
 have hb0:w1.cell? ⟨w.heap.size,0,none⟩ = some (.slice A 4 c):=(hc _ _ (by simp <;> omega)).trans (by simp)
 clear hb hc hfz;by_cases h1:(jd f).2 = true
 . have h3:Hid (room f = ([],(jd f).1,true)):=by unfold Hid room;rw [if_pos h1]
   rw [h1];go_wp2
   go_ret3
   rw [h3.out];exact ⟨_,rfl,hO1.mono (by omega),bw⟩
 have h3:Hid (room f = (tells f (f.getD (old f) zbk).pages ++ [⟨2,0,0,old f,rc0⟩],(old f:Int),decide ((f.getD (old f) zbk).worn < 200))):=by unfold Hid room;rw [if_neg h1]
 rw [show (jd f).2 = false by simpa using h1];clear ho0 ho1;go_wp2_with fail
 refine (zgt _ f A c _ HL.out.symm hl4 h04 HP.out (hF.below hB nl)).mono ?_;rintro e w2 ⟨rfl,hol,hb2⟩;have hO2:=hO1.below hb2 nl;have hb0':=(hb2.cell (p:=⟨w.heap.size,0,none⟩) (by simp;omega)).trans hb0;have hz2:=hb2.size;have hB2:=hB.trans (hb2.mono hB.size);clear hO1 hb0 hB hb2;generalize old f = i at *;obtain ⟨B,hBf⟩:=zc hol;rw [HL.out] at hol;have hgd:f.getD i zbk = B:=by rw [List.getD_eq_getElem?_getD,hBf];rfl
 rw [hgd] at h3;have hB4:=HP4.out B (List.mem_of_getElem? hBf);have HB:=Lib.hid hBf;have HB4:=Lib.hid hB4;have hi4:(i:Int) < 4:=by omega
 obtain ⟨g,o,rfl⟩:=(hF.below hB2 nl).choose_spec.addr (by intro e;rw [e] at hBf;simp at hBf);have hT:Hid (tells f B.pages = [] ++ tells f (B.pages.drop 0)):=rfl;clear hgd hBf hB4;go_wp2
 go_loopw [5,9] (fun u q wr=>∃ (k:Nat) (xs:List Sp) (v:Value),k ≤ 4∧q = .int .i64 k∧v = u∧xs.length ≤ k∧OwnS wr (w.heap.size + 1) v xs∧Below w.heap.size w wr∧wr.cell? ⟨w.heap.size,0,none⟩ = some (.slice (some ⟨g,o,none⟩) 4 c)∧w.heap.size + 1 < wr.heap.size∧Hid (tells f B.pages = xs ++ tells f (B.pages.drop k))) (fun _ q _=>4 - (intOf q).toNat)
 case atStart=>exact ⟨0,[],_,by omega,rfl,rfl,by simp,hO2,hB2,hb0',by omega,hT⟩
 case round =>
  clear hT hO2 hb0' hz2 hB2 hz;obtain ⟨k,xs,v,hk,rfl,rfl,hxk,hO,hb,hbx,hz,hT⟩:=hrel;obtain ⟨hs,hBk⟩:=hF.below hb nl;obtain ⟨⟨Ap,cp⟩,_,z0,z1,_,_,hR,_⟩:=hBk.at_ HB.out;dsimp only at z0 hR;rw [HB4.out] at z0;by_cases hlt:k < 4
  . obtain ⟨p,hq⟩:=zc (l:=B.pages) (k:=k) (by have:=HB4.out;omega);obtain ⟨pb,po,rfl⟩:=hR.addr (ky (by intro e;rw [e] at hq;simp at hq));obtain ⟨c0,c1,c2,c3,c4⟩:=hR.pg hq;have hT1:Hid (tells f B.pages = (if told f p then xs ++ [Zt p] else xs) ++ tells f (B.pages.drop (k + 1))):=by rw [Hid,hT.out,zr hq,zbt]
    have hk4:(k:Int) < 4:=by omega
    have hzz:w.heap.size < wr.heap.size:=by omega
    clear hq hT hBk hR;go_wp2_with fail
    refine (zet _ f p _ c _ HL.out.symm hl4 HP.out ((hF.below hb nl).alloc _)).mono ?_;rintro e w3 ⟨rfl,hb3⟩;have hO3:=(hO.below ((Below.refl wr.heap.size _).alloc nl (.cells #[.int .i64 p.state, .int .i64 p.rc.kind, .int .i64 p.rc.seq, .int .i64 p.rc.addr, .int .i64 p.rc.val] 76)) nl).below hb3 nl;have hbx3:=(hb3.cell (p:=⟨w.heap.size,0,none⟩) (by show w.heap.size < _;simp;omega)).trans ((((Below.refl wr.heap.size wr).alloc nl (.cells #[.int .i64 p.state, .int .i64 p.rc.kind, .int .i64 p.rc.seq, .int .i64 p.rc.addr, .int .i64 p.rc.val] 76)).cell (p:=⟨w.heap.size,0,none⟩) (by show w.heap.size < wr.heap.size;omega)).trans hbx);have hB3:Below w.heap.size w w3:=Below.trans bw (hb3.mono (by simp;omega));have hs3:wr.heap.size + 1 ≤ w3.heap.size:=by have:=hb3.size;simpa using this
    obtain ⟨hc3,_⟩:=qv hb3;have p1:w3.cell? ⟨wr.heap.size,1,none⟩ = some (.int .i64 p.rc.kind):=(hc3 _ _ (by simp)).trans (by simp);have p3:w3.cell? ⟨wr.heap.size,3,none⟩ = some (.int .i64 p.rc.addr):=(hc3 _ _ (by simp)).trans (by simp);have p4:w3.cell? ⟨wr.heap.size,4,none⟩ = some (.int .i64 p.rc.val):=(hc3 _ _ (by simp)).trans (by simp);have htd:Hid (told f p = (live f p && decide (p.rc.kind = 1))):=rfl;clear hb3 hc3 hO hbx hb c0 c1 c2 c3 c4 z0 z1;generalize live f p = lv at *;by_cases hd:lv = true∧p.rc.kind = 1
    . obtain ⟨rfl,hk1⟩:=hd;have hT2:Hid (tells f B.pages = (xs ++ [Zt p]) ++ tells f (B.pages.drop (k + 1))):=by rw [Hid,hT1.out,if_pos (by rw [htd.out];simp [hk1])]
      rw [hk1] at p1;clear hT1 htd;have hO4:=hO3.below ((Below.refl w3.heap.size _).alloc nl (.cells #[.int .i64 1, .int .i64 p.rc.addr, .int .i64 p.rc.val, .int .i64 0, .int .i64 0, .int .i64 0, .int .i64 0, .int .i64 0] 81)) nl;have hnb:v.ownBlock = none∨∃ b,v.ownBlock = some b∧w.heap.size + 1 ≤ b∧b < w3.heap.size:=by
       rcases h:v.ownBlock with _ | b
       . exact .inl rfl
       have:=World.ownsRow.lt hO3 b h;exact .inr ⟨b,rfl,this.1,this.2⟩
      go_wp2_with (at_builtin;refine wpList_append_lies _ rfl (.tmp 47) (.tmp 55) _ rfl (w.heap.size + 1) 81 ib _ 8 64 Tryz.underlying39 hib hbz0 hbz1 hbz2 rfl (by omega) v xs.length (sps xs) rfl hO4 ⟨w3.heap.size,0,none⟩ 1 1 (Zt p).vs rfl rfl (World.news_of_block (cs:=#[.int .i64 1, .int .i64 p.rc.addr, .int .i64 p.rc.val, .int .i64 0, .int .i64 0, .int .i64 0, .int .i64 0, .int .i64 0]) (t:=81) (fr:=(0,0)) (heap_alloc_new w3 _)) (by simp [Value.oneCell',Zt,Sp.vs,rc0]) (by omega) (by unfold maxLen;omega) (by omega) (by simp;omega) (w3.heap.size + 1) (by simp) ?_;intro g2 c2 w4 hown2 hgrow2 hat2 hlt2)
      have hgb:∀ q,v.ownBlock = some q->w.heap.size + 1 ≤ q:=fun q e=>by
       rcases hnb with h | ⟨b,h,h1,_⟩
       . rw [h] at e;cases e
       rw [h] at e;cases e;exact h1
      have hbb:Below (w.heap.size + 1) w3 w4:=((Below.refl _ _).alloc (by omega) _).grown hgrow2 (by simp;omega) hgb;have hB4:Below w.heap.size w w4:=hB3.trans (hbb.mono (by omega));have hbx4:=(hbb.cell (p:=⟨w.heap.size,0,none⟩) (by show w.heap.size < _;omega)).trans hbx3;have hs4:=hbb.size;have hOS:=OwnS.snoc (x:=Zt p) rfl hown2;go_roundw
      case rel=>exact ⟨k + 1,xs ++ [Zt p],_,by omega,by go_num,rfl,by simp;omega,hOS,hB4,hbx4,by omega,hT2⟩
      case measure=>simp [intOf];omega
    have hT2:Hid (tells f B.pages = xs ++ tells f (B.pages.drop (k + 1))):=by
     rw [Hid,hT1.out,if_neg (by
      rw [htd.out];intro h;simp at h;exact hd h)]
    clear hT1 htd;rcases Bool.eq_false_or_eq_true lv with rfl | rfl
    . have hk1:¬ p.rc.kind = 1:=fun h=>hd ⟨rfl,h⟩;go_wp2;go_roundw
      case rel=>exact ⟨k + 1,xs,v,by omega,by go_num,rfl,by omega,hO3,hB3,hbx3,by omega,hT2⟩
      case measure=>simp [intOf];omega
    go_wp2;go_roundw
    case rel=>exact ⟨k + 1,xs,v,by omega,by go_num,rfl,by omega,hO3,hB3,hbx3,by omega,hT2⟩
    case measure=>simp [intOf];omega
  obtain rfl:k = 4:=by omega
  have hT2:Hid (tells f B.pages = xs):=by
   rw [Hid,hT.out,List.drop_of_length_le (by rw [HB4.out];exact Nat.le_refl _)];simp [tells]
  rw [hT2.out] at h3;have hzz:w.heap.size < wr.heap.size:=by omega
  have hnb:∀ q,v.ownBlock = some q->w.heap.size + 1 ≤ q:=fun q e=>(World.ownsRow.lt hO q e).1;have hgl:=zd z1;have hs1:=hb.size;have hgw:g < w.heap.size:=by
   obtain ⟨hs',hBk'⟩:=hF;obtain ⟨_,_,_,z1',_⟩:=hBk'.at_ HB.out;exact zd z1'
  clear hT hBk hR z0;go_wp2
  go_region_held3 (fun w'=>w'.cell? ⟨w.heap.size,0,none⟩ = some (.slice (some ⟨g,o,none⟩) 4 c)∧w'.cell? ⟨g,o + i * 2 + 1,none⟩ = some (.int .i64 B.worn)) (first | go_keep | trivial)
   (first
    | (refine step_append_lies _ (by rfl) (.tmp 57) (.tmp 60) _ (by rfl) (w.heap.size + 1) 81 ib _ 8 64 Tryz.underlying39 hib hbz0 hbz1 hbz2 rfl (by omega) v xs.length (sps xs) (by rfl) (World.ownsRow.drew (World.ownsRow.alloc hO (.cells #[.int .i64 2, .int .i64 0, .int .i64 0, .int .i64 i, .int .i64 0, .int .i64 0, .int .i64 0, .int .i64 0] 81))) ⟨wr.heap.size,0,none⟩ 1 1 (⟨2,0,0,i,rc0⟩:Sp).vs (by rfl) (by rfl) (World.news_of_block (cs:=#[.int .i64 2, .int .i64 0, .int .i64 0, .int .i64 i, .int .i64 0, .int .i64 0, .int .i64 0, .int .i64 0]) (t:=81) (fr:=(0,0)) (heap_alloc_new wr _)) (by simp [Value.oneCell',Sp.vs,rc0]) (by omega) (by unfold maxLen;omega) (by omega) (by simp;omega) (wr.heap.size + 1) (by simp) ?_;intro g2 c2 w4 hown2 hgrow2 hat2 hlt2;have hbb:Below (w.heap.size + 1) wr w4:=(((Below.refl _ _).alloc (by omega) _).drew).grown hgrow2 (by simp;omega) hnb;have y0:=(hbb.cell (p:=⟨w.heap.size,0,none⟩) (by show w.heap.size < _;omega)).trans hbx;have y1:w4.cell? ⟨g,o + i * 2 + 1,none⟩ = some (.int .i64 B.worn):=(hbb.cell (p:=⟨g,o + i * 2 + 1,none⟩) (by show g < _;omega)).trans z1))
  have hOS:=OwnS.snoc (x:=⟨2,0,0,i,rc0⟩) rfl hown2;go_wp2
  go_ret3
  rw [h3.out];exact ⟨_,rfl,hOS.mono (by omega),hb.trans (hbb.mono (by omega))⟩
theorem zkx (f:List Bk) (ps:List Pg):(tells f ps).length ≤ ps.length:=by
 unfold tells;rw [List.length_map];exact List.length_filter_le _ _
theorem zh6 {f:List Bk} (hf:f.length = 4) (hp:∀ b ∈ f,b.pages.length = 4):(room f).1.length ≤ 5:=by
 unfold room;split
 . simp
 have h1:=zkx f (f.getD (old f) zbk).pages;have hlt:old f < f.length:=zll _ _ _ (by simp;omega) (by omega);have h2:(f.getD (old f) zbk).pages.length = 4:=by
  rw [List.getD_eq_getElem?_getD,List.getElem?_eq_getElem hlt];exact hp _ (List.getElem_mem hlt)
 rw [List.length_append];simp only [List.length_cons,List.length_nil];omega
end
section
open Go.RowKit Go.Maps
theorem qn (f:List Bk) (kind addr val:Int) (A D:Option Addr) (c m d:Nat) (w:World) (hf:f.length = 4) (hp:∀ b ∈ f,b.pages.length = 4) (hm:∀ b ∈ f,most b < 1000000000000) (hF:Fl w A f) :
 Calls Tryz.prog 38 #[.agg #[.slice A 4 c, .slice D m d], .int .i64 kind, .int .i64 addr, .int .i64 val] w fun e w'=>∃ v,e = .returned v∧OwnS w' w.heap.size v (wr f kind addr val)∧Below w.heap.size w w':=by
 obtain ⟨ib,hib,hbz0,hbz1,hbz2⟩:=info_parts Tryz.info3_step;have HL:=Lib.hid hf;have HP4:=Lib.hid hp;have HM:=Lib.hid hm;have hl4:f.length < 1000000000000:=by omega
 have HP:=Lib.hid (show ∀ b ∈ f,b.pages.length < 1000000000000 from fun b hb=>by rw [hp b hb];omega);have hfin:Hid (wr f kind addr val = if (room f).2.2 = false∨xj ⟨kind,next f,addr,val⟩ = false then [] else (room f).1 ++ [⟨3,0,0,(room f).2.1,⟨kind,next f,addr,val⟩⟩]):=rfl;have hrl:(room f).1.length ≤ 5:=zh6 hf hp;clear hf hp hm
 go_enter Tryz.func38,Tryz.ntmps38
 go_wp2_with fail
 refine (zes _ f A c _ HL.out.symm hl4 HP.out HM.out (hF.alloc _)).mono ?_;rintro e w1 ⟨rfl,hb⟩;have hB:Below w.heap.size w w1:=Below.trans bw (hb.mono (by simp));have hz:w.heap.size < w1.heap.size:=by have:=hb.size;simp at this;omega
 obtain ⟨hc,hfz⟩:=qv hb;have x0:w1.cell? ⟨w.heap.size,0,none⟩ = some (.slice A 4 c):=(hc _ _ (by simp)).trans (by simp);have x1:w1.cell? ⟨w.heap.size,1,none⟩ = some (.slice D m d):=(hc _ _ (by simp)).trans (by simp);clear hb hc hfz;generalize next f = nx at *;go_wp2_with fail
 refine (zew f A D c m d _ HL.out HP4.out ((hF.below hB nl).alloc _)).mono ?_;rintro e w2 ⟨v,rfl,hO,hb2⟩;obtain ⟨hc,hfz⟩:=qv hb2;have r0:w2.cell? ⟨w1.heap.size,0,none⟩ = some (.int .i64 kind):=(hc _ _ (by simp)).trans (by simp);have r1:w2.cell? ⟨w1.heap.size,1,none⟩ = some (.int .i64 nx):=(hc _ _ (by simp)).trans (by simp);have r2:w2.cell? ⟨w1.heap.size,2,none⟩ = some (.int .i64 addr):=(hc _ _ (by simp)).trans (by simp);have r3:w2.cell? ⟨w1.heap.size,3,none⟩ = some (.int .i64 val):=(hc _ _ (by simp)).trans (by simp);have hB2:Below w.heap.size w w2:=(hB.alloc hB.size _).trans (hb2.mono (by simp;omega));have hz2:w1.heap.size + 1 ≤ w2.heap.size:=by have:=hb2.size;simpa using this
 replace hO:=hO.mono (base':=w1.heap.size) (by simp);clear hb2 hc hfz x0 x1 hB;generalize room f = rm at *;obtain ⟨xs,bi,ok⟩:=rm;dsimp only at *;cases ok
 . have h3:Hid (wr f kind addr val = []):=by rw [Hid,hfin.out,if_pos (.inl rfl)]
   go_wp2;go_ret;rw [h3.out];exact ⟨_,rfl,OwnS.nil _ _ (by omega),bw⟩
 go_wp2_with fail
 refine (zb4 ⟨kind,nx,addr,val⟩ _).mono ?_;rintro e w3 ⟨rfl,hb3⟩;obtain ⟨hc,hfz⟩:=qv hb3;replace r0:=(hc _ _ (zd r0)).trans r0;replace r1:=(hc _ _ (zd r1)).trans r1;replace r2:=(hc _ _ (zd r2)).trans r2;replace r3:=(hc _ _ (zd r3)).trans r3;have hB3:=hB2.trans (hb3.mono hB2.size);have hz3:=hb3.size;have hO3:=hO.below hb3 nl;clear hO hc hfz hb3;by_cases hok:xj ⟨kind,nx,addr,val⟩ = true
 . have h3:Hid (wr f kind addr val = xs ++ [⟨3,0,0,bi,⟨kind,nx,addr,val⟩⟩]):=by
    rw [Hid,hfin.out,if_neg (by intro h;rcases h with h | h;cases h;rw [hok] at h;cases h)]
   rw [hok];have hO4:=hO3.below ((Below.refl w3.heap.size _).alloc nl (.cells #[.int .i64 3, .int .i64 0, .int .i64 0, .int .i64 bi, .int .i64 kind, .int .i64 nx, .int .i64 addr, .int .i64 val] 81)) nl;have hnb:∀ q,v.ownBlock = some q->w1.heap.size ≤ q:=fun q e=>(World.ownsRow.lt hO3 q e).1;clear hfin;go_wp2_with (at_builtin;refine wpList_append_lies _ rfl (.tmp 34) (.tmp 38) _ rfl w1.heap.size 81 ib _ 8 64 Tryz.underlying39 hib hbz0 hbz1 hbz2 rfl (by omega) v xs.length (sps xs) rfl hO4 ⟨w3.heap.size,0,none⟩ 1 1 (⟨3,0,0,bi,⟨kind,nx,addr,val⟩⟩:Sp).vs rfl rfl (World.news_of_block (cs:=#[.int .i64 3, .int .i64 0, .int .i64 0, .int .i64 bi, .int .i64 kind, .int .i64 nx, .int .i64 addr, .int .i64 val]) (t:=81) (fr:=(0,0)) (heap_alloc_new w3 _)) (by simp [Value.oneCell',Sp.vs]) (by omega) (by unfold maxLen;omega) (by omega) (by simp;omega) (w3.heap.size + 1) (by simp) ?_;intro g2 c2 w4 hown2 hgrow2 hat2 hlt2)
   have hbb:Below w1.heap.size w3 w4:=((Below.refl _ _).alloc (by omega) _).grown hgrow2 (by simp;omega) hnb;have hOS:=OwnS.snoc (x:=⟨3,0,0,bi,⟨kind,nx,addr,val⟩⟩) rfl hown2;go_ret;rw [h3.out];exact ⟨_,rfl,hOS.mono (by omega),hB3.trans (hbb.mono (by omega))⟩
 have hok':xj ⟨kind,nx,addr,val⟩ = false:=by simpa using hok
 have h3:Hid (wr f kind addr val = []):=by rw [Hid,hfin.out,if_pos (.inr hok')]
 rw [hok'];go_wp2;go_ret;rw [h3.out];exact ⟨_,rfl,OwnS.nil _ _ (by omega),bw⟩
end
section
open Go.RowKit Go.Maps
theorem Fl.drew' {w:World} {A:Option Addr} {f:List Bk} (h:Fl w A f):Fl w.drew A f:=by obtain ⟨hs,h⟩:=h;exact ⟨hs,h.drew⟩
theorem zpe (xs:List Sp):∀ v ∈ sps xs,v.oneCell' = true:=by
 intro v hv;unfold sps at hv;obtain ⟨x,_,hx⟩:=List.mem_flatMap.1 hv;unfold Sp.vs at hx;simp at hx;rcases hx with h | h | h | h | h | h | h | h <;> (subst h;rfl)
theorem OwnS.onto {w:World} {base g n c:Nat} {xs ys:List Sp} (hn:n = xs.length + ys.length) (h:w.ownsRow base 81 8 (.slice (some ⟨g,0,none⟩) n c) n (sps xs ++ sps ys)):OwnS w base (.slice (some ⟨g,0,none⟩) n c) (xs ++ ys):=by
 subst hn;unfold OwnS;rw [List.length_append,sps,List.flatMap_append];exact h
theorem zh0 {f:List Bk} (hf:f.length = 4) (hp:∀ b ∈ f,b.pages.length = 4) (k a v:Int):(wr f k a v).length ≤ 6:=by
 have:=zh6 hf hp;unfold wr;split
 . simp
 rw [List.length_append];simp only [List.length_cons,List.length_nil];omega
theorem Jg (s:St) (a:Int) (A D:Option Addr) (c d:Nat) (w:World) (hf:s.flash.length = 4) (hp:∀ b ∈ s.flash,b.pages.length = 4) (hm:∀ b ∈ s.flash,most b < 1000000000000) (hd:s.disk.length = 6) (hF:Fl w A s.flash) (hD:Row w D (ints s.disk)) :
 Calls Tryz.prog 85 #[.agg #[.slice A 4 c, .slice D 6 d], .int .i64 a] w fun e w'=>∃ v,e = .returned v∧OwnS w' w.heap.size v (ym s a)∧Below w.heap.size w w':=by
 obtain ⟨ib,hib,hbz0,hbz1,hbz2⟩:=info_parts Tryz.info3_step;have HL:=Lib.hid hf;have HP4:=Lib.hid hp;have HM:=Lib.hid hm;have HD:=Lib.hid hd;have hl4:s.flash.length < 1000000000000:=by omega
 have HP:=Lib.hid (show ∀ b ∈ s.flash,b.pages.length < 1000000000000 from fun b hb=>by rw [hp b hb];omega);have hwl:=zh0 hf hp 2 a (xe s a);have hfin:Hid (ym s a = if jk a = false∨xz s.flash a = false then [] else if wr s.flash 2 a (xe s a) = [] then [] else ⟨1,a,xe s a,0,rc0⟩ :: wr s.flash 2 a (xe s a)):=rfl;have hin:Hid ((decide (1 ≤ a) && decide (a ≤ 6)) = jk a):=rfl;clear hf hp hm hd
 go_enter Tryz.func85,Tryz.ntmps85
 go_wp2_with fail
 refine (kw _ _ _ _).mono ?_;rintro e w1 ⟨rfl,rfl⟩;rw [hin.out];by_cases ha:jk a = true
 . have ha1:1 ≤ a∧a ≤ 6:=by unfold jk at ha;simpa using ha
   rw [ha];obtain ⟨ha1,ha2⟩:=ha1;go_wp2_with fail
   refine (zbh _ s.flash a A D c 6 d _ HL.out.symm hl4 HP.out (hF.alloc _)).mono ?_;rintro e w1 ⟨rfl,hb⟩;have hB:Below w.heap.size w w1:=Below.trans bw (hb.mono (by simp));have hz:w.heap.size < w1.heap.size:=by have:=hb.size;simp at this;omega
   obtain ⟨hc,hfz⟩:=qv hb;have x0:w1.cell? ⟨w.heap.size,0,none⟩ = some (.slice A 4 c):=(hc _ _ (by simp)).trans (by simp);have x1:w1.cell? ⟨w.heap.size,1,none⟩ = some (.slice D 6 d):=(hc _ _ (by simp)).trans (by simp);clear hb hc hfz;by_cases hdy:xz s.flash a = true
   . rw [hdy];go_wp2_with fail
     refine (zc8 _ s a A D c d _ HL.out.symm hl4 HP.out HD.out ha1 ha2 (hF.below hB nl) (hD.below hB nl)).mono ?_;rintro e w2 ⟨rfl,hb⟩;have hB2:=hB.trans (hb.mono hB.size);have hz2:=hb.size;replace x0:=(hb.cell (p:=⟨w.heap.size,0,none⟩) hz).trans x0;replace x1:=(hb.cell (p:=⟨w.heap.size,1,none⟩) hz).trans x1;clear hB hb;generalize xe s a = val at *;go_wp2_with fail
     refine (qn s.flash 2 a val A D c 6 d _ HL.out HP4.out HM.out (hF.below hB2 nl)).mono ?_;rintro e w3 ⟨v,rfl,hO,hb⟩;have hB3:=hB2.trans (hb.mono hB2.size);have hz3:=hb.size;have h3:Hid (ym s a = if wr s.flash 2 a val = [] then [] else ⟨1,a,val,0,rc0⟩ :: wr s.flash 2 a val):=by
      rw [Hid,hfin.out,if_neg (by rw [ha,hdy];simp)]
     generalize wr s.flash 2 a val = xs at *;obtain ⟨A2,c2,rfl,hcap,hRow,hblk⟩:=hO.shape;clear hfin hb hB2 x0 x1;by_cases hx:xs = []
     . subst hx;have h4:Hid (ym s a = []):=by rw [Hid,h3.out,if_pos rfl]
       go_wp2;go_ret;rw [h4.out];exact ⟨_,rfl,hO.mono (by omega),hB3⟩
     have h4:Hid (ym s a = [⟨1,a,val,0,rc0⟩] ++ xs):=by rw [Hid,h3.out,if_neg hx];rfl
     have hlen:0 < xs.length:=List.length_pos_iff.2 hx;have hle:((xs.length:Int) == 0) = false:=by rw [beq_eq_false_iff_ne];omega
     obtain ⟨g2,o2,rfl⟩:=hRow.addr (by intro e;have:=Jw xs;rw [e] at this;simp at this;omega);have hlit:OwnS (w3.alloc (.cells #[.int .i64 1, .int .i64 a, .int .i64 val, .int .i64 0, .int .i64 0, .int .i64 0, .int .i64 0, .int .i64 0] 81)) w.heap.size (.slice (some ⟨w3.heap.size,0,none⟩) 1 1) [⟨1,a,val,0,rc0⟩]:=World.ownsRow_lit w3 #[.int .i64 1, .int .i64 a, .int .i64 val, .int .i64 0, .int .i64 0, .int .i64 0, .int .i64 0, .int .i64 0] 1 (by omega) (by unfold maxLen;omega) rfl;clear h3;go_wp2_with (at_builtin;refine wpList_append_lies _ rfl (.tmp 31) (.tmp 32) _ rfl w.heap.size 81 ib _ 8 64 Tryz.underlying39 hib hbz0 hbz1 hbz2 rfl (by omega) (.slice (some ⟨w3.heap.size,0,none⟩) 1 1) 1 (sps [⟨1,a,val,0,rc0⟩]) rfl hlit ⟨g2,o2,none⟩ xs.length c2 (sps xs) rfl (Jw xs) ((hRow.alloc _).news) (zpe xs) hlen (by unfold maxLen;omega) (by omega) (by simp;omega) (w3.heap.size + 1) (by simp) ?_;intro g3 c3 w4 hown2 hgrow2 hat2 hlt2)
     have hbb:Below w3.heap.size w3 w4:=((Below.refl _ _).alloc (by omega) _).grown hgrow2 (by simp) (by intro q e;cases e;exact Nat.le_refl _);have hOS:=OwnS.onto (xs:=[⟨1,a,val,0,rc0⟩]) rfl hown2;go_ret;rw [h4.out];exact ⟨_,rfl,hOS,hB3.trans (hbb.mono (by omega))⟩
   have hdy':xz s.flash a = false:=by simpa using hdy
   have h3:Hid (ym s a = []):=by rw [Hid,hfin.out,if_pos (.inr hdy')]
   rw [hdy'];go_wp2;go_ret;rw [h3.out];exact ⟨_,rfl,OwnS.nil _ _ (by omega),bw⟩
 have ha':jk a = false:=by simpa using ha
 have h3:Hid (ym s a = []):=by rw [Hid,hfin.out,if_pos (.inl ha')]
 rw [ha'];go_wp2;go_ret;rw [h3.out];refine ⟨_,rfl, ?_,bw⟩;have:=OwnS.nil (w.alloc (.cells #[.slice A 4 c, .slice D 6 d] 28)) w.heap.size (by simp);simp only [World.size_alloc] at this;exact this
theorem zex (s:St) (a:Int) (A D:Option Addr) (c d:Nat) (w:World) (hf:s.flash.length = 4) (hp:∀ b ∈ s.flash,b.pages.length = 4) (hm:∀ b ∈ s.flash,most b < 1000000000000) (hd:s.disk.length = 6) (hF:Fl w A s.flash) (hD:Row w D (ints s.disk)) :
 Calls Tryz.prog 87 #[.agg #[.slice A 4 c, .slice D 6 d], .int .i64 a] w fun e w'=>∃ v,e = .returned v∧OwnS w' w.heap.size v (fill s a)∧Below w.heap.size w w':=by
 have HL:=Lib.hid hf;have HP4:=Lib.hid hp;have HM:=Lib.hid hm;have hl4:s.flash.length < 1000000000000:=by omega
 have HP:=Lib.hid (show ∀ b ∈ s.flash,b.pages.length < 1000000000000 from fun b hb=>by rw [hp b hb];omega);have hin:Hid ((decide (1 ≤ a) && decide (a ≤ 6)) = jk a):=rfl;have hnil:OwnS ((w.alloc (.cells #[.slice A 4 c, .slice D 6 d] 28)).alloc (.cells #[] 81)) w.heap.size (.slice (some ⟨w.heap.size + 1,0,none⟩) 0 0) []:=by
  have:=OwnS.nil (w.alloc (.cells #[.slice A 4 c, .slice D 6 d] 28)) w.heap.size (by simp);simp only [World.size_alloc] at this;exact this
 have hfin:Hid (fill s a = if jk a = false∨0 < (last s.flash a).seq then [] else wr s.flash 2 a (s.disk.getD (a - 1).toNat 0)):=rfl;clear hf hp hm;by_cases ha:jk a = true
 . have ha1:1 ≤ a∧a ≤ 6:=by unfold jk at ha;simpa using ha
   obtain ⟨ha1,ha2⟩:=ha1;obtain ⟨i,rfl⟩:∃ i:Nat,a = i + 1:=⟨(a - 1).toNat,by omega⟩;have hi:i < 6:=by omega
   obtain ⟨v,hv⟩:=zc (l:=s.disk) (k:=i) (by omega);have hgd:s.disk.getD ((i:Int) + 1 - 1).toNat 0 = v:=by rw [show ((i:Int) + 1 - 1).toNat = i by omega,List.getD_eq_getElem?_getD,hv];rfl
   rw [hgd] at hfin;have hn1:ints s.disk ≠ []:=by
    intro e;have:=congrArg List.length e;rw [yj,hd] at this;simp at this
   obtain ⟨db,dO,rfl⟩:=hD.addr hn1;have hi6:(i:Int) < 6:=by omega
   have HV:=Lib.hid hv;clear hv hgd hn1 hd hnil
   go_enter Tryz.func87,Tryz.ntmps87
   go_wp2_with fail
   refine (kw _ _ _ _).mono ?_;rintro e w1 ⟨rfl,rfl⟩;rw [hin.out,ha];go_wp2_with fail
   refine (zeu _ s.flash (i + 1) A c _ HL.out.symm hl4 HP.out (hF.alloc _)).mono ?_;rintro e w1 ⟨rfl,hb⟩;have hB:Below w.heap.size w w1:=Below.trans bw (hb.mono (by simp));have hz:w.heap.size < w1.heap.size:=by have:=hb.size;simp at this;omega
   obtain ⟨hc,hfz⟩:=qv hb;have x0:w1.cell? ⟨w.heap.size,0,none⟩ = some (.slice A 4 c):=(hc _ _ (by simp)).trans (by simp);have x1:w1.cell? ⟨w.heap.size,1,none⟩ = some (.slice (some ⟨db,dO,none⟩) 6 d):=(hc _ _ (by simp)).trans (by simp);obtain ⟨hcv,_⟩:=(hD.below hB nl).int_ HV.out;have hdb:=zd hcv;have hFz:=hF.below hB nl;clear hb hc hfz;generalize last s.flash (i + 1) = x at *;by_cases h1:0 < x.seq
   . have h3:Hid (fill s (i + 1) = []):=by rw [Hid,hfin.out,if_pos (.inr h1)]
     go_wp2;go_ret;rw [h3.out];refine ⟨_,rfl, ?_,bw⟩;have:=OwnS.nil (w1.alloc (.cells #[.int .i64 x.kind, .int .i64 x.seq, .int .i64 x.addr, .int .i64 x.val] 64)) w.heap.size (by simp;omega);simp only [World.size_alloc] at this;exact this
   have h3:Hid (fill s (i + 1) = wr s.flash 2 (i + 1) v):=by
    rw [Hid,hfin.out,if_neg (by intro h;rcases h with h | h;rw [ha] at h;cases h;exact h1 h)]
   have e1:IntKind.i64.wrap ((i:Int) + 1 - 1) = i:=by rw [show (i:Int) + 1 - 1 = i by omega];exact IntWalk.i64_in _ (by omega)
   have e2:IntKind.i64.wrap (i:Int) = i:=IntWalk.i64_in _ (by omega);have e3:(i:Int) + 1 - 1 = i:=by omega
   have e4:(0:Int) ≤ i:=by omega
   clear hfin;go_wp2
   go_region_with (first | (go_at_call 38;with_reducible refine (qn s.flash 2 (i + 1) v A (some ⟨db,dO,none⟩) c 6 d _ HL.out HP4.out HM.out (Fl.drew' (hFz.alloc _))).mono ?_;rintro e w2 ⟨u,rfl,hO,hb2⟩))
   all_goals
    have hle:w.heap.size ≤ (w1.alloc (.cells #[.int .i64 x.kind, .int .i64 x.seq, .int .i64 x.addr, .int .i64 x.val] 64)).drew.heap.size:=by show w.heap.size ≤ (w1.alloc _).heap.size;simp;omega
    have hB2:Below w.heap.size w w2:=((hB.alloc hB.size _).drew).trans (hb2.mono hle);clear hb2;go_wp2;go_ret;rw [h3.out];exact ⟨_,rfl,hO.mono hle,hB2⟩
 have ha':jk a = false:=by simpa using ha
 have h3:Hid (fill s a = []):=by rw [Hid,hfin.out,if_pos (.inl ha')]
 go_enter Tryz.func87,Tryz.ntmps87
 go_wp2_with fail
 refine (kw _ _ _ _).mono ?_;rintro e w1 ⟨rfl,rfl⟩;rw [hin.out,ha'];go_wp2;go_ret;rw [h3.out];exact ⟨_,rfl,hnil,bw⟩
end
section
open Go.RowKit Go.Maps
end
section
open Go.RowKit Go.Maps
end
section
open Go.RowKit Go.Maps
end
section
open Go.RowKit Go.Maps
theorem OFl.far {w w':World} {lo hi lo' hi':Nat} {A:Option Addr} {f:List Bk} (h:OFl w lo hi A f) (ha:Agr (fun b=>lo' ≤ b∧b < hi') w w') (hd:hi ≤ lo'∨hi' ≤ lo):OFl w' lo hi A f :=
 h.agr ha fun b h1 h2 h3=>by omega
end
section
open Go.RowKit Go.Maps
def OSt (w:World) (lo hi:Nat) (A:Option Addr) (f:List Bk) (D:Option Addr) (xs:List Int):Prop :=
 ∃ hs,Bks w A f hs∧Apt lo hi A hs∧Row w D (ints xs)∧∀ b,blk D b->lo ≤ b∧b < hi∧¬ blk A b∧∀ (i:Nat) (x:Option Addr × Nat),hs[i]? = some x->¬ blk x.1 b
theorem OSt.keep {w w':World} {lo hi:Nat} {A D:Option Addr} {f:List Bk} {xs:List Int} (h:OSt w lo hi A f D xs) (hk:∀ b,lo ≤ b->b < hi->b < w.heap.size->w'.heap[b]? = w.heap[b]?):OSt w' lo hi A f D xs:=by
 obtain ⟨hs,h1,h2,h3,h4⟩:=h;refine ⟨hs,h1.keep fun b hb hl=>?_,h2,h3.keep fun b hb hl=>hk b (h4 b hb).1 (h4 b hb).2.1 hl,h4⟩;rcases hb with hb | ⟨x,hx,hb⟩
 . have:=h2.top b hb;exact hk b this.1 this.2 hl
 obtain ⟨i,hi'⟩:=List.getElem?_of_mem hx;have:=h2.in_ i x b hi' hb;exact hk b this.1 this.2.1 hl
theorem OSt.below {w w':World} {lo hi B:Nat} {A D:Option Addr} {f:List Bk} {xs:List Int} (h:OSt w lo hi A f D xs) (hb:Below B w w') (hB:w.heap.size ≤ B):OSt w' lo hi A f D xs:=h.keep fun b _ _ hl=>hb.block b (by omega)
theorem OSt.far {w w':World} {lo hi lo' hi':Nat} {A D:Option Addr} {f:List Bk} {xs:List Int} (h:OSt w lo hi A f D xs) (ha:Agr (fun b=>lo' ≤ b∧b < hi') w w') (hd:hi ≤ lo'∨hi' ≤ lo):OSt w' lo hi A f D xs :=
 h.keep fun b h1 h2 hl=>ha.block b hl (by omega)
theorem OSt.ofl {w:World} {lo hi:Nat} {A D:Option Addr} {f:List Bk} {xs:List Int} (h:OSt w lo hi A f D xs):OFl w lo hi A f:=by obtain ⟨hs,h1,h2,_⟩:=h;exact ⟨hs,h1,h2⟩
theorem OSt.disk {w:World} {lo hi:Nat} {A D:Option Addr} {f:List Bk} {xs:List Int} (h:OSt w lo hi A f D xs):Row w D (ints xs):=by obtain ⟨hs,_,_,h3,_⟩:=h;exact h3
theorem OSt.mono {w:World} {lo hi lo' hi':Nat} {A D:Option Addr} {f:List Bk} {xs:List Int} (h:OSt w lo hi A f D xs) (h1:lo' ≤ lo) (h2:hi ≤ hi'):OSt w lo' hi' A f D xs:=by
 obtain ⟨hs,a,b,c,d⟩:=h;exact ⟨hs,a,b.mono h1 h2,c,fun x hx=>by have:=d x hx;exact ⟨by omega,by omega,this.2.2⟩⟩
theorem OSt.mk' {w:World} {lo hi lf hf d o:Nat} {A:Option Addr} {f:List Bk} {xs:List Int} (h:OFl w lf hf A f) (hr:Row w (some ⟨d,o,none⟩) (ints xs)) (h1:lo ≤ lf) (h2:hf ≤ hi) (h3:lo ≤ d) (h4:d < hi) (h5:d < lf∨hf ≤ d):OSt w lo hi A f (some ⟨d,o,none⟩) xs:=by
 obtain ⟨hs,a,b⟩:=h;refine ⟨hs,a,b.mono h1 h2,hr,fun x hx=>?_⟩;rw [zf] at hx;subst hx;exact ⟨h3,h4,fun e=>by have:=b.top d e;omega,fun i y hy e=>by have:=b.in_ i y d hy e;omega⟩
theorem zah (w:World):(Instr.makeSlice 26 (.int .i64 6) (.int .i64 6)).run Tryz.prog w = .ok (.slice (some ⟨w.heap.size,0,none⟩) 6 6) (w.alloc (.cells #[.int .i64 0, .int .i64 0, .int .i64 0, .int .i64 0, .int .i64 0, .int .i64 0] 3)):=by kernel_rfl
def Qh:List Int:=[0,0,0,0,0,0]
def zm5 (w:World) (e:Ending) (w':World):Prop :=
 ∃ A c D,e = .returned (.agg #[.slice A 4 c, .slice D 6 6])∧4 ≤ c∧OSt w' w.heap.size w'.heap.size A xp D Qh∧Below w.heap.size w w'
theorem zda (w:World):Calls Tryz.prog 26 #[] w (zm5 w):=by
 have hmk:=zah
 go_enter Tryz.func26,Tryz.ntmps26
 go_wp2_with fail
 go_region_with (first | (go_at_call 46;refine (zdc _).mono ?_;rintro e w1 ⟨g,c,rfl,hc,hO,hb⟩;have r0:w1.cell? ⟨w.heap.size,0,none⟩ = some (.slice none 0 0):=(hb.cell (p:=⟨w.heap.size,0,none⟩) (by simp <;> omega)).trans (by simp);have r1:w1.cell? ⟨w.heap.size,1,none⟩ = some (.slice none 0 0):=(hb.cell (p:=⟨w.heap.size,1,none⟩) (by simp <;> omega)).trans (by simp);have r2:w1.frozen? ⟨w.heap.size,0,none⟩ = false:=(hb.frozen (p:=⟨w.heap.size,0,none⟩) (by simp <;> omega)).trans (by simp);have r3:w1.frozen? ⟨w.heap.size,1,none⟩ = false:=(hb.frozen (p:=⟨w.heap.size,1,none⟩) (by simp <;> omega)).trans (by simp);have hz:w.heap.size < w1.heap.size:=by have:=hb.size;simp at this;omega))
 . -- the flash first
   have hB:Below w.heap.size w w1:=Below.trans bw (hb.mono (by simp <;> omega))
   have hO2:OFl w1 (w.heap.size + 1) w1.heap.size (some ⟨g,0,none⟩) xp:=hO.mono (by simp <;> omega) nl
   clear hO hb;go_wp2;refine bodyPost_ret (v:=.agg #[.slice (some ⟨g,0,none⟩) 4 c, .slice (some ⟨w1.heap.size,0,none⟩) 6 6]) (by simp [results,Tryz.results26,go_sem,hz,r0,r1]) rfl ⟨_,_,_,rfl,hc, ?_, ?_⟩
   . refine OSt.mk' (lf:=w.heap.size + 1) (hf:=w1.heap.size) (hO2.keep fun d h1 h2 hl=>?_) ?_ (by omega) (by simp) (by omega) (by simp) (.inr nl)
     . rw [Below.heap_alloc _ _ _ (by simpa using hl),Below.heap_setCell _ _ _ _ (by simp;omega),Below.heap_setCell _ _ _ _ (by simp;omega)]
     have:=Row.new ((w1.setCell ⟨w.heap.size,0,none⟩ (.slice (some ⟨g,0,none⟩) 4 c)).setCell ⟨w.heap.size,1,none⟩ (.slice (some ⟨w1.heap.size,0,none⟩) 6 6)) #[.int .i64 0, .int .i64 0, .int .i64 0, .int .i64 0, .int .i64 0, .int .i64 0] 3;simp only [World.size_setCell] at this;exact this
   . exact bw
 -- the numbers first
 have hB:Below w.heap.size w w1:=Below.trans bw (hb.mono (by simp <;> omega))
 have hO2:OFl w1 (w.heap.size + 1 + 1) w1.heap.size (some ⟨g,0,none⟩) xp:=hO.mono (by simp <;> omega) nl
 have hD:Row w1 (some ⟨w.heap.size + 1,0,none⟩) (ints Qh):=by
  have:=Row.new (w.alloc (.cells #[.slice none 0 0, .slice none 0 0] 28)) #[.int .i64 0, .int .i64 0, .int .i64 0, .int .i64 0, .int .i64 0, .int .i64 0] 3;simp only [World.size_alloc] at this;exact (Row.drew this).below hb nl
 have hz2:w.heap.size + 1 < w1.heap.size:=by have:=hb.size;simp at this;omega
 clear hO hb;go_wp2;refine bodyPost_ret (v:=.agg #[.slice (some ⟨g,0,none⟩) 4 c, .slice (some ⟨w.heap.size + 1,0,none⟩) 6 6]) (by simp [results,Tryz.results26,go_sem,hz,r0,r1]) rfl ⟨_,_,_,rfl,hc, ?_, ?_⟩
 . refine OSt.mk' (lf:=w.heap.size + 1 + 1) (hf:=w1.heap.size) (hO2.keep fun d h1 h2 hl=>?_) (hD.keep fun d hd hl=>?_) (by omega) (by simp) (by omega) (by simpa using hz2) (.inl (by omega))
   . rw [Below.heap_setCell _ _ _ _ (by simp;omega),Below.heap_setCell _ _ _ _ (by simp;omega)]
   rw [zf] at hd;rw [Below.heap_setCell _ _ _ _ (by simp;omega),Below.heap_setCell _ _ _ _ (by simp;omega)]
 exact bw
end
section
open Go.RowKit Go.Maps
theorem zc7 (s:St) (e:Ev) (A D:Option Addr) (c d:Nat) (w:World) (hf:s.flash.length = 4) (hp:∀ b ∈ s.flash,b.pages.length = 4) (hm:∀ b ∈ s.flash,most b < 1000000000000) (hd:s.disk.length = 6) (hF:Fl w A s.flash) (hD:Row w D (ints s.disk)) :
 Calls Tryz.prog 49 #[.agg #[.slice A 4 c, .slice D 6 d], .agg #[.int .i64 e.kind, .int .i64 e.a, .int .i64 e.b, .int .i64 e.c, .bool e.torn]] w fun r w'=>∃ v,r = .returned v∧OwnS w' w.heap.size v (z9 s e)∧Below w.heap.size w w':=by
 obtain ⟨k,a,b,cc,t⟩:=e;dsimp only;have HL:=Lib.hid hf;have HP4:=Lib.hid hp;have HM:=Lib.hid hm;have HD:=Lib.hid hd;have hB:Below w.heap.size w ((w.alloc (.cells #[.slice A 4 c, .slice D 6 d] 28)).alloc (.cells #[.int .i64 k, .int .i64 a, .int .i64 b, .int .i64 cc, .bool t] 33)):=bw;have hFz:=(hF.alloc (.cells #[.slice A 4 c, .slice D 6 d] 28)).alloc (.cells #[.int .i64 k, .int .i64 a, .int .i64 b, .int .i64 cc, .bool t] 33);have hDz:=(hD.alloc (.cells #[.slice A 4 c, .slice D 6 d] 28)).alloc (.cells #[.int .i64 k, .int .i64 a, .int .i64 b, .int .i64 cc, .bool t] 33);have hfin:Hid (z9 s ⟨k,a,b,cc,t⟩ = if k = 1 then wr s.flash 1 a b else if k = 2 then ym s a else if k = 3 then fill s a else []):=rfl;clear hf hp hm hd;by_cases h1:k = 1
 . subst h1;have h3:Hid (z9 s ⟨1,a,b,cc,t⟩ = wr s.flash 1 a b):=by rw [Hid,hfin.out,if_pos rfl]
   go_enter Tryz.func49,Tryz.ntmps49
   go_wp2_with fail
   refine (qn s.flash 1 a b A D c 6 d _ HL.out HP4.out HM.out hFz).mono ?_;rintro e w1 ⟨v,rfl,hO,hb⟩;go_wp2;go_ret;rw [h3.out];exact ⟨_,rfl,hO.mono (by simp;omega),hB.trans (hb.mono (by simp;omega))⟩
 by_cases h2:k = 2
 . subst h2;have h3:Hid (z9 s ⟨2,a,b,cc,t⟩ = ym s a):=by rw [Hid,hfin.out,if_neg h1,if_pos rfl]
   go_enter Tryz.func49,Tryz.ntmps49
   go_wp2_with fail
   refine (Jg s a A D c d _ HL.out HP4.out HM.out HD.out hFz hDz).mono ?_;rintro e w1 ⟨v,rfl,hO,hb⟩;go_wp2;go_ret;rw [h3.out];exact ⟨_,rfl,hO.mono (by simp;omega),hB.trans (hb.mono (by simp;omega))⟩
 by_cases h4:k = 3
 . subst h4;have h3:Hid (z9 s ⟨3,a,b,cc,t⟩ = fill s a):=by rw [Hid,hfin.out,if_neg h1,if_neg h2,if_pos rfl]
   go_enter Tryz.func49,Tryz.ntmps49
   go_wp2_with fail
   refine (zex s a A D c d _ HL.out HP4.out HM.out HD.out hFz hDz).mono ?_;rintro e w1 ⟨v,rfl,hO,hb⟩;go_wp2;go_ret;rw [h3.out];exact ⟨_,rfl,hO.mono (by simp;omega),hB.trans (hb.mono (by simp;omega))⟩
 have h3:Hid (z9 s ⟨k,a,b,cc,t⟩ = []):=by rw [Hid,hfin.out,if_neg h1,if_neg h2,if_neg h4]
 have e1:(k == 1) = false:=by simp [h1]
 have e2:(k == 2) = false:=by simp [h2]
 have e3:(k == 3) = false:=by simp [h4]
 have hO:=OwnS.nil ((w.alloc (.cells #[.slice A 4 c, .slice D 6 d] 28)).alloc (.cells #[.int .i64 k, .int .i64 a, .int .i64 b, .int .i64 cc, .bool t] 33)) w.heap.size (by simp;omega);simp only [World.size_alloc] at hO
 go_enter Tryz.func49,Tryz.ntmps49
 go_wp2;go_ret;rw [h3.out];exact ⟨_,rfl,hO,hB.alloc hB.size _⟩
end
section
open Go.RowKit Go.Maps
theorem OSt.alloc' {w:World} {lo hi:Nat} {A D:Option Addr} {f:List Bk} {xs:List Int} (h:OSt w lo hi A f D xs) (o:Obj):OSt (w.alloc o) lo hi A f D xs:=h.below (B:=w.heap.size) ((Below.refl _ _).alloc nl _) nl
theorem zkc {w:World} {a b c:Obj} {i:Nat} {u:Option Value} (h:(w.alloc a).cell? ⟨w.heap.size,i,none⟩ = u):(((w.alloc a).alloc b).alloc c).cell? ⟨w.heap.size,i,none⟩ = u :=
 ((((Below.refl (w.heap.size + 1) (w.alloc a)).alloc (by simp) b).alloc (by simp) c).cell (p:=⟨w.heap.size,i,none⟩) (by show w.heap.size < _;omega)).trans h
theorem fz3 {w:World} {a b c:Obj} {i:Nat} {u:Bool} (h:(w.alloc a).frozen? ⟨w.heap.size,i,none⟩ = u):(((w.alloc a).alloc b).alloc c).frozen? ⟨w.heap.size,i,none⟩ = u :=
 ((((Below.refl (w.heap.size + 1) (w.alloc a)).alloc (by simp) b).alloc (by simp) c).frozen (p:=⟨w.heap.size,i,none⟩) (by show w.heap.size < _;omega)).trans h
theorem top3 (w:World) (a b:Obj) (cs:Array Value) (t:TypeId):Row (((w.alloc a).alloc b).alloc (.cells cs t)) (some ⟨w.heap.size + 1 + 1,0,none⟩) cs.toList:=by
 have:=Row.new ((w.alloc a).alloc b) cs t;simp only [World.size_alloc] at this;exact this
theorem Row.at0 {w:World} {b:Nat} {vs:List Value} {j:Nat} {u:Value} (h:Row w (some ⟨b,0,none⟩) vs) (hj:vs[j]? = some u):w.cell? ⟨b,j,none⟩ = some u∧w.frozen? ⟨b,j,none⟩ = false:=by
 obtain ⟨b',o',he,hc⟩:=h (by rintro rfl;simp at hj);cases he;have:=hc j u hj
 rwa [Nat.zero_add] at this
theorem zpg {xs:List Int} (h:xs.length = 6):ints xs ≠ []:=by
 intro e;have:=congrArg List.length e;rw [yj,h] at this;simp at this
theorem zbz (s:St) (x:Sp) (torn:Bool) (A D:Option Addr) (c d lo hi:Nat) (w:World) (hs:xq s) (hx:Xu x) (hhi:hi ≤ w.heap.size) (hO:OSt w lo hi A s.flash D s.disk) :
 Calls Tryz.prog 86 #[.agg #[.slice A 4 c, .slice D 6 d], .agg #[.int .i64 x.kind, .int .i64 x.addr, .int .i64 x.val, .int .i64 x.block, .int .i64 x.rc.kind, .int .i64 x.rc.seq, .int .i64 x.rc.addr, .int .i64 x.rc.val], .bool torn] w fun r w' =>
  r = .returned (.agg #[.slice A 4 c, .slice D 6 d])∧OSt w' lo hi A (z5 s x torn).flash D (z5 s x torn).disk∧Agr (fun b=>lo ≤ b∧b < hi) w w':=by
 obtain ⟨k,a,v,b,rc⟩:=x;dsimp only;have hfin:Hid (z5 s ⟨k,a,v,b,rc⟩ torn = if k = 1 then (if torn then s else { s with disk:=s.disk.set (a - 1).toNat v }) else if k = 2 then { s with flash:=(yg s.flash b.toNat torn).1 } else if k = 3 then { s with flash:=(x8 s.flash b.toNat rc torn).1 } else s):=rfl;obtain ⟨hsf,hsd,hsv⟩:=hs;obtain ⟨hx1,hx2,hx3⟩:=hx;dsimp only at hx1 hx2 hx3;have hOS:=Lib.hid hO;obtain ⟨hs,hBk,hApt,hR,hdj⟩:=hO;have HDJ:=Lib.hid hdj;obtain ⟨db,dO,rfl⟩:=hR.addr (zpg hsd);have hdb:=HDJ.out db (zf.2 rfl);by_cases h1:k = 1
 . subst h1;obtain ⟨ha1,ha2,hv1,hv2⟩:=hx1 rfl;obtain ⟨i,rfl⟩:∃ i:Nat,a = i + 1:=⟨(a - 1).toNat,by omega⟩;have hi6:i < 6:=by omega
   have hi6':(i:Int) < 6:=by omega
   cases torn
   . have h3:Hid (z5 s ⟨1,i + 1,v,b,rc⟩ false = { s with disk:=s.disk.set i v }):=by rw [Hid,hfin.out,if_pos rfl,show ((i:Int) + 1 - 1).toNat = i by omega];rfl
     obtain ⟨u,hu⟩:=zc (l:=s.disk) (k:=i) (by omega);obtain ⟨c0,f0⟩:=hR.int_ hu;have hlt:=zd c0;have hW:=zq c0 (.int .i64 v);have hR2:Row (w.setCell ⟨db,dO + i,none⟩ (.int .i64 v)) (some ⟨db,dO,none⟩) (ints (s.disk.set i v)):=by
      rw [Qp];exact hW.row hR (by rw [yj];simp;omega)
     have hO2:OSt (w.setCell ⟨db,dO + i,none⟩ (.int .i64 v)) lo hi A s.flash (some ⟨db,dO,none⟩) (s.disk.set i v) :=
      ⟨hs,hBk.keep fun y hy hl=>hW.agr.block y hl (by
       rintro rfl;rcases hy with hy | ⟨z,hz,hy⟩
       . exact hdb.2.2.1 hy
       obtain ⟨j,hj⟩:=List.getElem?_of_mem hz;exact hdb.2.2.2 j z hj hy),hApt,hR2,HDJ.out⟩
     have hA2:Agr (fun y=>lo ≤ y∧y < hi) w (w.setCell ⟨db,dO + i,none⟩ (.int .i64 v)):=hW.agr.mono fun y e=>by rw [e];exact ⟨hdb.1,hdb.2.1⟩
     have e1:IntKind.i64.wrap ((i:Int) + 1 - 1) = i:=by rw [show (i:Int) + 1 - 1 = i by omega];exact IntWalk.i64_in _ (by omega)
     have e2:IntKind.i64.wrap (i:Int) = i:=IntWalk.i64_in _ (by omega);have HU:=Lib.hid hu;have m1:db < w.heap.size + 1:=by omega
     have m2:db < w.heap.size + 1 + 1:=by omega
     have n0:db ≠ w.heap.size:=by omega
     have n0':w.heap.size ≠ db:=by omega
     have n1:db ≠ w.heap.size + 1:=by omega
     have n1':w.heap.size + 1 ≠ db:=by omega
     have n2:db ≠ w.heap.size + 1 + 1:=by omega
     have n2':w.heap.size + 1 + 1 ≠ db:=by omega
     clear hu hW hsf hsd hsv hfin hdj
     go_enter Tryz.func86,Tryz.ntmps86
     go_wp2;refine bodyPost_ret (v:=.agg #[.slice A 4 c, .slice (some ⟨db,dO,none⟩) 6 d]) (by simp [results,Tryz.results86,go_sem]) rfl ⟨rfl, ?_, ?_⟩
     . rw [h3.out];exact ((hO2.alloc' _).alloc' _).alloc' _
     exact ((hA2.alloc _).alloc _).alloc _
   have h3:Hid (z5 s ⟨1,i + 1,v,b,rc⟩ true = s):=by rw [Hid,hfin.out,if_pos rfl];rfl
   clear hsf hsd hsv hfin hdj
   go_enter Tryz.func86,Tryz.ntmps86
   go_wp2;refine bodyPost_ret (v:=.agg #[.slice A 4 c, .slice (some ⟨db,dO,none⟩) 6 d]) (by simp [results,Tryz.results86,go_sem]) rfl ⟨rfl, ?_, ?_⟩
   . rw [h3.out];exact ((hOS.out.alloc' _).alloc' _).alloc' _
   exact (((Agr.refl _ _).alloc _).alloc _).alloc _
 have hi4s:∀ y ∈ s.flash,y.pages.length = 4∧0 ≤ y.worn∧y.worn ≤ 200:=fun y hy=>⟨(hsf.2 y hy).1,(hsf.2 y hy).2.1,(hsf.2 y hy).2.2.1⟩;have hi4p:∀ y ∈ s.flash,y.pages.length = 4:=fun y hy=>(hsf.2 y hy).1;have HS4:=Lib.hid hi4s;have HP4:=Lib.hid hi4p;clear hi4s hi4p;by_cases h2:k = 2
 . subst h2;have hb:=hx2 (.inl rfl);obtain ⟨hb1,hb2⟩:=hb;obtain ⟨i,rfl⟩:=Int.eq_ofNat_of_zero_le hb1;have hi4:i < 4:=by omega
   obtain ⟨g,o,rfl⟩:=hBk.addr (by intro e;have:=hsf.1;rw [e] at this;simp at this);have h3:Hid (z5 s ⟨2,a,v,i,rc⟩ torn = { s with flash:=(yg s.flash i torn).1 }):=by
    rw [Hid,hfin.out,if_neg (by omega),if_pos rfl,Int.toNat_natCast]
   obtain ⟨W,hW⟩:∃ W,W = ((w.alloc (.cells #[.slice (some ⟨g,o,none⟩) 4 c, .slice (some ⟨db,dO,none⟩) 6 d] 28)).alloc (.cells #[.int .i64 2, .int .i64 a, .int .i64 v, .int .i64 i, .int .i64 rc.kind, .int .i64 rc.seq, .int .i64 rc.addr, .int .i64 rc.val] 81)).alloc (.cells #[.slice none 0 0, .slice none 0 0] 28):=⟨_,rfl⟩;have hBkW:Bks W (some ⟨g,o,none⟩) s.flash hs:=by rw [hW];exact ((hBk.alloc _).alloc _).alloc _
   have hRW:Row W (some ⟨db,dO,none⟩) (ints s.disk):=by rw [hW];exact ((hR.alloc _).alloc _).alloc _
   have hAW:Agr (fun y=>lo ≤ y∧y < hi) w W:=by rw [hW];exact (((Agr.refl _ _).alloc _).alloc _).alloc _
   have b0:W.cell? ⟨w.heap.size,0,none⟩ = some (.slice (some ⟨g,o,none⟩) 4 c):=by rw [hW];exact zkc (by simp)
   have b1:W.cell? ⟨w.heap.size,1,none⟩ = some (.slice (some ⟨db,dO,none⟩) 6 d):=by rw [hW];exact zkc (by simp)
   have b2:W.frozen? ⟨w.heap.size,0,none⟩ = false:=by rw [hW];exact fz3 (by simp)
   have q0:W.cell? ⟨w.heap.size + 1 + 1,0,none⟩ = some (.slice none 0 0):=by rw [hW];exact ((top3 w _ _ #[.slice none 0 0, .slice none 0 0] 28).at0 (j:=0) rfl).1
   have q1:W.cell? ⟨w.heap.size + 1 + 1,1,none⟩ = some (.slice none 0 0):=by rw [hW];exact ((top3 w _ _ #[.slice none 0 0, .slice none 0 0] 28).at0 (j:=1) rfl).1
   have q2:W.frozen? ⟨w.heap.size + 1 + 1,0,none⟩ = false:=by rw [hW];exact ((top3 w _ _ #[.slice none 0 0, .slice none 0 0] 28).at0 (j:=0) rfl).2
   have q3:W.frozen? ⟨w.heap.size + 1 + 1,1,none⟩ = false:=by rw [hW];exact ((top3 w _ _ #[.slice none 0 0, .slice none 0 0] 28).at0 (j:=1) rfl).2
   have hWs:W.heap.size = w.heap.size + 1 + 1 + 1:=by rw [hW];simp
   have HW:=Lib.hid hW;have HSF:=Lib.hid hsf;clear hsf hsd hsv hfin hdj hW
   go_enter Tryz.func86,Tryz.ntmps86
   go_wp2_with fail
   rw [← HW.out];refine (zev s.flash i lo hi g o c torn _ HSF.out.1 HS4.out hi4 hs hBkW hApt).mono ?_;rintro e w1 ⟨rfl,hBk1,hA1⟩;have hnot:∀ j,w.heap.size ≤ j->¬ fblk (some ⟨g,o,none⟩) hs j:=fun j hj h=>by have:=hApt.fblk h;omega
   replace b0:=(hA1.cell (by omega) (hnot _ (by omega)) 0).trans b0;replace b1:=(hA1.cell (by omega) (hnot _ (by omega)) 1).trans b1;replace b2:=(hA1.fz (by omega) (hnot _ (by omega)) 0).trans b2;replace q0:=(hA1.cell (by omega) (hnot _ (by omega)) 0).trans q0;replace q1:=(hA1.cell (by omega) (hnot _ (by omega)) 1).trans q1;replace q2:=(hA1.fz (by omega) (hnot _ (by omega)) 0).trans q2;replace q3:=(hA1.fz (by omega) (hnot _ (by omega)) 1).trans q3;have hR1:Row w1 (some ⟨db,dO,none⟩) (ints s.disk):=hRW.agr hA1 fun y hy hS=>by
    rcases hS with h | ⟨j,z,hz,h⟩
    . exact (HDJ.out y hy).2.2.1 h
    exact (HDJ.out y hy).2.2.2 j z hz h
   have hO1:OSt w1 lo hi (some ⟨g,o,none⟩) (yg s.flash i torn).1 (some ⟨db,dO,none⟩) s.disk:=⟨hs,hBk1,hApt,hR1,HDJ.out⟩;have hA2:Agr (fun y=>lo ≤ y∧y < hi) w w1:=hAW.trans hA1 fun y _ hy=>hApt.fblk hy;have hs1:=hA1.size;clear hA1 hBk1 hR1 hRW hBkW hAW hnot;go_wp2;refine bodyPost_ret (v:=.agg #[.slice (some ⟨g,o,none⟩) 4 c, .slice (some ⟨db,dO,none⟩) 6 d]) (by simp [results,Tryz.results86,go_sem,b0,b1,q0,q1]) rfl ⟨rfl, ?_, ?_⟩
   . rw [h3.out];have hbb:Below w.heap.size w1 (((w1.setCell ⟨w.heap.size,0,none⟩ (.slice (some ⟨g,o,none⟩) 4 c)).setCell ⟨w.heap.size + 1 + 1,0,none⟩ (.slice (some ⟨g,o,none⟩) 4 c)).setCell ⟨w.heap.size + 1 + 1,1,none⟩ (.slice (some ⟨db,dO,none⟩) 6 d)):=bw;exact hO1.keep fun y _ h2 _=>hbb.block y (by omega)
   exact ((hA2.setCell (.inl (by simp)) _).setCell (.inl (by show w.heap.size ≤ w.heap.size + 1 + 1;omega)) _).setCell (.inl (by show w.heap.size ≤ w.heap.size + 1 + 1;omega)) _
 by_cases h4:k = 3
 . subst h4;have hb:=hx2 (.inr rfl);obtain ⟨hb1,hb2⟩:=hb;obtain ⟨i,rfl⟩:=Int.eq_ofNat_of_zero_le hb1;have hi4:i < 4:=by omega
   obtain ⟨g,o,rfl⟩:=hBk.addr (by intro e;have:=hsf.1;rw [e] at this;simp at this);have h3:Hid (z5 s ⟨3,a,v,i,rc⟩ torn = { s with flash:=(x8 s.flash i rc torn).1 }):=by
    rw [Hid,hfin.out,if_neg (by omega),if_neg (by omega),if_pos rfl,Int.toNat_natCast]
   obtain ⟨W,hW⟩:∃ W,W = ((w.alloc (.cells #[.slice (some ⟨g,o,none⟩) 4 c, .slice (some ⟨db,dO,none⟩) 6 d] 28)).alloc (.cells #[.int .i64 3, .int .i64 a, .int .i64 v, .int .i64 i, .int .i64 rc.kind, .int .i64 rc.seq, .int .i64 rc.addr, .int .i64 rc.val] 81)).alloc (.cells #[.slice none 0 0, .slice none 0 0] 28):=⟨_,rfl⟩;have hBkW:Bks W (some ⟨g,o,none⟩) s.flash hs:=by rw [hW];exact ((hBk.alloc _).alloc _).alloc _
   have hRW:Row W (some ⟨db,dO,none⟩) (ints s.disk):=by rw [hW];exact ((hR.alloc _).alloc _).alloc _
   have hAW:Agr (fun y=>lo ≤ y∧y < hi) w W:=by rw [hW];exact (((Agr.refl _ _).alloc _).alloc _).alloc _
   have b0:W.cell? ⟨w.heap.size,0,none⟩ = some (.slice (some ⟨g,o,none⟩) 4 c):=by rw [hW];exact zkc (by simp)
   have b1:W.cell? ⟨w.heap.size,1,none⟩ = some (.slice (some ⟨db,dO,none⟩) 6 d):=by rw [hW];exact zkc (by simp)
   have b2:W.frozen? ⟨w.heap.size,0,none⟩ = false:=by rw [hW];exact fz3 (by simp)
   have q0:W.cell? ⟨w.heap.size + 1 + 1,0,none⟩ = some (.slice none 0 0):=by rw [hW];exact ((top3 w _ _ #[.slice none 0 0, .slice none 0 0] 28).at0 (j:=0) rfl).1
   have q1:W.cell? ⟨w.heap.size + 1 + 1,1,none⟩ = some (.slice none 0 0):=by rw [hW];exact ((top3 w _ _ #[.slice none 0 0, .slice none 0 0] 28).at0 (j:=1) rfl).1
   have q2:W.frozen? ⟨w.heap.size + 1 + 1,0,none⟩ = false:=by rw [hW];exact ((top3 w _ _ #[.slice none 0 0, .slice none 0 0] 28).at0 (j:=0) rfl).2
   have q3:W.frozen? ⟨w.heap.size + 1 + 1,1,none⟩ = false:=by rw [hW];exact ((top3 w _ _ #[.slice none 0 0, .slice none 0 0] 28).at0 (j:=1) rfl).2
   have hWs:W.heap.size = w.heap.size + 1 + 1 + 1:=by rw [hW];simp
   have HW:=Lib.hid hW;have HSF:=Lib.hid hsf;clear hsf hsd hsv hfin hdj hW
   go_enter Tryz.func86,Tryz.ntmps86
   go_wp2_with fail
   rw [← HW.out];refine (zc6 s.flash i lo hi g o c rc torn _ HSF.out.1 HP4.out hi4 hs hBkW hApt).mono ?_;rintro e w1 ⟨rfl,hBk1,hA1⟩;have hnot:∀ j,w.heap.size ≤ j->¬ fblk (some ⟨g,o,none⟩) hs j:=fun j hj h=>by have:=hApt.fblk h;omega
   replace b0:=(hA1.cell (by omega) (hnot _ (by omega)) 0).trans b0;replace b1:=(hA1.cell (by omega) (hnot _ (by omega)) 1).trans b1;replace b2:=(hA1.fz (by omega) (hnot _ (by omega)) 0).trans b2;replace q0:=(hA1.cell (by omega) (hnot _ (by omega)) 0).trans q0;replace q1:=(hA1.cell (by omega) (hnot _ (by omega)) 1).trans q1;replace q2:=(hA1.fz (by omega) (hnot _ (by omega)) 0).trans q2;replace q3:=(hA1.fz (by omega) (hnot _ (by omega)) 1).trans q3;have hR1:Row w1 (some ⟨db,dO,none⟩) (ints s.disk):=hRW.agr hA1 fun y hy hS=>by
    rcases hS with h | ⟨j,z,hz,h⟩
    . exact (HDJ.out y hy).2.2.1 h
    exact (HDJ.out y hy).2.2.2 j z hz h
   have hO1:OSt w1 lo hi (some ⟨g,o,none⟩) (x8 s.flash i rc torn).1 (some ⟨db,dO,none⟩) s.disk:=⟨hs,hBk1,hApt,hR1,HDJ.out⟩;have hA2:Agr (fun y=>lo ≤ y∧y < hi) w w1:=hAW.trans hA1 fun y _ hy=>hApt.fblk hy;have hs1:=hA1.size;clear hA1 hBk1 hR1 hRW hBkW hAW hnot;go_wp2;refine bodyPost_ret (v:=.agg #[.slice (some ⟨g,o,none⟩) 4 c, .slice (some ⟨db,dO,none⟩) 6 d]) (by simp [results,Tryz.results86,go_sem,b0,b1,q0,q1]) rfl ⟨rfl, ?_, ?_⟩
   . rw [h3.out];have hbb:Below w.heap.size w1 (((w1.setCell ⟨w.heap.size,0,none⟩ (.slice (some ⟨g,o,none⟩) 4 c)).setCell ⟨w.heap.size + 1 + 1,0,none⟩ (.slice (some ⟨g,o,none⟩) 4 c)).setCell ⟨w.heap.size + 1 + 1,1,none⟩ (.slice (some ⟨db,dO,none⟩) 6 d)):=bw;exact hO1.keep fun y _ h2 _=>hbb.block y (by omega)
   exact ((hA2.setCell (.inl (by simp)) _).setCell (.inl (by show w.heap.size ≤ w.heap.size + 1 + 1;omega)) _).setCell (.inl (by show w.heap.size ≤ w.heap.size + 1 + 1;omega)) _
 have h3:Hid (z5 s ⟨k,a,v,b,rc⟩ torn = s):=by rw [Hid,hfin.out,if_neg h1,if_neg h2,if_neg h4]
 have e1:(k == 1) = false:=by simp [h1]
 have e2:(k == 2) = false:=by simp [h2]
 have e3:(k == 3) = false:=by simp [h4]
 clear hsf hsd hsv hfin hdj
 go_enter Tryz.func86,Tryz.ntmps86
 go_wp2;refine bodyPost_ret (v:=.agg #[.slice A 4 c, .slice (some ⟨db,dO,none⟩) 6 d]) (by simp [results,Tryz.results86,go_sem]) rfl ⟨rfl, ?_, ?_⟩
 . rw [h3.out];exact ((hOS.out.alloc' _).alloc' _).alloc' _
 exact (((Agr.refl _ _).alloc _).alloc _).alloc _
end
section
theorem Ky {α:Type} {l:List α} {i:Nat} {x y:α} (h:y ∈ l.set i x):y ∈ l∨y = x:=List.mem_or_eq_of_mem_set h
theorem zqe:zn ⟨0,rc0⟩ = true:=by decide
theorem zgm:zn ⟨2,rc0⟩ = true:=by decide
theorem zot {r:Rc} (h:xj r = true):zn ⟨1,r⟩ = true:=by unfold zn;simpa using h
theorem Yf {f:List Bk} (h:Zp f) {i:Nat} (hi:i < 4):zga (f.getD i zbk):=by
 have hl:i < f.length:=by have:=h.1;omega
 rw [List.getD_eq_getElem?_getD,List.getElem?_eq_getElem hl];exact h.2 _ (List.getElem_mem hl)
theorem zcn {f:List Bk} {b:Bk} (h:Zp f) (hb:zga b) (i:Nat):Zp (f.set i b) :=
 ⟨by rw [List.length_set];exact h.1,fun c hc=>by rcases Ky hc with hc | rfl;exact h.2 c hc;exact hb⟩
theorem zja {f:List Bk} (h:Zp f) {i:Nat} (hi:i < 4) (torn:Bool):Zp (yg f i torn).1:=by
 have hb:=Yf h hi;unfold yg wipe;split
 . exact h
 rename_i hw;refine zcn h ⟨by simp,by have:=hb.2.1;show 0 ≤ (f.getD i zbk).worn + 1;omega,by show (f.getD i zbk).worn + 1 ≤ 200;omega,fun p hp=>?_⟩ i;have:=List.eq_of_mem_replicate hp;subst this;cases torn
 . exact zqe
 exact zgm
theorem zgh {f:List Bk} (h:Zp f) {i:Nat} (hi:i < 4) {r:Rc} (hr:xj r = true) (torn:Bool):Zp (x8 f i r torn).1:=by
 have hb:=Yf h hi;unfold x8;split
 . exact h
 have key:zga ⟨(f.getD i zbk).pages.set (4 - clean (f.getD i zbk)) (if torn then ⟨2,rc0⟩ else ⟨1,r⟩),(f.getD i zbk).worn⟩:=by
  refine ⟨by show ((f.getD i zbk).pages.set _ _).length = 4;rw [List.length_set];exact hb.1,hb.2.1,hb.2.2.1,fun p hp=>?_⟩;rcases Ky hp with hp | rfl
  . exact hb.2.2.2 p hp
  cases torn
  . exact zot hr
  exact zgm
 exact zcn h key i
theorem za7 {s:St} {x:Sp} (hs:xq s) (hx:Xu x) (torn:Bool):xq (z5 s x torn):=by
 obtain ⟨h1,h2,h3⟩:=hs;obtain ⟨x1,x2,x3⟩:=hx;unfold z5;split
 . rename_i hk;split
   . exact ⟨h1,h2,h3⟩
   refine ⟨h1,by rw [List.length_set];exact h2,fun v hv=>?_⟩;rcases Ky hv with hv | rfl
   . exact h3 v hv
   exact ⟨(x1 hk).2.2.1,(x1 hk).2.2.2⟩
 split
 . rename_i hk;have:=x2 (.inl hk);exact ⟨zja h1 (by omega) torn,h2,h3⟩
 split
 . rename_i hk;have:=x2 (.inr hk);exact ⟨zgh h1 (by omega) (x3 hk) torn,h2,h3⟩
 exact ⟨h1,h2,h3⟩
theorem Zr:∀ {xs:List Sp} {s:St},xq s->(∀ x ∈ xs,Xu x)->xq (zx s xs)
 | [],_,hs,_=>hs
 | x :: xs,s,hs,hx=>Zr (xs:=xs) (s:=z5 s x false) (za7 hs (hx x (List.mem_cons_self ..)) false) (fun y hy=>hx y (List.mem_cons_of_mem _ hy))
theorem zfz {s:St} {xs:List Sp} (hs:xq s) (hx:∀ x ∈ xs,Xu x) (cut:Int) (torn:Bool):xq (doTo s xs cut torn):=by
 have h1:=Zr (xs:=xs.take cut.toNat) hs (fun x h=>hx x (List.mem_of_mem_take h));unfold doTo;split
 . rename_i h;refine za7 h1 ?_ true;have hl:cut.toNat < xs.length:=by omega
   rw [List.getD_eq_getElem?_getD,List.getElem?_eq_getElem hl];exact hx _ (List.getElem_mem hl)
 exact h1
theorem xk {p:Pg} (h:zn p = true) (h1:p.state = 1):xj p.rc = true:=by unfold zn at h;rw [if_pos h1] at h;exact h
theorem xx {r:Rc} (h:xj r = true):1 ≤ r.addr∧r.addr ≤ 6∧0 ≤ r.val∧r.val ≤ 9∧1 ≤ r.seq∧r.seq ≤ 600:=by
 unfold xj jk valB at h;simp at h;omega
theorem zkw {f:List Bk} {p:Pg} (hp:zn p = true) (h:told f p = true):Xu (Zt p):=by
 unfold told live at h;simp at h;have:=xx (xk hp h.1.1);exact ⟨fun _=>by unfold Zt;exact ⟨this.1,this.2.1,this.2.2.1,this.2.2.2.1⟩,fun h=>by unfold Zt at h;simp at h,fun h=>by unfold Zt at h;simp at h⟩
theorem Xw {f:List Bk} (h0:0 < f.length):∀ (r:List Bk) (i:Nat) (out:Int),i + r.length = f.length->-1 ≤ out->out < f.length->0 ≤ (j6 f i out r).1∧(j6 f i out r).1 < f.length
 | [],i,out,_,h1,h2=>by unfold j6;dsimp only;omega
 | b :: r, i, out, hi, h1, h2 => by
   rw [List.length_cons] at hi;unfold j6;split
   . dsimp only;omega
   split
   . exact Xw h0 r _ _ (by omega) (by omega) (by omega)
   exact Xw h0 r _ _ (by omega) h1 h2
theorem zg4 {f:List Bk} (h:f.length = 4):0 ≤ (jd f).1∧(jd f).1 < 4:=by
 have:=Xw (f:=f) (by omega) f 0 (-1) (by omega) (by omega) (by omega);rw [h] at this;exact this
theorem zdm {f:List Bk}:∀ (r:List Bk) (i out:Nat),i + r.length = f.length->out < f.length->Kl f i out r < f.length
 | [],_,_,_,h=>h
 | b :: r, i, out, hi, h => by
   rw [List.length_cons] at hi;unfold Kl;split
   . exact zdm r _ _ (by omega) (by omega)
   exact zdm r _ _ (by omega) h
theorem zad {f:List Bk} (h:f.length = 4):old f < 4:=by
 have:=zdm (f:=f) (f.drop 1) 1 0 (by simp;omega) (by omega);rw [h] at this;exact this
theorem ze8 {f:List Bk} (h:Zp f):(∀ x ∈ (room f).1,Xu x)∧0 ≤ (room f).2.1∧(room f).2.1 < 4:=by
 have h1:=zg4 h.1;have h2:=zad h.1;have hb:=Yf h h2;unfold room;split
 . exact ⟨fun x hx=>absurd hx (by simp),h1.1,h1.2⟩
 refine ⟨fun x hx=>?_,by dsimp only;omega,by dsimp only;omega⟩;rcases List.mem_append.1 hx with hx | hx
 . unfold tells at hx;obtain ⟨p,hp,rfl⟩:=List.mem_map.1 hx;obtain ⟨hp1,hp2⟩:=List.mem_filter.1 hp;exact zkw (hb.2.2.2 p hp1) hp2
 rw [List.mem_singleton] at hx;subst hx;exact ⟨fun h=>by simp at h,fun _=>by dsimp only;omega,fun h=>by simp at h⟩
theorem zgj {f:List Bk} (h:Zp f) (k a v:Int):∀ x ∈ wr f k a v,Xu x:=by
 intro x hx;obtain ⟨h1,h2,h3⟩:=ze8 h;unfold wr at hx;split at hx
 . simp at hx
 rename_i hn;rcases List.mem_append.1 hx with hx | hx
 . exact h1 x hx
 rw [List.mem_singleton] at hx;subst hx;refine ⟨fun h=>by simp at h,fun _=>⟨h2,h3⟩,fun _=>?_⟩;dsimp only;rcases Bool.eq_false_or_eq_true (xj ⟨k,next f,a,v⟩) with h | h
 . exact h
 exact absurd (.inr h) hn
theorem zce {a:Int}:∀ {ps:List Pg} {o:Rc},(∀ p ∈ ps,zn p = true)->(o = rc0∨(xj o = true∧o.addr = a))->(xr a o ps = rc0∨(xj (xr a o ps) = true∧(xr a o ps).addr = a))
 | [],_,_,h=>h
 | p :: ps, o, hp, h => by
   refine zce (ps:=ps) (o:=zz a o p) (fun q hq=>hp q (List.mem_cons_of_mem _ hq)) ?_;unfold zz;split
   . rename_i hh;exact .inr ⟨xk (hp p (List.mem_cons_self ..)) hh.1,hh.2.1⟩
   exact h
theorem zn0 {f:List Bk} (h:∀ b ∈ f,∀ p ∈ b.pages,zn p = true) (a:Int):last f a = rc0∨(xj (last f a) = true∧(last f a).addr = a):=by
 have key:∀ (g:List Bk) (o:Rc),(∀ b ∈ g,∀ p ∈ b.pages,zn p = true)->(o = rc0∨(xj o = true∧o.addr = a))->(g.foldl (fun o b=>xr a o b.pages) o = rc0∨(xj (g.foldl (fun o b=>xr a o b.pages) o) = true∧(g.foldl (fun o b=>xr a o b.pages) o).addr = a)):=by
  intro g
  induction g with
  | nil=>intro o _ h;exact h
  | cons b g ih=>intro o hg h;exact ih _ (fun c hc=>hg c (List.mem_cons_of_mem _ hc)) (zce (hg b (List.mem_cons_self ..)) h)
 exact key f rc0 h (.inl rfl)
theorem J8 {f:List Bk} (h:∀ b ∈ f,∀ p ∈ b.pages,zn p = true) {a:Int} (h0:0 < (last f a).seq):xj (last f a) = true∧(last f a).addr = a:=by
 rcases zn0 h a with h1 | h1
 . rw [h1] at h0;exact absurd h0 (by decide)
 exact h1
theorem zoh {xs:List Int} (h:xs.length = 6) (hv:∀ v ∈ xs,0 ≤ v∧v ≤ 9) {i:Nat} (hi:i < 6):0 ≤ xs.getD i 0∧xs.getD i 0 ≤ 9:=by
 have hl:i < xs.length:=by omega
 rw [List.getD_eq_getElem?_getD,List.getElem?_eq_getElem hl];exact hv _ (List.getElem_mem hl)
theorem X5 {f:List Bk} (h:Zp f):∀ b ∈ f,∀ p ∈ b.pages,zn p = true:=fun b hb=>(h.2 b hb).2.2.2
theorem zjn {s:St} (h:xq s) {a:Int} (h1:1 ≤ a) (h2:a ≤ 6):0 ≤ xe s a∧xe s a ≤ 9:=by
 unfold xe;split
 . rename_i h0;have:=xx (J8 (X5 h.1) h0).1;omega
 exact zoh h.2.1 h.2.2 (by omega)
theorem Ye {s:St} (h:xq s) (a:Int):∀ x ∈ ym s a,Xu x:=by
 intro x hx;unfold ym at hx;split at hx
 . simp at hx
 rename_i hn;split at hx
 . simp at hx
 have ha:jk a = true:=by
  rcases Bool.eq_false_or_eq_true (jk a) with h | h
  . exact h
  exact absurd (.inl h) hn
 have ha2:1 ≤ a∧a ≤ 6:=by unfold jk at ha;simpa using ha
 rcases List.mem_cons.1 hx with rfl | hx
 . have:=zjn h ha2.1 ha2.2;exact ⟨fun _=>⟨ha2.1,ha2.2,this.1,this.2⟩,fun h=>by simp at h,fun h=>by simp at h⟩
 exact zgj h.1 _ _ _ x hx
theorem zmi {s:St} (h:xq s) (a:Int):∀ x ∈ fill s a,Xu x:=by
 intro x hx;unfold fill at hx;split at hx
 . simp at hx
 exact zgj h.1 _ _ _ x hx
theorem Yq {s:St} (h:xq s) (e:Ev):∀ x ∈ z9 s e,Xu x:=by
 intro x hx;unfold z9 at hx;split at hx
 . exact zgj h.1 _ _ _ x hx
 split at hx
 . exact Ye h _ x hx
 split at hx
 . exact zmi h _ x hx
 simp at hx
theorem Y7 {s:St} (h:xq s) (a:Int):xq (ju s a):=zfz h (Ye h a) _ _
theorem zf3 {s:St} (h:xq s):xq (Zf s):=by
 have key:∀ (l:List Int) (s:St),xq s->xq (l.foldl ju s):=by
  intro l
  induction l with
  | nil=>intro s h;exact h
  | cons a l ih=>intro s h;exact ih _ (Y7 h a)
 exact key _ s h
theorem zms {s:St} (h:xq s) (e:Ev):xq (doEv s e):=by
 unfold doEv;split
 . exact zf3 h
 split
 . exact h
 exact zfz h (Yq h e) _ _
theorem zb8 {p:Pg} (h:zn p = true):p.rc.seq ≤ 600:=by
 unfold zn at h;split at h
 . exact (xx h).2.2.2.2.2
 split at h
 . have:p.rc = rc0:=by simpa using h
   rw [this];decide
 cases h
theorem zff:∀ {ps:List Pg} {n:Int},(∀ p ∈ ps,zn p = true)->n ≤ 600->jr n ps ≤ 600
 | [],_,_,h=>h
 | p :: ps,n,hp,h=>zff (ps:=ps) (n:=max n p.rc.seq) (fun q hq=>hp q (List.mem_cons_of_mem _ hq)) (by have:=zb8 (hp p (List.mem_cons_self ..));omega)
theorem J2 {f:List Bk} (h:Zp f):∀ b ∈ f,most b < 1000000000000:=fun b hb=>by
 have:most b ≤ 600:=zff (X5 h b hb) (by omega);omega
end
section
open Go.RowKit Go.Maps
theorem Row.sp {w:World} {b o k:Nat} {xs:List Sp} {x:Sp} (h:Row w (some ⟨b,o,none⟩) (sps xs)) (hk:xs[k]? = some x) :
 w.cell? ⟨b,o + k * 8,none⟩ = some (.int .i64 x.kind)∧w.cell? ⟨b,o + k * 8 + 1,none⟩ = some (.int .i64 x.addr)∧w.cell? ⟨b,o + k * 8 + 2,none⟩ = some (.int .i64 x.val)∧w.cell? ⟨b,o + k * 8 + 3,none⟩ = some (.int .i64 x.block) ∧
 w.cell? ⟨b,o + k * 8 + 4,none⟩ = some (.int .i64 x.rc.kind)∧w.cell? ⟨b,o + k * 8 + 5,none⟩ = some (.int .i64 x.rc.seq)∧w.cell? ⟨b,o + k * 8 + 6,none⟩ = some (.int .i64 x.rc.addr)∧w.cell? ⟨b,o + k * 8 + 7,none⟩ = some (.int .i64 x.rc.val):=by
 have hlt:=(List.getElem?_eq_some_iff.1 hk).1;obtain ⟨b',o',he,hc⟩:=h (by intro e;have:=Jw xs;rw [e] at this;simp at this;omega);cases he;have hg:∀ j u,x.vs[j]? = some u->j < 8->w.cell? ⟨b,o + (k * 8 + j),none⟩ = some u:=fun j u hj hl=>(hc (k * 8 + j) u (by rw [sps,yn _ 8 (fun _=>rfl) xs k j x hk hl];exact hj)).1;exact ⟨hg 0 _ rfl (by omega),hg 1 _ rfl (by omega),hg 2 _ rfl (by omega),hg 3 _ rfl (by omega),hg 4 _ rfl (by omega),hg 5 _ rfl (by omega),hg 6 _ rfl (by omega),hg 7 _ rfl (by omega)⟩
theorem zf5 (s:St) (xs:List Sp) (x:Sp):zx s (xs ++ [x]) = z5 (zx s xs) x false:=by
 unfold zx;rw [List.foldl_append];rfl
theorem Y8 {xs:List Sp} {k:Nat} {x:Sp} (s:St) (h:xs[k]? = some x):zx s (xs.take (k + 1)) = z5 (zx s (xs.take k)) x false:=by
 rw [List.take_add_one,h];exact zf5 _ _ _
theorem OSt.drew {w:World} {lo hi:Nat} {A D:Option Addr} {f:List Bk} {xs:List Int} (h:OSt w lo hi A f D xs):OSt w.drew lo hi A f D xs:=h.keep fun _ _ _ _=>rfl
theorem zby (s:St) (xs:List Sp) (cut:Int) (torn:Bool) (A D V:Option Addr) (c d cs lo hi:Nat) (w:World) (hs:xq s) (hx:∀ x ∈ xs,Xu x) (hl:xs.length < 1000000000000) (hhi:hi ≤ w.heap.size) (hO:OSt w lo hi A s.flash D s.disk) (hX:Row w V (sps xs)) (hV:∀ b,blk V b->¬ (lo ≤ b∧b < hi)) :
 Calls Tryz.prog 48 #[.agg #[.slice A 4 c, .slice D 6 d], .slice V xs.length cs, .int .i64 cut, .bool torn] w fun r w' =>
  r = .returned (.agg #[.slice A 4 c, .slice D 6 d])∧OSt w' lo hi A (doTo s xs cut torn).flash D (doTo s xs cut torn).disk∧Agr (fun b=>lo ≤ b∧b < hi) w w':=by
 have HX:=Lib.hid hx;have HS:=Lib.hid hs;have HV:=Lib.hid hV;clear hx hs hV
 go_enter Tryz.func48,Tryz.ntmps48
 go_wp2
 go_loopw [9] (fun i wr=>∃ k:Nat,k ≤ xs.length∧i = .int .i64 k∧(k:Int) ≤ max cut 0∧OSt wr lo hi A (zx s (xs.take k)).flash D (zx s (xs.take k)).disk∧Agr (fun b=>lo ≤ b∧b < hi) w wr∧w.heap.size + 1 < wr.heap.size ∧
  (wr.cell? ⟨w.heap.size,0,none⟩ = some (.slice A 4 c)∧wr.cell? ⟨w.heap.size,1,none⟩ = some (.slice D 6 d)∧wr.frozen? ⟨w.heap.size,0,none⟩ = false∧wr.frozen? ⟨w.heap.size,1,none⟩ = false) ∧
  (∃ u0 u1,wr.cell? ⟨w.heap.size + 1,0,none⟩ = some u0∧wr.cell? ⟨w.heap.size + 1,1,none⟩ = some u1∧wr.frozen? ⟨w.heap.size + 1,0,none⟩ = false∧wr.frozen? ⟨w.heap.size + 1,1,none⟩ = false)) (fun i _=>xs.length - (intOf i).toNat)
 case atStart =>
  have hN:=Row.new (w.alloc (.cells #[.slice A 4 c, .slice D 6 d] 28)) #[.slice none 0 0, .slice none 0 0] 28;simp only [World.size_alloc] at hN;have hM:=(Row.new w #[.slice A 4 c, .slice D 6 d] 28).alloc (.cells #[.slice none 0 0, .slice none 0 0] 28);exact ⟨0,by omega,rfl,by omega,(hO.alloc' _).alloc' _,((Agr.refl _ _).alloc _).alloc _,by simp,⟨(hM.at0 (j:=0) rfl).1,(hM.at0 (j:=1) rfl).1,(hM.at0 (j:=0) rfl).2,(hM.at0 (j:=1) rfl).2⟩,⟨_,_,(hN.at0 (j:=0) rfl).1,(hN.at0 (j:=1) rfl).1,(hN.at0 (j:=0) rfl).2,(hN.at0 (j:=1) rfl).2⟩⟩
 case round =>
  obtain ⟨k,hk,rfl,hkc,hOk,hA,hsz,⟨b0,b1,b2,b3⟩,⟨u0,u1,q0,q1,q2,q3⟩⟩:=hrel;by_cases hgo:k < xs.length∧(k:Int) < cut
  . obtain ⟨hlt,hct⟩:=hgo;obtain ⟨x,hxk⟩:=zc hlt;have hxf:=HX.out x (List.mem_of_getElem? hxk);have hst:=Zr (xs:=xs.take k) HS.out (fun y hy=>HX.out y (List.mem_of_mem_take hy));have hXk:=hX.agr hA HV.out;obtain ⟨vb,vo,rfl⟩:=hXk.addr (by intro e;have:=Jw xs;rw [e] at this;simp at this;omega);obtain ⟨c0,c1,c2,c3,c4,c5,c6,c7⟩:=hXk.sp hxk;have hst2:=Y8 s hxk;have HT:=Lib.hid hst2;have hk1:(k:Int) < xs.length:=by omega
    clear hst2 hxk hXk;go_wp2;have hle:hi ≤ wr.drew.heap.size:=by show hi ≤ wr.heap.size;omega
    have hn0:¬ (lo ≤ w.heap.size∧w.heap.size < hi):=by omega
    have hl0:w.heap.size < wr.drew.heap.size:=by show w.heap.size < wr.heap.size;omega
    have hOd:=hOk.drew;have g0:wr.drew.cell? ⟨w.heap.size,0,none⟩ = some (.slice A 4 c):=b0;have g1:wr.drew.cell? ⟨w.heap.size,1,none⟩ = some (.slice D 6 d):=b1;have g2:wr.drew.frozen? ⟨w.heap.size,0,none⟩ = false:=b2;have g3:wr.drew.frozen? ⟨w.heap.size,1,none⟩ = false:=b3
    go_region_with (first | (go_at_call 86;refine (zbz (zx s (xs.take k)) x false A D c d lo hi _ hst hxf hle hOd).mono ?_;rintro e w1 ⟨rfl,hO1,hA1⟩;have d0:=(hA1.cell hl0 hn0 0).trans g0;have d1:=(hA1.cell hl0 hn0 1).trans g1;have d2:=(hA1.fz hl0 hn0 0).trans g2;have d3:=(hA1.fz hl0 hn0 1).trans g3))
    all_goals
     have hn1:¬ (lo ≤ w.heap.size + 1∧w.heap.size + 1 < hi):=by omega
     have hl1:w.heap.size + 1 < wr.drew.heap.size:=hsz;have r0:=(hA1.cell hl1 hn1 0).trans (show wr.drew.cell? ⟨w.heap.size + 1,0,none⟩ = some u0 from q0);have r1:=(hA1.cell hl1 hn1 1).trans (show wr.drew.cell? ⟨w.heap.size + 1,1,none⟩ = some u1 from q1);have r2:=(hA1.fz hl1 hn1 0).trans (show wr.drew.frozen? ⟨w.heap.size + 1,0,none⟩ = false from q2);have r3:=(hA1.fz hl1 hn1 1).trans (show wr.drew.frozen? ⟨w.heap.size + 1,1,none⟩ = false from q3);have hA2:=hA.drew.trans hA1 (fun b _ hb=>hb);have hs1:wr.heap.size ≤ w1.heap.size:=hA1.size;rw [← HT.out] at hO1;have hW:xt w1 ((w1.setCell ⟨w.heap.size,0,none⟩ (.slice A 4 c)).setCell ⟨w.heap.size,1,none⟩ (.slice D 6 d)) w.heap.size 0 [.slice A 4 c, .slice D 6 d]:=zp w.heap.size [.slice A 4 c, .slice D 6 d] 0 w1 (fun j hj=>by
      match j,hj with
      | 0,_=>exact ⟨_,d0⟩
      | 1,_=>exact ⟨_,d1⟩)
     have hO3:OSt _ lo hi A (zx s (xs.take (k + 1))).flash D (zx s (xs.take (k + 1))).disk:=hO1.keep fun b h1 h2 _=>hW.block b (by omega);have hA3:=hA2.trans (S':=(· = w.heap.size)) hW.agr (fun b hb e=>by omega);have t0:=hW.new_ 0 _ rfl;have t1:=hW.new_ 1 _ rfl;have t2:=(hW.frozen ⟨w.heap.size,0,none⟩).trans d2;have t3:=(hW.frozen ⟨w.heap.size,1,none⟩).trans d3;have s0:=(hW.agr.cell (b:=w.heap.size + 1) (by omega) (by omega) 0).trans r0;have s1:=(hW.agr.cell (b:=w.heap.size + 1) (by omega) (by omega) 1).trans r1;have s2:=(hW.frozen ⟨w.heap.size + 1,0,none⟩).trans r2;have s3:=(hW.frozen ⟨w.heap.size + 1,1,none⟩).trans r3;have hss:=hW.size;clear hW;go_wp2;go_roundw
     (case rel=>exact ⟨k + 1,by omega,by go_num,by omega,hO3,hA3,by omega,⟨t0,t1,t2,t3⟩,⟨u0,u1,s0,s1,s2,s3⟩⟩)
     (case measure=>simp [intOf];omega)
  have hT:Hid (zx s (xs.take k) = zx s (xs.take cut.toNat)):=by
   rw [Hid];congr 1;by_cases h:k < xs.length
   . have:¬ (k:Int) < cut:=fun h2=>hgo ⟨h,h2⟩;rw [show cut.toNat = k by omega]
   rw [List.take_of_length_le (by omega)];by_cases h2:xs.length ≤ cut.toNat
   . rw [List.take_of_length_le h2]
   rw [show cut.toNat = xs.length by omega,List.take_of_length_le nl]
  have hgd:(k:Int) < xs.length->¬ (k:Int) < cut:=fun h h2=>hgo ⟨by omega,h2⟩;rw [hT.out] at hOk;clear hgo;cases torn
  . have h3:Hid (doTo s xs cut false = zx s (xs.take cut.toNat)):=by unfold Hid doTo;rw [if_neg (by simp)]
    by_cases hlt:(k:Int) < xs.length
    . have hct:=hgd hlt;go_wp2;refine bodyPost_ret (v:=.agg #[.slice A 4 c, .slice D 6 d]) (by simp [results,Tryz.results48,go_sem,b0,b1,q0,q1]) rfl ⟨rfl, ?_, ?_⟩
      . rw [h3.out];have hbb:Below w.heap.size wr ((wr.setCell ⟨w.heap.size + 1,0,none⟩ (.slice A 4 c)).setCell ⟨w.heap.size + 1,1,none⟩ (.slice D 6 d)):=bw;exact hOk.keep fun y _ h2 _=>hbb.block y (by omega)
      exact (hA.setCell (.inl (by show w.heap.size ≤ w.heap.size + 1;omega)) _).setCell (.inl (by show w.heap.size ≤ w.heap.size + 1;omega)) _
    go_wp2;refine bodyPost_ret (v:=.agg #[.slice A 4 c, .slice D 6 d]) (by simp [results,Tryz.results48,go_sem,b0,b1,q0,q1]) rfl ⟨rfl, ?_, ?_⟩
    . rw [h3.out];have hbb:Below w.heap.size wr ((wr.setCell ⟨w.heap.size + 1,0,none⟩ (.slice A 4 c)).setCell ⟨w.heap.size + 1,1,none⟩ (.slice D 6 d)):=bw;exact hOk.keep fun y _ h2 _=>hbb.block y (by omega)
    exact (hA.setCell (.inl (by show w.heap.size ≤ w.heap.size + 1;omega)) _).setCell (.inl (by show w.heap.size ≤ w.heap.size + 1;omega)) _
  have h3n:¬ (0 ≤ cut∧cut < xs.length)->Hid (doTo s xs cut true = zx s (xs.take cut.toNat)):=by intro h;unfold Hid doTo;rw [if_neg (by simpa using h)]
  have h3p:(0 ≤ cut∧cut < xs.length)->Hid (doTo s xs cut true = z5 (zx s (xs.take cut.toNat)) (xs.getD cut.toNat ⟨0,0,0,0,rc0⟩) true):=by intro h;unfold Hid doTo;rw [if_pos (by simpa using h)]
  by_cases hlt:(k:Int) < xs.length
  . have hct:=hgd hlt;by_cases h0:0 ≤ cut
    . obtain rfl:cut = k:=by omega
      have hst:=Zr (xs:=xs.take (k:Int).toNat) HS.out (fun y hy=>HX.out y (List.mem_of_mem_take hy));obtain ⟨x,hxk⟩:=zc (l:=xs) (k:=k) (by omega);have hxf:=HX.out x (List.mem_of_getElem? hxk);have hXk:=hX.agr hA HV.out;obtain ⟨vb,vo,rfl⟩:=hXk.addr (by intro e;have:=Jw xs;rw [e] at this;simp at this;omega);obtain ⟨c0,c1,c2,c3,c4,c5,c6,c7⟩:=hXk.sp hxk;have h3:Hid (doTo s xs k true = z5 (zx s (xs.take (k:Int).toNat)) x true):=by
       rw [Hid,(h3p ⟨by omega,by omega⟩).out,Int.toNat_natCast,List.getD_eq_getElem?_getD,hxk];rfl
      have hk0:(0:Int) ≤ k:=by omega
      have hk1:(k:Int) ≤ xs.length - 1:=by omega
      clear h3p h3n hxk hXk hgd;go_wp2_with fail
      refine (kw _ _ _ _).mono ?_;rintro e w1 ⟨rfl,rfl⟩;rw [show (decide ((0:Int) ≤ k) && decide ((k:Int) ≤ xs.length - 1)) = true from by simp [hk0,hk1]];go_wp2;have hle:hi ≤ wr.drew.heap.size:=by show hi ≤ wr.heap.size;omega
      have hn0:¬ (lo ≤ w.heap.size∧w.heap.size < hi):=by omega
      have hl0:w.heap.size < wr.drew.heap.size:=by show w.heap.size < wr.heap.size;omega
      have hOd:=hOk.drew;have g0:wr.drew.cell? ⟨w.heap.size,0,none⟩ = some (.slice A 4 c):=b0;have g1:wr.drew.cell? ⟨w.heap.size,1,none⟩ = some (.slice D 6 d):=b1;have g2:wr.drew.frozen? ⟨w.heap.size,0,none⟩ = false:=b2;have g3:wr.drew.frozen? ⟨w.heap.size,1,none⟩ = false:=b3
      go_region_with (first | (go_at_call 86;refine (zbz (zx s (xs.take (k:Int).toNat)) x true A D c d lo hi _ hst hxf hle hOd).mono ?_;rintro e w1 ⟨rfl,hO1,hA1⟩;have d0:=(hA1.cell hl0 hn0 0).trans g0;have d1:=(hA1.cell hl0 hn0 1).trans g1;have d2:=(hA1.fz hl0 hn0 0).trans g2;have d3:=(hA1.fz hl0 hn0 1).trans g3))
      all_goals
       have hn1:¬ (lo ≤ w.heap.size + 1∧w.heap.size + 1 < hi):=by omega
       have hl1:w.heap.size + 1 < wr.drew.heap.size:=hsz;have r0:=(hA1.cell hl1 hn1 0).trans (show wr.drew.cell? ⟨w.heap.size + 1,0,none⟩ = some u0 from q0);have r1:=(hA1.cell hl1 hn1 1).trans (show wr.drew.cell? ⟨w.heap.size + 1,1,none⟩ = some u1 from q1);have r2:=(hA1.fz hl1 hn1 0).trans (show wr.drew.frozen? ⟨w.heap.size + 1,0,none⟩ = false from q2);have r3:=(hA1.fz hl1 hn1 1).trans (show wr.drew.frozen? ⟨w.heap.size + 1,1,none⟩ = false from q3);have hA2:=hA.drew.trans hA1 (fun b _ hb=>hb);have hs1:wr.heap.size ≤ w1.heap.size:=hA1.size;have hW:xt w1 ((w1.setCell ⟨w.heap.size,0,none⟩ (.slice A 4 c)).setCell ⟨w.heap.size,1,none⟩ (.slice D 6 d)) w.heap.size 0 [.slice A 4 c, .slice D 6 d]:=zp w.heap.size [.slice A 4 c, .slice D 6 d] 0 w1 (fun j hj=>by
        match j,hj with
        | 0,_=>exact ⟨_,d0⟩
        | 1,_=>exact ⟨_,d1⟩)
       have hO3:OSt _ lo hi A (z5 (zx s (xs.take (k:Int).toNat)) x true).flash D (z5 (zx s (xs.take (k:Int).toNat)) x true).disk:=hO1.keep fun b h1 h2 _=>hW.block b (by omega);have hA3:=hA2.trans (S':=(· = w.heap.size)) hW.agr (fun b hb e=>by omega);have t0:=hW.new_ 0 _ rfl;have t1:=hW.new_ 1 _ rfl;have s0:=(hW.agr.cell (b:=w.heap.size + 1) (by omega) (by omega) 0).trans r0;have s1:=(hW.agr.cell (b:=w.heap.size + 1) (by omega) (by omega) 1).trans r1;have s2:=(hW.frozen ⟨w.heap.size + 1,0,none⟩).trans r2;have s3:=(hW.frozen ⟨w.heap.size + 1,1,none⟩).trans r3;have hss:=hW.size;clear hW;go_wp2;refine bodyPost_ret (v:=.agg #[.slice A 4 c, .slice D 6 d]) (by simp [results,Tryz.results48,go_sem,t0,t1,s0,s1]) rfl ⟨rfl, ?_, ?_⟩
       . rw [h3.out];refine hO3.keep fun y _ h2 _=>?_;rw [Below.heap_setCell _ _ _ _ (by show y ≠ w.heap.size + 1;omega),Below.heap_setCell _ _ _ _ (by show y ≠ w.heap.size + 1;omega)]
       . exact (hA3.setCell (.inl (by show w.heap.size ≤ w.heap.size + 1;omega)) _).setCell (.inl (by show w.heap.size ≤ w.heap.size + 1;omega)) _
    have h3:=h3n (by omega);have e0:decide (0 ≤ cut) = false:=by simpa using h0
    go_wp2_with fail
    refine (kw _ _ _ _).mono ?_;rintro e w1 ⟨rfl,rfl⟩;rw [e0,Bool.false_and];go_wp2;refine bodyPost_ret (v:=.agg #[.slice A 4 c, .slice D 6 d]) (by simp [results,Tryz.results48,go_sem,b0,b1,q0,q1]) rfl ⟨rfl, ?_, ?_⟩
    . rw [h3.out];have hbb:Below w.heap.size wr ((wr.setCell ⟨w.heap.size + 1,0,none⟩ (.slice A 4 c)).setCell ⟨w.heap.size + 1,1,none⟩ (.slice D 6 d)):=bw;exact hOk.keep fun y _ h2 _=>hbb.block y (by omega)
    exact (hA.setCell (.inl (by show w.heap.size ≤ w.heap.size + 1;omega)) _).setCell (.inl (by show w.heap.size ≤ w.heap.size + 1;omega)) _
  have h3:=h3n (by omega);have e0:(decide (0 ≤ cut) && decide (cut ≤ (xs.length:Int) - 1)) = false:=by simp;omega
  go_wp2_with fail
  refine (kw _ _ _ _).mono ?_;rintro e w1 ⟨rfl,rfl⟩;rw [e0];go_wp2;refine bodyPost_ret (v:=.agg #[.slice A 4 c, .slice D 6 d]) (by simp [results,Tryz.results48,go_sem,b0,b1,q0,q1]) rfl ⟨rfl, ?_, ?_⟩
  . rw [h3.out];have hbb:Below w.heap.size wr ((wr.setCell ⟨w.heap.size + 1,0,none⟩ (.slice A 4 c)).setCell ⟨w.heap.size + 1,1,none⟩ (.slice D 6 d)):=bw;exact hOk.keep fun y _ h2 _=>hbb.block y (by omega)
  exact (hA.setCell (.inl (by show w.heap.size ≤ w.heap.size + 1;omega)) _).setCell (.inl (by show w.heap.size ≤ w.heap.size + 1;omega)) _
end
section
open Go.RowKit Go.Maps
def upto (s:St):Nat->St
 | 0=>s
 | k + 1=>ju (upto s k) (k + 1)
theorem znj (s:St):upto s 6 = Zf s:=by
 simp only [upto,Zf,List.foldl_cons,List.foldl_nil];generalize ju = F;rfl
theorem zej {s:St} (h:xq s):∀ k,xq (upto s k)
 | 0=>h
 | k + 1=>Y7 (zej h k) _
theorem ye {s:St} (h:xq s):∀ b ∈ s.flash,b.pages.length = 4:=fun b hb=>(h.1.2 b hb).1
theorem zfw {s:St} (h:xq s) (a:Int):(ym s a).length ≤ 7:=by
 have:=zh0 h.1.1 (ye h) 2 a (xe s a);unfold ym;split
 . simp
 split
 . simp
 simp only [List.length_cons];omega
theorem zgw (s:St) (A D:Option Addr) (c d lo hi:Nat) (w:World) (hs:xq s) (hhi:hi ≤ w.heap.size) (hO:OSt w lo hi A s.flash D s.disk) :
 Calls Tryz.prog 47 #[.agg #[.slice A 4 c, .slice D 6 d]] w fun r w' =>
  r = .returned (.agg #[.slice A 4 c, .slice D 6 d])∧OSt w' lo hi A (Zf s).flash D (Zf s).disk∧Agr (fun b=>lo ≤ b∧b < hi) w w':=by
 have HS:=Lib.hid hs;clear hs
 go_enter Tryz.func47,Tryz.ntmps47
 go_wp2
 go_loopw [3] (fun i wr=>∃ k:Nat,k ≤ 6∧i = .int .i64 (k + 1)∧OSt wr lo hi A (upto s k).flash D (upto s k).disk∧Agr (fun b=>lo ≤ b∧b < hi) w wr∧w.heap.size + 1 < wr.heap.size ∧
  (wr.cell? ⟨w.heap.size,0,none⟩ = some (.slice A 4 c)∧wr.cell? ⟨w.heap.size,1,none⟩ = some (.slice D 6 d)∧wr.frozen? ⟨w.heap.size,0,none⟩ = false∧wr.frozen? ⟨w.heap.size,1,none⟩ = false) ∧
  (∃ u0 u1,wr.cell? ⟨w.heap.size + 1,0,none⟩ = some u0∧wr.cell? ⟨w.heap.size + 1,1,none⟩ = some u1∧wr.frozen? ⟨w.heap.size + 1,0,none⟩ = false∧wr.frozen? ⟨w.heap.size + 1,1,none⟩ = false)) (fun i _=>7 - (intOf i).toNat)
 case atStart =>
  have hN:=Row.new (w.alloc (.cells #[.slice A 4 c, .slice D 6 d] 28)) #[.slice none 0 0, .slice none 0 0] 28;simp only [World.size_alloc] at hN;have hM:=(Row.new w #[.slice A 4 c, .slice D 6 d] 28).alloc (.cells #[.slice none 0 0, .slice none 0 0] 28);exact ⟨0,by omega,rfl,(hO.alloc' _).alloc' _,((Agr.refl _ _).alloc _).alloc _,by simp,⟨(hM.at0 (j:=0) rfl).1,(hM.at0 (j:=1) rfl).1,(hM.at0 (j:=0) rfl).2,(hM.at0 (j:=1) rfl).2⟩,⟨_,_,(hN.at0 (j:=0) rfl).1,(hN.at0 (j:=1) rfl).1,(hN.at0 (j:=0) rfl).2,(hN.at0 (j:=1) rfl).2⟩⟩
 case round =>
  obtain ⟨k,hk,rfl,hOk,hA,hsz,⟨b0,b1,b2,b3⟩,⟨u0,u1,q0,q1,q2,q3⟩⟩:=hrel;by_cases hlt:k < 6
  . have hst:=Lib.hid (zej HS.out k);have hk1:(k:Int) + 1 ≤ 6:=by omega
    go_wp2_with fail
    refine (Jg (upto s k) (k + 1) A D c d _ hst.out.1.1 (ye hst.out) (J2 hst.out.1) hst.out.2.1 hOk.ofl.fl hOk.disk).mono ?_;rintro e w1 ⟨v,rfl,hOS,hb⟩;obtain ⟨V,cs,rfl,hcs,hRow,hblk⟩:=hOS.shape;have hff:=Lib.hid (Ye hst.out (k + 1));have hfl:=zfw hst.out (k + 1);have hO1:=hOk.below hb nl;have hA1:=hA.trans (S':=fun _=>False) (Agr.of_below hb) (fun b hb e=>absurd e id);have hs1:=hb.size;obtain ⟨hc,hfz⟩:=qv hb;replace b0:=(hc _ _ (by omega)).trans b0;replace b1:=(hc _ _ (by omega)).trans b1;replace b2:=(hfz _ _ (by omega)).trans b2;replace b3:=(hfz _ _ (by omega)).trans b3;replace q0:=(hc _ _ (by omega)).trans q0;replace q1:=(hc _ _ (by omega)).trans q1;replace q2:=(hfz _ _ (by omega)).trans q2;replace q3:=(hfz _ _ (by omega)).trans q3;have hfin:Hid (doTo (upto s k) (ym (upto s k) (k + 1)) (ym (upto s k) (k + 1)).length false = upto s (k + 1)):=rfl;generalize ym (upto s k) (k + 1) = xs at *;clear hb hc hfz hOk hA hOS;go_wp2_with fail
    have hsz0:=hA1.size;refine (zby (upto s k) xs xs.length false A D V c d cs lo hi _ hst.out hff.out (by omega) (by omega) hO1 hRow (fun b hb=>by have:=hblk b hb;omega)).mono ?_;rintro e w2 ⟨rfl,hO2,hA2⟩;have hs2:=hA2.size;replace b0:=(hA2.cell (by omega) (by omega) 0).trans b0;replace b1:=(hA2.cell (by omega) (by omega) 1).trans b1;replace b2:=(hA2.fz (by omega) (by omega) 0).trans b2;replace b3:=(hA2.fz (by omega) (by omega) 1).trans b3;replace q0:=(hA2.cell (by omega) (by omega) 0).trans q0;replace q1:=(hA2.cell (by omega) (by omega) 1).trans q1;replace q2:=(hA2.fz (by omega) (by omega) 0).trans q2;replace q3:=(hA2.fz (by omega) (by omega) 1).trans q3;have hA3:=hA1.trans hA2 (fun b _ hb=>hb);rw [hfin.out] at hO2;clear hO1 hA1 hA2 hRow;have hW:xt w2 ((w2.setCell ⟨w.heap.size,0,none⟩ (.slice A 4 c)).setCell ⟨w.heap.size,1,none⟩ (.slice D 6 d)) w.heap.size 0 [.slice A 4 c, .slice D 6 d]:=zp w.heap.size [.slice A 4 c, .slice D 6 d] 0 w2 (fun j hj=>by
     match j,hj with
     | 0,_=>exact ⟨_,b0⟩
     | 1,_=>exact ⟨_,b1⟩)
    have hO3:OSt _ lo hi A (upto s (k + 1)).flash D (upto s (k + 1)).disk:=hO2.keep fun b h1 h2 _=>hW.block b (by omega);have hA4:=hA3.trans (S':=(· = w.heap.size)) hW.agr (fun b hb e=>by omega);have t0:=hW.new_ 0 _ rfl;have t1:=hW.new_ 1 _ rfl;have t2:=(hW.frozen ⟨w.heap.size,0,none⟩).trans b2;have t3:=(hW.frozen ⟨w.heap.size,1,none⟩).trans b3;have s0:=(hW.agr.cell (b:=w.heap.size + 1) (by omega) (by omega) 0).trans q0;have s1:=(hW.agr.cell (b:=w.heap.size + 1) (by omega) (by omega) 1).trans q1;have s2:=(hW.frozen ⟨w.heap.size + 1,0,none⟩).trans q2;have s3:=(hW.frozen ⟨w.heap.size + 1,1,none⟩).trans q3;have hss:=hW.size;have e1:IntKind.i64.wrap ((k:Int) + 1 + 1) = (k:Int) + 1 + 1:=IntWalk.i64_in _ (by omega);clear hW;go_wp2;go_roundw
    (case rel=>exact ⟨k + 1,by omega,by go_num,hO3,hA4,by omega,⟨t0,t1,t2,t3⟩,⟨u0,u1,s0,s1,s2,s3⟩⟩)
    (case measure=>simp [intOf];omega)
  obtain rfl:k = 6:=by omega
  go_wp2;refine bodyPost_ret (v:=.agg #[.slice A 4 c, .slice D 6 d]) (by simp [results,Tryz.results47,go_sem,b0,b1,q0,q1]) rfl ⟨rfl, ?_, ?_⟩
  . rw [← znj];have hbb:Below w.heap.size wr ((wr.setCell ⟨w.heap.size + 1,0,none⟩ (.slice A 4 c)).setCell ⟨w.heap.size + 1,1,none⟩ (.slice D 6 d)):=bw;exact hOk.keep fun y _ h2 _=>hbb.block y (by omega)
  exact (hA.setCell (.inl (by show w.heap.size ≤ w.heap.size + 1;omega)) _).setCell (.inl (by show w.heap.size ≤ w.heap.size + 1;omega)) _
end
section
open Go.RowKit Go.Maps
theorem Kr {s:St} (h:xq s) (e:Ev):(z9 s e).length ≤ 8:=by
 have h1:=zh0 h.1.1 (ye h);unfold z9;split
 . have:=h1 1 e.a e.b;omega
 split
 . have:=zfw h e.a;omega
 split
 . unfold fill;split
   . simp
   have:=h1 2 e.a (s.disk.getD (e.a - 1).toNat 0);omega
 simp
theorem zbx (s:St) (e:Ev) (A D:Option Addr) (c d lo hi:Nat) (w:World) (hs:xq s) (hhi:hi ≤ w.heap.size) (hO:OSt w lo hi A s.flash D s.disk) :
 Calls Tryz.prog 27 #[.agg #[.slice A 4 c, .slice D 6 d], .agg #[.int .i64 e.kind, .int .i64 e.a, .int .i64 e.b, .int .i64 e.c, .bool e.torn]] w fun r w' =>
  r = .returned (.agg #[.slice A 4 c, .slice D 6 d])∧OSt w' lo hi A (doEv s e).flash D (doEv s e).disk∧Agr (fun b=>lo ≤ b∧b < hi) w w':=by
 obtain ⟨k,a,b,cc,t⟩:=e;dsimp only;have HS:=Lib.hid hs;have hfin:Hid (doEv s ⟨k,a,b,cc,t⟩ = if k = 4 then Zf s else if cc < 0 then s else doTo s (z9 s ⟨k,a,b,cc,t⟩) cc t):=rfl;obtain ⟨W,hW⟩:∃ W,W = ((w.alloc (.cells #[.slice A 4 c, .slice D 6 d] 28)).alloc (.cells #[.int .i64 k, .int .i64 a, .int .i64 b, .int .i64 cc, .bool t] 33)).alloc (.cells #[.slice none 0 0, .slice none 0 0] 28):=⟨_,rfl⟩;have hOW:OSt W lo hi A s.flash D s.disk:=by rw [hW];exact ((hO.alloc' _).alloc' _).alloc' _
 have hAW:Agr (fun y=>lo ≤ y∧y < hi) w W:=by rw [hW];exact (((Agr.refl _ _).alloc _).alloc _).alloc _
 have b0:W.cell? ⟨w.heap.size,0,none⟩ = some (.slice A 4 c):=by rw [hW];exact zkc (by simp)
 have b1:W.cell? ⟨w.heap.size,1,none⟩ = some (.slice D 6 d):=by rw [hW];exact zkc (by simp)
 have hM:=((Row.new (w.alloc (.cells #[.slice A 4 c, .slice D 6 d] 28)) #[.int .i64 k, .int .i64 a, .int .i64 b, .int .i64 cc, .bool t] 33).alloc (.cells #[.slice none 0 0, .slice none 0 0] 28));rw [← hW] at hM;simp only [World.size_alloc] at hM;have c0:=(hM.at0 (j:=0) rfl).1;have c1:=(hM.at0 (j:=1) rfl).1;have c2:=(hM.at0 (j:=2) rfl).1;have c3:=(hM.at0 (j:=3) rfl).1;have c4:=(hM.at0 (j:=4) rfl).1;have hT:=top3 w (.cells #[.slice A 4 c, .slice D 6 d] 28) (.cells #[.int .i64 k, .int .i64 a, .int .i64 b, .int .i64 cc, .bool t] 33) #[.slice none 0 0, .slice none 0 0] 28;rw [← hW] at hT;have q0:=(hT.at0 (j:=0) rfl).1;have q1:=(hT.at0 (j:=1) rfl).1;have q2:=(hT.at0 (j:=0) rfl).2;have q3:=(hT.at0 (j:=1) rfl).2;have hWs:W.heap.size = w.heap.size + 1 + 1 + 1:=by rw [hW];simp
 have HW:=Lib.hid hW;clear hW hs hT hM;by_cases h4:k = 4
 . subst h4;have h3:Hid (doEv s ⟨4,a,b,cc,t⟩ = Zf s):=by rw [Hid,hfin.out,if_pos rfl]
   go_enter Tryz.func27,Tryz.ntmps27
   go_wp2_with fail
   rw [← HW.out];refine (zgw s A D c d lo hi _ HS.out (by omega) hOW).mono ?_;rintro e w1 ⟨rfl,hO1,hA1⟩;replace q0:=(hA1.cell (by omega) (by omega) 0).trans q0;replace q1:=(hA1.cell (by omega) (by omega) 1).trans q1;replace q2:=(hA1.fz (by omega) (by omega) 0).trans q2;replace q3:=(hA1.fz (by omega) (by omega) 1).trans q3;have hA2:=hAW.trans hA1 (fun b _ hb=>hb);have hs1:=hA1.size;clear hA1 hOW hAW;go_wp2;refine bodyPost_ret (v:=.agg #[.slice A 4 c, .slice D 6 d]) (by simp [results,Tryz.results27,go_sem,q0,q1]) rfl ⟨rfl, ?_, ?_⟩
   . rw [h3.out];refine hO1.keep fun y _ h2 _=>?_;rw [Below.heap_setCell _ _ _ _ (by show y ≠ w.heap.size + 1 + 1;omega),Below.heap_setCell _ _ _ _ (by show y ≠ w.heap.size + 1 + 1;omega)]
   exact (hA2.setCell (.inl (by show w.heap.size ≤ w.heap.size + 1 + 1;omega)) _).setCell (.inl (by show w.heap.size ≤ w.heap.size + 1 + 1;omega)) _
 have h4':(k == 4) = false:=by simpa using h4
 by_cases hc:cc < 0
 . have h3:Hid (doEv s ⟨k,a,b,cc,t⟩ = s):=by rw [Hid,hfin.out,if_neg h4,if_pos hc]
   go_enter Tryz.func27,Tryz.ntmps27
   go_wp2;refine bodyPost_ret (v:=.agg #[.slice A 4 c, .slice D 6 d]) (by simp [results,Tryz.results27,go_sem]) rfl ⟨rfl, ?_, ?_⟩
   . rw [h3.out];exact ((hO.alloc' _).alloc' _).alloc' _
   exact (((Agr.refl _ _).alloc _).alloc _).alloc _
 have h3:Hid (doEv s ⟨k,a,b,cc,t⟩ = doTo s (z9 s ⟨k,a,b,cc,t⟩) cc t):=by rw [Hid,hfin.out,if_neg h4,if_neg hc]
 have hW1:w.heap.size < W.drew.heap.size:=by show w.heap.size < W.heap.size;omega
 have hW2:w.heap.size + 1 < W.drew.heap.size:=by show w.heap.size + 1 < W.heap.size;omega
 have hW3:w.heap.size + 1 + 1 < W.drew.heap.size:=by show w.heap.size + 1 + 1 < W.heap.size;omega
 have hff:=Lib.hid (Yq HS.out ⟨k,a,b,cc,t⟩);have hfl:=Kr HS.out ⟨k,a,b,cc,t⟩;have hO0:=hOW.drew;have hsz:w.heap.size + 1 + 1 < W.heap.size:=by omega
 have h5:=Lib.hid (zc7 s ⟨k,a,b,cc,t⟩ A D c d W.drew HS.out.1.1 (ye HS.out) (J2 HS.out.1) HS.out.2.1 hO0.ofl.fl hO0.disk);generalize z9 s ⟨k,a,b,cc,t⟩ = xs at *
 go_enter Tryz.func27,Tryz.ntmps27
 go_wp2_with fail
 rw [← HW.out];have db0:W.drew.cell? ⟨w.heap.size,0,none⟩ = some (.slice A 4 c):=b0;have db1:W.drew.cell? ⟨w.heap.size,1,none⟩ = some (.slice D 6 d):=b1;have dc0:W.drew.cell? ⟨w.heap.size + 1,0,none⟩ = some (.int .i64 k):=c0;have dc1:W.drew.cell? ⟨w.heap.size + 1,1,none⟩ = some (.int .i64 a):=c1;have dc2:W.drew.cell? ⟨w.heap.size + 1,2,none⟩ = some (.int .i64 b):=c2;have dc3:W.drew.cell? ⟨w.heap.size + 1,3,none⟩ = some (.int .i64 cc):=c3;have dc4:W.drew.cell? ⟨w.heap.size + 1,4,none⟩ = some (.bool t):=c4;have dq0:W.drew.cell? ⟨w.heap.size + 1 + 1,0,none⟩ = some (.slice none 0 0):=q0;have dq1:W.drew.cell? ⟨w.heap.size + 1 + 1,1,none⟩ = some (.slice none 0 0):=q1;have dq2:W.drew.frozen? ⟨w.heap.size + 1 + 1,0,none⟩ = false:=q2;have dq3:W.drew.frozen? ⟨w.heap.size + 1 + 1,1,none⟩ = false:=q3;have hAd:Agr (fun y=>lo ≤ y∧y < hi) w W.drew:=hAW.drew;have hid:hi ≤ W.drew.heap.size:=by show hi ≤ W.heap.size;omega
 have hWd:W.drew.heap.size = w.heap.size + 1 + 1 + 1:=hWs;have n1:w.heap.size + 1 + 1 ≠ w.heap.size:=by omega
 have n2:w.heap.size + 1 + 1 ≠ w.heap.size + 1:=by omega
 go_region_held3 (fun w'=>w'.cell? ⟨w.heap.size,0,none⟩ = some (.slice A 4 c)∧w'.cell? ⟨w.heap.size,1,none⟩ = some (.slice D 6 d)∧w'.cell? ⟨w.heap.size + 1,0,none⟩ = some (.int .i64 k)∧w'.cell? ⟨w.heap.size + 1,1,none⟩ = some (.int .i64 a)∧w'.cell? ⟨w.heap.size + 1,2,none⟩ = some (.int .i64 b)∧w'.cell? ⟨w.heap.size + 1,3,none⟩ = some (.int .i64 cc)∧w'.cell? ⟨w.heap.size + 1,4,none⟩ = some (.bool t))
  (first | go_keep | trivial)
  (first
   | (go_at_call 49;with_reducible refine h5.out.mono ?_;rintro e w1 ⟨v,rfl,hOS,hb⟩;obtain ⟨V,cs,rfl,hcs,hRow,hblk⟩:=hOS.shape;have hO1:=hO0.below hb nl;have hs1:=hb.size;obtain ⟨hc1,hf1⟩:=qv hb;have ib0:=(hc1 _ 0 hW1).trans db0;have ib1:=(hc1 _ 1 hW1).trans db1;have ic0:=(hc1 _ 0 hW2).trans dc0;have ic1:=(hc1 _ 1 hW2).trans dc1;have ic2:=(hc1 _ 2 hW2).trans dc2;have ic3:=(hc1 _ 3 hW2).trans dc3;have ic4:=(hc1 _ 4 hW2).trans dc4;have iq0:=(hc1 _ 0 hW3).trans dq0;have iq1:=(hc1 _ 1 hW3).trans dq1;have iq2:=(hf1 _ 0 hW3).trans dq2;have iq3:=(hf1 _ 1 hW3).trans dq3;have hA1:=hAd.trans (S':=fun _=>False) (Agr.of_below hb) (fun b hb e=>absurd e id);clear hb hc1 hf1)
   | (go_at_call 48;with_reducible refine (zby s xs cc t A D V c d cs lo hi _ HS.out hff.out (by omega) (by omega) hO1 hRow (fun b hb=>by have:=hblk b hb;omega)).mono ?_;rintro e w2 ⟨rfl,hO2,hA2⟩;have kb0:=(hA2.cell (b:=w.heap.size) (by omega) (by omega) 0).trans ib0;have kb1:=(hA2.cell (b:=w.heap.size) (by omega) (by omega) 1).trans ib1;have kc0:=(hA2.cell (b:=w.heap.size + 1) (by omega) (by omega) 0).trans ic0;have kc1:=(hA2.cell (b:=w.heap.size + 1) (by omega) (by omega) 1).trans ic1;have kc2:=(hA2.cell (b:=w.heap.size + 1) (by omega) (by omega) 2).trans ic2;have kc3:=(hA2.cell (b:=w.heap.size + 1) (by omega) (by omega) 3).trans ic3;have kc4:=(hA2.cell (b:=w.heap.size + 1) (by omega) (by omega) 4).trans ic4;have kq0:=(hA2.cell (b:=w.heap.size + 1 + 1) (by omega) (by omega) 0).trans iq0;have kq1:=(hA2.cell (b:=w.heap.size + 1 + 1) (by omega) (by omega) 1).trans iq1;have kq2:=(hA2.fz (b:=w.heap.size + 1 + 1) (by omega) (by omega) 0).trans iq2;have kq3:=(hA2.fz (b:=w.heap.size + 1 + 1) (by omega) (by omega) 1).trans iq3))
 have hA3:=hA1.trans hA2 (fun b _ hb=>hb);have hs2:=hA2.size;clear hA1 hA2 hAd hAW;go_wp2;refine bodyPost_ret (v:=.agg #[.slice A 4 c, .slice D 6 d]) (by simp [results,Tryz.results27,go_sem,kq0,kq1]) rfl ⟨rfl, ?_, ?_⟩
 . rw [h3.out];refine hO2.keep fun y _ h2 _=>?_;rw [Below.heap_setCell _ _ _ _ (by show y ≠ w.heap.size + 1 + 1;omega),Below.heap_setCell _ _ _ _ (by show y ≠ w.heap.size + 1 + 1;omega)]
 exact (hA3.setCell (.inl (by show w.heap.size ≤ w.heap.size + 1 + 1;omega)) _).setCell (.inl (by show w.heap.size ≤ w.heap.size + 1 + 1;omega)) _
end
section
open Go.RowKit Go.Maps
theorem zi (n:Nat) (N:Int) (B R m:Nat) (w:World) (hN:N = n) (hn:1 ≤ n) (hn2:n ≤ 1000000) (hm:m ≤ 1000000) (hR:Rd w B R m) :
 Calls Tryz.prog 22 #[.pointer (some ⟨R,0,none⟩), .int .i64 N] w fun e w'=>∃ k:Nat,e = .returned (.int .i64 k)∧k < n∧Rd w' B R (m + 1)∧Agr (· = R) w w':=by subst hN;exact zk3 n B R m w hn hn2 hm hR
def sm (x:Int):Prop:=-1 ≤ x∧x ≤ 1000
def zk9 (x:Rc):Prop:=sm x.kind∧sm x.seq∧sm x.addr∧sm x.val
theorem Rd.high {w w':World} {B R m L:Nat} (h:Rd w B R m) (ha:Agr (fun b=>L ≤ b) w w') (hL:R < L):Rd w' B R m :=
 h.agr ha (by omega) (fun b hb=>by have:=h.le;omega)
theorem zgq (B R m:Nat) (w:World) (hm:m ≤ 900000) (hR:Rd w B R m) :
 Calls Tryz.prog 132 #[.pointer (some ⟨R,0,none⟩)] w fun e w'=>∃ x:Rc,e = .returned (.agg #[.int .i64 x.kind, .int .i64 x.seq, .int .i64 x.addr, .int .i64 x.val])∧zk9 x∧Rd w' B R (m + 6)∧Agr (· = R) w w':=by
 have hRl:=hR.lt;have hq:=Row.new w #[.int .i64 0, .int .i64 0, .int .i64 0, .int .i64 0] 64;obtain ⟨q0,f0⟩:=hq.at0 (j:=0) rfl;obtain ⟨q1,f1⟩:=hq.at0 (j:=1) rfl;obtain ⟨q2,f2⟩:=hq.at0 (j:=2) rfl;obtain ⟨q3,f3⟩:=hq.at0 (j:=3) rfl;have hR0:=hR.alloc (.cells #[.int .i64 0, .int .i64 0, .int .i64 0, .int .i64 0] 64);have hA0:Agr (· = R) w (w.alloc (.cells #[.int .i64 0, .int .i64 0, .int .i64 0, .int .i64 0] 64)):=(Agr.refl _ _).alloc _;have hs0:w.heap.size < (w.alloc (.cells #[.int .i64 0, .int .i64 0, .int .i64 0, .int .i64 0] 64)).heap.size:=by simp
 have hne:¬ w.heap.size = R:=by omega
 clear hq
 go_enter Tryz.func132,Tryz.ntmps132
 go_wp2_with fail
 refine (zi 2 2 B R (m + 0) _ rfl (by omega) (by omega) (by omega) hR0).mono ?_;rintro e w1 ⟨k1,rfl,hk1,hR1,hB1⟩;replace q0:=(hB1.cell hs0 hne 0).trans q0;replace f0:=(hB1.fz hs0 hne 0).trans f0;replace q1:=(hB1.cell hs0 hne 1).trans q1;replace f1:=(hB1.fz hs0 hne 1).trans f1;replace q2:=(hB1.cell hs0 hne 2).trans q2;replace f2:=(hB1.fz hs0 hne 2).trans f2;replace q3:=(hB1.cell hs0 hne 3).trans q3;replace f3:=(hB1.fz hs0 hne 3).trans f3;have hs1:w.heap.size < w1.heap.size:=Nat.lt_of_lt_of_le hs0 hB1.size;have hA1:=hA0.trans hB1 (fun _ _ h=>h);have e1:IntKind.i64.wrap (1 + (k1:Int)) = 1 + k1:=IntWalk.i64_in _ (by omega);clear hR0 hA0 hs0 hB1;go_wp2_with fail
 refine (zi 40 40 B R (m + 1) _ rfl (by omega) (by omega) (by omega) hR1).mono ?_;rintro e w2 ⟨k2,rfl,hk2,hR2,hB2⟩;replace q0:=(hB2.cell hs1 hne 0).trans q0;replace f0:=(hB2.fz hs1 hne 0).trans f0;replace q1:=(hB2.cell hs1 hne 1).trans q1;replace f1:=(hB2.fz hs1 hne 1).trans f1;replace q2:=(hB2.cell hs1 hne 2).trans q2;replace f2:=(hB2.fz hs1 hne 2).trans f2;replace q3:=(hB2.cell hs1 hne 3).trans q3;replace f3:=(hB2.fz hs1 hne 3).trans f3;have hs2:w.heap.size < w2.heap.size:=Nat.lt_of_lt_of_le hs1 hB2.size;have hA2:=hA1.trans hB2 (fun _ _ h=>h);have e2:IntKind.i64.wrap (1 + (k2:Int)) = 1 + k2:=IntWalk.i64_in _ (by omega);clear hR1 hA1 hs1 hB2;go_wp2_with fail
 refine (zi 6 6 B R (m + 2) _ rfl (by omega) (by omega) (by omega) hR2).mono ?_;rintro e w3 ⟨k3,rfl,hk3,hR3,hB3⟩;replace q0:=(hB3.cell hs2 hne 0).trans q0;replace f0:=(hB3.fz hs2 hne 0).trans f0;replace q1:=(hB3.cell hs2 hne 1).trans q1;replace f1:=(hB3.fz hs2 hne 1).trans f1;replace q2:=(hB3.cell hs2 hne 2).trans q2;replace f2:=(hB3.fz hs2 hne 2).trans f2;replace q3:=(hB3.cell hs2 hne 3).trans q3;replace f3:=(hB3.fz hs2 hne 3).trans f3;have hs3:w.heap.size < w3.heap.size:=Nat.lt_of_lt_of_le hs2 hB3.size;have hA3:=hA2.trans hB3 (fun _ _ h=>h);have e3:IntKind.i64.wrap (1 + (k3:Int)) = 1 + k3:=IntWalk.i64_in _ (by omega);clear hR2 hA2 hs2 hB3;go_wp2_with fail
 refine (zi 10 10 B R (m + 3) _ rfl (by omega) (by omega) (by omega) hR3).mono ?_;rintro e w4 ⟨k4,rfl,hk4,hR4,hB4⟩;replace q0:=(hB4.cell hs3 hne 0).trans q0;replace f0:=(hB4.fz hs3 hne 0).trans f0;replace q1:=(hB4.cell hs3 hne 1).trans q1;replace f1:=(hB4.fz hs3 hne 1).trans f1;replace q2:=(hB4.cell hs3 hne 2).trans q2;replace f2:=(hB4.fz hs3 hne 2).trans f2;replace q3:=(hB4.cell hs3 hne 3).trans q3;replace f3:=(hB4.fz hs3 hne 3).trans f3;have hs4:w.heap.size < w4.heap.size:=Nat.lt_of_lt_of_le hs3 hB4.size;have hA4:=hA3.trans hB4 (fun _ _ h=>h);clear hR3 hA3 hs3 hB4;obtain ⟨n4,hn4⟩:∃ n,n = w4.heap.size:=⟨_,rfl⟩;have hx:=Row.new w4 #[.int .i64 (1 + k1), .int .i64 (1 + k2), .int .i64 (1 + k3), .int .i64 k4] 64;obtain ⟨x0,y0⟩:=hx.at0 (j:=0) rfl;obtain ⟨x1,y1⟩:=hx.at0 (j:=1) rfl;obtain ⟨x2,y2⟩:=hx.at0 (j:=2) rfl;obtain ⟨x3,y3⟩:=hx.at0 (j:=3) rfl;have hq2:∀ (i:Nat) u,w4.cell? ⟨w.heap.size,i,none⟩ = u->(w4.alloc (.cells #[.int .i64 (1 + k1), .int .i64 (1 + k2), .int .i64 (1 + k3), .int .i64 k4] 64)).cell? ⟨w.heap.size,i,none⟩ = u:=fun i u h=>(((Below.refl w4.heap.size w4).alloc nl _).cell (p:=⟨w.heap.size,i,none⟩) hs4).trans h;have hf2:∀ (i:Nat) u,w4.frozen? ⟨w.heap.size,i,none⟩ = u->(w4.alloc (.cells #[.int .i64 (1 + k1), .int .i64 (1 + k2), .int .i64 (1 + k3), .int .i64 k4] 64)).frozen? ⟨w.heap.size,i,none⟩ = u:=fun i u h=>(((Below.refl w4.heap.size w4).alloc nl _).frozen (p:=⟨w.heap.size,i,none⟩) hs4).trans h;replace q0:=hq2 0 _ q0;replace f0:=hf2 0 _ f0;replace q1:=hq2 1 _ q1;replace f1:=hf2 1 _ f1;replace q2:=hq2 2 _ q2;replace f2:=hf2 2 _ f2;replace q3:=hq2 3 _ q3;replace f3:=hf2 3 _ f3;have hs4':w4.heap.size < (w4.alloc (.cells #[.int .i64 (1 + k1), .int .i64 (1 + k2), .int .i64 (1 + k3), .int .i64 k4] 64)).heap.size:=by simp
 have hs4'':w.heap.size < (w4.alloc (.cells #[.int .i64 (1 + k1), .int .i64 (1 + k2), .int .i64 (1 + k3), .int .i64 k4] 64)).heap.size:=by simp;omega
 have hne4:¬ w4.heap.size = R:=by omega
 have hAa:Agr (· = R) w (w4.alloc (.cells #[.int .i64 (1 + k1), .int .i64 (1 + k2), .int .i64 (1 + k3), .int .i64 k4] 64)):=hA4.alloc _;clear hx hq2 hf2;go_wp2_with fail
 refine (zi 20 20 B R (m + 4) _ rfl (by omega) (by omega) (by omega) (hR4.alloc _)).mono ?_;rintro e w5 ⟨k5,rfl,hk5,hR5,hB5⟩;replace q0:=(hB5.cell hs4'' hne 0).trans q0;replace f0:=(hB5.fz hs4'' hne 0).trans f0;replace x0:=(hB5.cell hs4' hne4 0).trans x0;replace y0:=(hB5.fz hs4' hne4 0).trans y0;replace q1:=(hB5.cell hs4'' hne 1).trans q1;replace f1:=(hB5.fz hs4'' hne 1).trans f1;replace x1:=(hB5.cell hs4' hne4 1).trans x1;replace y1:=(hB5.fz hs4' hne4 1).trans y1;replace q2:=(hB5.cell hs4'' hne 2).trans q2;replace f2:=(hB5.fz hs4'' hne 2).trans f2;replace x2:=(hB5.cell hs4' hne4 2).trans x2;replace y2:=(hB5.fz hs4' hne4 2).trans y2;replace q3:=(hB5.cell hs4'' hne 3).trans q3;replace f3:=(hB5.fz hs4'' hne 3).trans f3;replace x3:=(hB5.cell hs4' hne4 3).trans x3;replace y3:=(hB5.fz hs4' hne4 3).trans y3;have hs5:w4.heap.size < w5.heap.size:=Nat.lt_of_lt_of_le hs4' hB5.size;have hA5:=hAa.trans hB5 (fun _ _ h=>h);have hs6:w.heap.size < n4:=by omega
 rw [← hn4] at *;have hs5':w.heap.size < w5.heap.size:=by omega
 clear hAa hB5 hA4 hR4 hs4' hs4'' hn4;by_cases h0:k5 = 0
 . have t0:((k5:Int) == 0) = true:=by subst h0;rfl
   clear h0;go_wp2_with fail
   refine (zi 4 4 B R (m + 5) _ rfl (by omega) (by omega) (by omega) hR5).mono ?_;rintro e w6 ⟨k6,rfl,hk6,hR6,hB6⟩;replace q0:=(hB6.cell hs5' hne 0).trans q0;replace f0:=(hB6.fz hs5' hne 0).trans f0;replace x0:=(hB6.cell hs5 hne4 0).trans x0;replace y0:=(hB6.fz hs5 hne4 0).trans y0;replace q1:=(hB6.cell hs5' hne 1).trans q1;replace f1:=(hB6.fz hs5' hne 1).trans f1;replace x1:=(hB6.cell hs5 hne4 1).trans x1;replace y1:=(hB6.fz hs5 hne4 1).trans y1;replace q2:=(hB6.cell hs5' hne 2).trans q2;replace f2:=(hB6.fz hs5' hne 2).trans f2;replace x2:=(hB6.cell hs5 hne4 2).trans x2;replace y2:=(hB6.fz hs5 hne4 2).trans y2;replace q3:=(hB6.cell hs5' hne 3).trans q3;replace f3:=(hB6.fz hs5' hne 3).trans f3;replace x3:=(hB6.cell hs5 hne4 3).trans x3;replace y3:=(hB6.fz hs5 hne4 3).trans y3;have hA6:=hA5.trans hB6 (fun _ _ h=>h);have hs6':n4 < w6.heap.size:=Nat.lt_of_lt_of_le hs5 hB6.size;have hs6'':w.heap.size < w6.heap.size:=by omega
   clear hB6 hA5 hR5;go_wp2;refine bodyPost_ret (v:=.agg #[.int .i64 ((k6:Int)), .int .i64 (1 + (k2:Int)), .int .i64 (1 + (k3:Int)), .int .i64 ((k4:Int))]) (by simp [results,Tryz.results132,go_sem,q0,q1,q2,q3]) rfl ⟨⟨(k6:Int),1 + (k2:Int),1 + (k3:Int),(k4:Int)⟩,rfl,⟨⟨by dsimp only;omega,by dsimp only;omega⟩,⟨by dsimp only;omega,by dsimp only;omega⟩,⟨by dsimp only;omega,by dsimp only;omega⟩,⟨by dsimp only;omega,by dsimp only;omega⟩⟩, ?_, ?_⟩
   . refine (Rd.high (L:=w.heap.size) hR6 ?_ hRl).mono (by omega);repeat (with_reducible refine Agr.setCell ?_ (.inr (by first | exact Nat.le_refl _ | (show w.heap.size ≤ n4;omega))) _)
     with_reducible exact Agr.refl _ _
   repeat (with_reducible refine Agr.setCell ?_ (.inl (by first | exact Nat.le_refl _ | (show w.heap.size ≤ n4;omega))) _)
   with_reducible exact hA6
 have t0:((k5:Int) == 0) = false:=by rw [beq_eq_false_iff_ne];omega
 by_cases h1:k5 = 1
 . have t1:((k5:Int) == 1) = true:=by subst h1;rfl
   clear h0 h1;have hz:=Row.new w5 #[.int .i64 (0), .int .i64 (600), .int .i64 (601)] 3;have hR5a:=hR5.alloc (.cells #[.int .i64 (0), .int .i64 (600), .int .i64 (601)] 3);have hA5a:=hA5.alloc (.cells #[.int .i64 (0), .int .i64 (600), .int .i64 (601)] 3);have hal:∀ (i:Nat) u b,b < w5.heap.size->w5.cell? ⟨b,i,none⟩ = u->(w5.alloc (.cells #[.int .i64 (0), .int .i64 (600), .int .i64 (601)] 3)).cell? ⟨b,i,none⟩ = u:=fun i u b hb h=>(((Below.refl w5.heap.size w5).alloc nl _).cell (p:=⟨b,i,none⟩) hb).trans h;have hfl:∀ (i:Nat) u b,b < w5.heap.size->w5.frozen? ⟨b,i,none⟩ = u->(w5.alloc (.cells #[.int .i64 (0), .int .i64 (600), .int .i64 (601)] 3)).frozen? ⟨b,i,none⟩ = u:=fun i u b hb h=>(((Below.refl w5.heap.size w5).alloc nl _).frozen (p:=⟨b,i,none⟩) hb).trans h;replace q0:=hal 0 _ _ hs5' q0;replace f0:=hfl 0 _ _ hs5' f0;replace x0:=hal 0 _ _ hs5 x0;replace y0:=hfl 0 _ _ hs5 y0;replace q1:=hal 1 _ _ hs5' q1;replace f1:=hfl 1 _ _ hs5' f1;replace x1:=hal 1 _ _ hs5 x1;replace y1:=hfl 1 _ _ hs5 y1;replace q2:=hal 2 _ _ hs5' q2;replace f2:=hfl 2 _ _ hs5' f2;replace x2:=hal 2 _ _ hs5 x2;replace y2:=hfl 2 _ _ hs5 y2;replace q3:=hal 3 _ _ hs5' q3;replace f3:=hfl 3 _ _ hs5' f3;replace x3:=hal 3 _ _ hs5 x3;replace y3:=hfl 3 _ _ hs5 y3;have hsa:w5.heap.size < (w5.alloc (.cells #[.int .i64 (0), .int .i64 (600), .int .i64 (601)] 3)).heap.size:=by simp
   have hsb:n4 < (w5.alloc (.cells #[.int .i64 (0), .int .i64 (600), .int .i64 (601)] 3)).heap.size:=by simp;omega
   have hsc:w.heap.size < (w5.alloc (.cells #[.int .i64 (0), .int .i64 (600), .int .i64 (601)] 3)).heap.size:=by simp;omega
   have hne5:¬ w5.heap.size = R:=by omega
   clear hal hfl;go_wp2_with fail
   refine (zi 3 3 B R (m + 5) _ rfl (by omega) (by omega) (by omega) hR5a).mono ?_;rintro e w6 ⟨k6,rfl,hk6,hR6,hB6⟩;obtain ⟨v,hv,hv1,hv2⟩:∃ v:Int,(#[.int .i64 (0), .int .i64 (600), .int .i64 (601)]:Array Value).toList[k6]? = some (.int .i64 v)∧-1 ≤ v∧v ≤ 1000:=by
    rcases (by omega:k6 = 0∨k6 = 1∨k6 = 2) with rfl | rfl | rfl <;> exact ⟨_,rfl,by omega,by omega⟩
   have z0:=(hB6.cell hsa hne5 k6).trans (hz.at0 hv).1;replace q0:=(hB6.cell hsc hne 0).trans q0;replace f0:=(hB6.fz hsc hne 0).trans f0;replace x0:=(hB6.cell hsb hne4 0).trans x0;replace y0:=(hB6.fz hsb hne4 0).trans y0;replace q1:=(hB6.cell hsc hne 1).trans q1;replace f1:=(hB6.fz hsc hne 1).trans f1;replace x1:=(hB6.cell hsb hne4 1).trans x1;replace y1:=(hB6.fz hsb hne4 1).trans y1;replace q2:=(hB6.cell hsc hne 2).trans q2;replace f2:=(hB6.fz hsc hne 2).trans f2;replace x2:=(hB6.cell hsb hne4 2).trans x2;replace y2:=(hB6.fz hsb hne4 2).trans y2;replace q3:=(hB6.cell hsc hne 3).trans q3;replace f3:=(hB6.fz hsc hne 3).trans f3;replace x3:=(hB6.cell hsb hne4 3).trans x3;replace y3:=(hB6.fz hsb hne4 3).trans y3;have hA6:=hA5a.trans hB6 (fun _ _ h=>h);have hs6':n4 < w6.heap.size:=Nat.lt_of_lt_of_le hsb hB6.size;have hs6'':w.heap.size < w6.heap.size:=by omega
   have hk6':(k6:Int) < 3:=by omega
   clear hB6 hsa hsb hsc hR5a hA5a hz hv hA5 hR5 hk6;go_wp2;refine bodyPost_ret (v:=.agg #[.int .i64 (1 + (k1:Int)), .int .i64 (v), .int .i64 (1 + (k3:Int)), .int .i64 ((k4:Int))]) (by simp [results,Tryz.results132,go_sem,q0,q1,q2,q3]) rfl ⟨⟨1 + (k1:Int),v,1 + (k3:Int),(k4:Int)⟩,rfl,⟨⟨by dsimp only;omega,by dsimp only;omega⟩,⟨by dsimp only;omega,by dsimp only;omega⟩,⟨by dsimp only;omega,by dsimp only;omega⟩,⟨by dsimp only;omega,by dsimp only;omega⟩⟩, ?_, ?_⟩
   . refine (Rd.high (L:=w.heap.size) hR6 ?_ hRl).mono (by omega);repeat (with_reducible refine Agr.setCell ?_ (.inr (by first | exact Nat.le_refl _ | (show w.heap.size ≤ n4;omega))) _)
     with_reducible exact Agr.refl _ _
   repeat (with_reducible refine Agr.setCell ?_ (.inl (by first | exact Nat.le_refl _ | (show w.heap.size ≤ n4;omega))) _)
   with_reducible exact hA6
 have t1:((k5:Int) == 1) = false:=by rw [beq_eq_false_iff_ne];omega
 by_cases h2:k5 = 2
 . have t2:((k5:Int) == 2) = true:=by subst h2;rfl
   clear h0 h1 h2;have hz:=Row.new w5 #[.int .i64 (0), .int .i64 (7)] 3;have hR5a:=hR5.alloc (.cells #[.int .i64 (0), .int .i64 (7)] 3);have hA5a:=hA5.alloc (.cells #[.int .i64 (0), .int .i64 (7)] 3);have hal:∀ (i:Nat) u b,b < w5.heap.size->w5.cell? ⟨b,i,none⟩ = u->(w5.alloc (.cells #[.int .i64 (0), .int .i64 (7)] 3)).cell? ⟨b,i,none⟩ = u:=fun i u b hb h=>(((Below.refl w5.heap.size w5).alloc nl _).cell (p:=⟨b,i,none⟩) hb).trans h;have hfl:∀ (i:Nat) u b,b < w5.heap.size->w5.frozen? ⟨b,i,none⟩ = u->(w5.alloc (.cells #[.int .i64 (0), .int .i64 (7)] 3)).frozen? ⟨b,i,none⟩ = u:=fun i u b hb h=>(((Below.refl w5.heap.size w5).alloc nl _).frozen (p:=⟨b,i,none⟩) hb).trans h;replace q0:=hal 0 _ _ hs5' q0;replace f0:=hfl 0 _ _ hs5' f0;replace x0:=hal 0 _ _ hs5 x0;replace y0:=hfl 0 _ _ hs5 y0;replace q1:=hal 1 _ _ hs5' q1;replace f1:=hfl 1 _ _ hs5' f1;replace x1:=hal 1 _ _ hs5 x1;replace y1:=hfl 1 _ _ hs5 y1;replace q2:=hal 2 _ _ hs5' q2;replace f2:=hfl 2 _ _ hs5' f2;replace x2:=hal 2 _ _ hs5 x2;replace y2:=hfl 2 _ _ hs5 y2;replace q3:=hal 3 _ _ hs5' q3;replace f3:=hfl 3 _ _ hs5' f3;replace x3:=hal 3 _ _ hs5 x3;replace y3:=hfl 3 _ _ hs5 y3;have hsa:w5.heap.size < (w5.alloc (.cells #[.int .i64 (0), .int .i64 (7)] 3)).heap.size:=by simp
   have hsb:n4 < (w5.alloc (.cells #[.int .i64 (0), .int .i64 (7)] 3)).heap.size:=by simp;omega
   have hsc:w.heap.size < (w5.alloc (.cells #[.int .i64 (0), .int .i64 (7)] 3)).heap.size:=by simp;omega
   have hne5:¬ w5.heap.size = R:=by omega
   clear hal hfl;go_wp2_with fail
   refine (zi 2 2 B R (m + 5) _ rfl (by omega) (by omega) (by omega) hR5a).mono ?_;rintro e w6 ⟨k6,rfl,hk6,hR6,hB6⟩;obtain ⟨v,hv,hv1,hv2⟩:∃ v:Int,(#[.int .i64 (0), .int .i64 (7)]:Array Value).toList[k6]? = some (.int .i64 v)∧-1 ≤ v∧v ≤ 1000:=by
    rcases (by omega:k6 = 0∨k6 = 1) with rfl | rfl <;> exact ⟨_,rfl,by omega,by omega⟩
   have z0:=(hB6.cell hsa hne5 k6).trans (hz.at0 hv).1;replace q0:=(hB6.cell hsc hne 0).trans q0;replace f0:=(hB6.fz hsc hne 0).trans f0;replace x0:=(hB6.cell hsb hne4 0).trans x0;replace y0:=(hB6.fz hsb hne4 0).trans y0;replace q1:=(hB6.cell hsc hne 1).trans q1;replace f1:=(hB6.fz hsc hne 1).trans f1;replace x1:=(hB6.cell hsb hne4 1).trans x1;replace y1:=(hB6.fz hsb hne4 1).trans y1;replace q2:=(hB6.cell hsc hne 2).trans q2;replace f2:=(hB6.fz hsc hne 2).trans f2;replace x2:=(hB6.cell hsb hne4 2).trans x2;replace y2:=(hB6.fz hsb hne4 2).trans y2;replace q3:=(hB6.cell hsc hne 3).trans q3;replace f3:=(hB6.fz hsc hne 3).trans f3;replace x3:=(hB6.cell hsb hne4 3).trans x3;replace y3:=(hB6.fz hsb hne4 3).trans y3;have hA6:=hA5a.trans hB6 (fun _ _ h=>h);have hs6':n4 < w6.heap.size:=Nat.lt_of_lt_of_le hsb hB6.size;have hs6'':w.heap.size < w6.heap.size:=by omega
   have hk6':(k6:Int) < 2:=by omega
   clear hB6 hsa hsb hsc hR5a hA5a hz hv hA5 hR5 hk6;go_wp2;refine bodyPost_ret (v:=.agg #[.int .i64 (1 + (k1:Int)), .int .i64 (1 + (k2:Int)), .int .i64 (v), .int .i64 ((k4:Int))]) (by simp [results,Tryz.results132,go_sem,q0,q1,q2,q3]) rfl ⟨⟨1 + (k1:Int),1 + (k2:Int),v,(k4:Int)⟩,rfl,⟨⟨by dsimp only;omega,by dsimp only;omega⟩,⟨by dsimp only;omega,by dsimp only;omega⟩,⟨by dsimp only;omega,by dsimp only;omega⟩,⟨by dsimp only;omega,by dsimp only;omega⟩⟩, ?_, ?_⟩
   . refine (Rd.high (L:=w.heap.size) hR6 ?_ hRl).mono (by omega);repeat (with_reducible refine Agr.setCell ?_ (.inr (by first | exact Nat.le_refl _ | (show w.heap.size ≤ n4;omega))) _)
     with_reducible exact Agr.refl _ _
   repeat (with_reducible refine Agr.setCell ?_ (.inl (by first | exact Nat.le_refl _ | (show w.heap.size ≤ n4;omega))) _)
   with_reducible exact hA6
 have t2:((k5:Int) == 2) = false:=by rw [beq_eq_false_iff_ne];omega
 by_cases h3:k5 = 3
 . have t3:((k5:Int) == 3) = true:=by subst h3;rfl
   clear h0 h1 h2 h3;have hz:=Row.new w5 #[.int .i64 (-1), .int .i64 (10)] 3;have hR5a:=hR5.alloc (.cells #[.int .i64 (-1), .int .i64 (10)] 3);have hA5a:=hA5.alloc (.cells #[.int .i64 (-1), .int .i64 (10)] 3);have hal:∀ (i:Nat) u b,b < w5.heap.size->w5.cell? ⟨b,i,none⟩ = u->(w5.alloc (.cells #[.int .i64 (-1), .int .i64 (10)] 3)).cell? ⟨b,i,none⟩ = u:=fun i u b hb h=>(((Below.refl w5.heap.size w5).alloc nl _).cell (p:=⟨b,i,none⟩) hb).trans h;have hfl:∀ (i:Nat) u b,b < w5.heap.size->w5.frozen? ⟨b,i,none⟩ = u->(w5.alloc (.cells #[.int .i64 (-1), .int .i64 (10)] 3)).frozen? ⟨b,i,none⟩ = u:=fun i u b hb h=>(((Below.refl w5.heap.size w5).alloc nl _).frozen (p:=⟨b,i,none⟩) hb).trans h;replace q0:=hal 0 _ _ hs5' q0;replace f0:=hfl 0 _ _ hs5' f0;replace x0:=hal 0 _ _ hs5 x0;replace y0:=hfl 0 _ _ hs5 y0;replace q1:=hal 1 _ _ hs5' q1;replace f1:=hfl 1 _ _ hs5' f1;replace x1:=hal 1 _ _ hs5 x1;replace y1:=hfl 1 _ _ hs5 y1;replace q2:=hal 2 _ _ hs5' q2;replace f2:=hfl 2 _ _ hs5' f2;replace x2:=hal 2 _ _ hs5 x2;replace y2:=hfl 2 _ _ hs5 y2;replace q3:=hal 3 _ _ hs5' q3;replace f3:=hfl 3 _ _ hs5' f3;replace x3:=hal 3 _ _ hs5 x3;replace y3:=hfl 3 _ _ hs5 y3;have hsa:w5.heap.size < (w5.alloc (.cells #[.int .i64 (-1), .int .i64 (10)] 3)).heap.size:=by simp
   have hsb:n4 < (w5.alloc (.cells #[.int .i64 (-1), .int .i64 (10)] 3)).heap.size:=by simp;omega
   have hsc:w.heap.size < (w5.alloc (.cells #[.int .i64 (-1), .int .i64 (10)] 3)).heap.size:=by simp;omega
   have hne5:¬ w5.heap.size = R:=by omega
   clear hal hfl;go_wp2_with fail
   refine (zi 2 2 B R (m + 5) _ rfl (by omega) (by omega) (by omega) hR5a).mono ?_;rintro e w6 ⟨k6,rfl,hk6,hR6,hB6⟩;obtain ⟨v,hv,hv1,hv2⟩:∃ v:Int,(#[.int .i64 (-1), .int .i64 (10)]:Array Value).toList[k6]? = some (.int .i64 v)∧-1 ≤ v∧v ≤ 1000:=by
    rcases (by omega:k6 = 0∨k6 = 1) with rfl | rfl <;> exact ⟨_,rfl,by omega,by omega⟩
   have z0:=(hB6.cell hsa hne5 k6).trans (hz.at0 hv).1;replace q0:=(hB6.cell hsc hne 0).trans q0;replace f0:=(hB6.fz hsc hne 0).trans f0;replace x0:=(hB6.cell hsb hne4 0).trans x0;replace y0:=(hB6.fz hsb hne4 0).trans y0;replace q1:=(hB6.cell hsc hne 1).trans q1;replace f1:=(hB6.fz hsc hne 1).trans f1;replace x1:=(hB6.cell hsb hne4 1).trans x1;replace y1:=(hB6.fz hsb hne4 1).trans y1;replace q2:=(hB6.cell hsc hne 2).trans q2;replace f2:=(hB6.fz hsc hne 2).trans f2;replace x2:=(hB6.cell hsb hne4 2).trans x2;replace y2:=(hB6.fz hsb hne4 2).trans y2;replace q3:=(hB6.cell hsc hne 3).trans q3;replace f3:=(hB6.fz hsc hne 3).trans f3;replace x3:=(hB6.cell hsb hne4 3).trans x3;replace y3:=(hB6.fz hsb hne4 3).trans y3;have hA6:=hA5a.trans hB6 (fun _ _ h=>h);have hs6':n4 < w6.heap.size:=Nat.lt_of_lt_of_le hsb hB6.size;have hs6'':w.heap.size < w6.heap.size:=by omega
   have hk6':(k6:Int) < 2:=by omega
   clear hB6 hsa hsb hsc hR5a hA5a hz hv hA5 hR5 hk6;go_wp2;refine bodyPost_ret (v:=.agg #[.int .i64 (1 + (k1:Int)), .int .i64 (1 + (k2:Int)), .int .i64 (1 + (k3:Int)), .int .i64 (v)]) (by simp [results,Tryz.results132,go_sem,q0,q1,q2,q3]) rfl ⟨⟨1 + (k1:Int),1 + (k2:Int),1 + (k3:Int),v⟩,rfl,⟨⟨by dsimp only;omega,by dsimp only;omega⟩,⟨by dsimp only;omega,by dsimp only;omega⟩,⟨by dsimp only;omega,by dsimp only;omega⟩,⟨by dsimp only;omega,by dsimp only;omega⟩⟩, ?_, ?_⟩
   . refine (Rd.high (L:=w.heap.size) hR6 ?_ hRl).mono (by omega);repeat (with_reducible refine Agr.setCell ?_ (.inr (by first | exact Nat.le_refl _ | (show w.heap.size ≤ n4;omega))) _)
     with_reducible exact Agr.refl _ _
   repeat (with_reducible refine Agr.setCell ?_ (.inl (by first | exact Nat.le_refl _ | (show w.heap.size ≤ n4;omega))) _)
   with_reducible exact hA6
 have t3:((k5:Int) == 3) = false:=by rw [beq_eq_false_iff_ne];omega
 clear h0 h1 h2 h3;go_wp2;refine bodyPost_ret (v:=.agg #[.int .i64 (1 + (k1:Int)), .int .i64 (1 + (k2:Int)), .int .i64 (1 + (k3:Int)), .int .i64 ((k4:Int))]) (by simp [results,Tryz.results132,go_sem,q0,q1,q2,q3]) rfl ⟨⟨1 + (k1:Int),1 + (k2:Int),1 + (k3:Int),(k4:Int)⟩,rfl,⟨⟨by dsimp only;omega,by dsimp only;omega⟩,⟨by dsimp only;omega,by dsimp only;omega⟩,⟨by dsimp only;omega,by dsimp only;omega⟩,⟨by dsimp only;omega,by dsimp only;omega⟩⟩, ?_, ?_⟩
 . refine (Rd.high (L:=w.heap.size) hR5 ?_ hRl).mono (by omega);repeat (with_reducible refine Agr.setCell ?_ (.inr (by first | exact Nat.le_refl _ | (show w.heap.size ≤ n4;omega))) _)
   with_reducible exact Agr.refl _ _
 repeat (with_reducible refine Agr.setCell ?_ (.inl (by first | exact Nat.le_refl _ | (show w.heap.size ≤ n4;omega))) _)
 with_reducible exact hA5
end
section
open Go.RowKit Go.Maps
def zio (e:Ev):Prop:=(1 ≤ e.kind∧e.kind ≤ 4)∧(1 ≤ e.a∧e.a ≤ 6)∧(0 ≤ e.b∧e.b ≤ 9)∧(0 ≤ e.c∧e.c ≤ 9)
theorem zc5 (B R m:Nat) (w:World) (hm:m ≤ 900000) (hR:Rd w B R m) :
 Calls Tryz.prog 23 #[.pointer (some ⟨R,0,none⟩)] w fun e w'=>∃ x:Ev,e = .returned (.agg #[.int .i64 x.kind, .int .i64 x.a, .int .i64 x.b, .int .i64 x.c, .bool x.torn])∧zio x∧Rd w' B R (m + 7)∧Agr (· = R) w w':=by
 have hRl:=hR.lt;have hq:=Row.new w #[.int .i64 0, .int .i64 0, .int .i64 0, .int .i64 0, .bool false] 33;obtain ⟨q0,f0⟩:=hq.at0 (j:=0) rfl;obtain ⟨q1,f1⟩:=hq.at0 (j:=1) rfl;obtain ⟨q2,f2⟩:=hq.at0 (j:=2) rfl;obtain ⟨q3,f3⟩:=hq.at0 (j:=3) rfl;obtain ⟨q4,f4⟩:=hq.at0 (j:=4) rfl;have hR0:=hR.alloc (.cells #[.int .i64 0, .int .i64 0, .int .i64 0, .int .i64 0, .bool false] 33);have hA0:Agr (· = R) w (w.alloc (.cells #[.int .i64 0, .int .i64 0, .int .i64 0, .int .i64 0, .bool false] 33)):=(Agr.refl _ _).alloc _;have hs0:w.heap.size < (w.alloc (.cells #[.int .i64 0, .int .i64 0, .int .i64 0, .int .i64 0, .bool false] 33)).heap.size:=by simp
 have hne:¬ w.heap.size = R:=by omega
 clear hq
 go_enter Tryz.func23,Tryz.ntmps23
 go_wp2_with fail
 refine (zi 6 6 B R (m + 0) _ rfl (by omega) (by omega) (by omega) hR0).mono ?_;rintro e w1 ⟨k1,rfl,hk1,hR1,hB1⟩;have h5:=fv (hB1.cell hs0 hne) (hB1.fz hs0 hne) ⟨q0,f0,q1,f1,q2,f2,q3,f3,q4,f4⟩;clear q0 f0 q1 f1 q2 f2 q3 f3 q4 f4;obtain ⟨q0,f0,q1,f1,q2,f2,q3,f3,q4,f4⟩:=h5;have hs1:w.heap.size < w1.heap.size:=Nat.lt_of_lt_of_le hs0 hB1.size;have hA1:=hA0.trans hB1 (fun _ _ h=>h);have e1:IntKind.i64.wrap (1 + (k1:Int)) = 1 + k1:=IntWalk.i64_in _ (by omega);clear hR0 hA0 hs0 hB1;go_wp2_with fail
 refine (zi 10 10 B R (m + 1) _ rfl (by omega) (by omega) (by omega) hR1).mono ?_;rintro e w2 ⟨k2,rfl,hk2,hR2,hB2⟩;have h5:=fv (hB2.cell hs1 hne) (hB2.fz hs1 hne) ⟨q0,f0,q1,f1,q2,f2,q3,f3,q4,f4⟩;clear q0 f0 q1 f1 q2 f2 q3 f3 q4 f4;obtain ⟨q0,f0,q1,f1,q2,f2,q3,f3,q4,f4⟩:=h5;have hs2:w.heap.size < w2.heap.size:=Nat.lt_of_lt_of_le hs1 hB2.size;have hA2:=hA1.trans hB2 (fun _ _ h=>h);clear hR1 hA1 hs1 hB2;obtain ⟨n4,hn4⟩:∃ n,n = w2.heap.size:=⟨_,rfl⟩;have hx:=Row.new w2 #[.int .i64 1, .int .i64 (1 + k1), .int .i64 k2, .int .i64 9, .bool false] 33;obtain ⟨x0,y0⟩:=hx.at0 (j:=0) rfl;obtain ⟨x1,y1⟩:=hx.at0 (j:=1) rfl;obtain ⟨x2,y2⟩:=hx.at0 (j:=2) rfl;obtain ⟨x3,y3⟩:=hx.at0 (j:=3) rfl;obtain ⟨x4,y4⟩:=hx.at0 (j:=4) rfl;have hq2:∀ (i:Nat) u,w2.cell? ⟨w.heap.size,i,none⟩ = u->(w2.alloc (.cells #[.int .i64 1, .int .i64 (1 + k1), .int .i64 k2, .int .i64 9, .bool false] 33)).cell? ⟨w.heap.size,i,none⟩ = u:=fun i u h=>(((Below.refl w2.heap.size w2).alloc nl _).cell (p:=⟨w.heap.size,i,none⟩) hs2).trans h;have hf2:∀ (i:Nat) u,w2.frozen? ⟨w.heap.size,i,none⟩ = u->(w2.alloc (.cells #[.int .i64 1, .int .i64 (1 + k1), .int .i64 k2, .int .i64 9, .bool false] 33)).frozen? ⟨w.heap.size,i,none⟩ = u:=fun i u h=>(((Below.refl w2.heap.size w2).alloc nl _).frozen (p:=⟨w.heap.size,i,none⟩) hs2).trans h;replace q0:=hq2 0 _ q0;replace f0:=hf2 0 _ f0;replace q1:=hq2 1 _ q1;replace f1:=hf2 1 _ f1;replace q2:=hq2 2 _ q2;replace f2:=hf2 2 _ f2;replace q3:=hq2 3 _ q3;replace f3:=hf2 3 _ f3;replace q4:=hq2 4 _ q4;replace f4:=hf2 4 _ f4;have hs4':w2.heap.size < (w2.alloc (.cells #[.int .i64 1, .int .i64 (1 + k1), .int .i64 k2, .int .i64 9, .bool false] 33)).heap.size:=by simp
 have hs4'':w.heap.size < (w2.alloc (.cells #[.int .i64 1, .int .i64 (1 + k1), .int .i64 k2, .int .i64 9, .bool false] 33)).heap.size:=by simp;omega
 have hne4:¬ w2.heap.size = R:=by omega
 have hAa:Agr (· = R) w (w2.alloc (.cells #[.int .i64 1, .int .i64 (1 + k1), .int .i64 k2, .int .i64 9, .bool false] 33)):=hA2.alloc _;clear hx hq2 hf2;go_wp2_with fail
 refine (zi 12 12 B R (m + 2) _ rfl (by omega) (by omega) (by omega) (hR2.alloc _)).mono ?_;rintro e w3 ⟨k3,rfl,hk3,hR3,hB3⟩;have h5:=fv (hB3.cell hs4'' hne) (hB3.fz hs4'' hne) ⟨q0,f0,q1,f1,q2,f2,q3,f3,q4,f4⟩;clear q0 f0 q1 f1 q2 f2 q3 f3 q4 f4;obtain ⟨q0,f0,q1,f1,q2,f2,q3,f3,q4,f4⟩:=h5;have h5:=fv (hB3.cell hs4' hne4) (hB3.fz hs4' hne4) ⟨x0,y0,x1,y1,x2,y2,x3,y3,x4,y4⟩;clear x0 y0 x1 y1 x2 y2 x3 y3 x4 y4;obtain ⟨x0,y0,x1,y1,x2,y2,x3,y3,x4,y4⟩:=h5;have hs3:w2.heap.size < w3.heap.size:=Nat.lt_of_lt_of_le hs4' hB3.size;have hA3:=hAa.trans hB3 (fun _ _ h=>h);have hs6:w.heap.size < n4:=by omega
 rw [← hn4] at *;have hs3':w.heap.size < w3.heap.size:=by omega
 clear hAa hB3 hA2 hR2 hs4' hs4'' hn4;by_cases h0:k3 < 3
 . have h01:k3 = 0∨k3 = 1∨k3 = 2:=by omega
   clear h0;rcases h01 with rfl | rfl | rfl
   . clear hk3;go_wp2_with fail
     have hW:=zq x0 (.int .i64 2);have hRs:Rd (w3.setCell ⟨n4,0,none⟩ (.int .i64 2)) B R (m + 3):=hR3.agr hW.agr (by omega) (fun b hb e=>by have:=hR3.le;omega);have hAs:Agr (· = R) w (w3.setCell ⟨n4,0,none⟩ (.int .i64 2)):=hA3.setCell (.inl (by show w.heap.size ≤ n4;omega)) _;have x0n:(w3.setCell ⟨n4,0,none⟩ (.int .i64 2)).cell? ⟨n4,0,none⟩ = some (.int .i64 2):=hW.new_ 0 _ rfl;have h5:=fv (hW.agr.cell (b:=w.heap.size) (by omega) (by omega)) (fun j=>hW.frozen ⟨w.heap.size,j,none⟩) ⟨q0,f0,q1,f1,q2,f2,q3,f3,q4,f4⟩;clear q0 f0 q1 f1 q2 f2 q3 f3 q4 f4;obtain ⟨q0,f0,q1,f1,q2,f2,q3,f3,q4,f4⟩:=h5;have h5:=fu (fun j=>hW.frozen ⟨n4,j,none⟩) ⟨y0,y1,y2,y3,y4⟩;clear y0 y1 y2 y3 y4;obtain ⟨y0,y1,y2,y3,y4⟩:=h5;replace x1:=(hW.old_ 1 (by simp)).trans x1;replace x2:=(hW.old_ 2 (by simp)).trans x2;replace x3:=(hW.old_ 3 (by simp)).trans x3;replace x4:=(hW.old_ 4 (by simp)).trans x4;replace x0:=x0n;have hsa:n4 < (w3.setCell ⟨n4,0,none⟩ (.int .i64 2)).heap.size:=by simpa using hs3
     have hsb:w.heap.size < (w3.setCell ⟨n4,0,none⟩ (.int .i64 2)).heap.size:=by simpa using hs3'
     clear hW x0n hR3 hA3;refine (zi 4 4 B R (m + 3) _ rfl (by omega) (by omega) (by omega) hRs).mono ?_;rintro e w5 ⟨k5,rfl,hk5,hR5,hB5⟩;have h5:=fv (hB5.cell hsb hne) (hB5.fz hsb hne) ⟨q0,f0,q1,f1,q2,f2,q3,f3,q4,f4⟩;clear q0 f0 q1 f1 q2 f2 q3 f3 q4 f4;obtain ⟨q0,f0,q1,f1,q2,f2,q3,f3,q4,f4⟩:=h5;have h5:=fv (hB5.cell hsa hne4) (hB5.fz hsa hne4) ⟨x0,y0,x1,y1,x2,y2,x3,y3,x4,y4⟩;clear x0 y0 x1 y1 x2 y2 x3 y3 x4 y4;obtain ⟨x0,y0,x1,y1,x2,y2,x3,y3,x4,y4⟩:=h5;have hA5:=hAs.trans hB5 (fun _ _ h=>h);have hs5:n4 < w5.heap.size:=Nat.lt_of_lt_of_le hsa hB5.size;have hs5':w.heap.size < w5.heap.size:=by omega
     clear hB5 hAs hRs;by_cases h5:k5 = 0
     . have t5:((k5:Int) == 0) = true:=by subst h5;rfl
       clear h5;go_wp2_with fail
       refine (zi 5 5 B R (m + 4) _ rfl (by omega) (by omega) (by omega) hR5).mono ?_;rintro e w6 ⟨k6,rfl,hk6,hR6,hB6⟩;have h5:=fv (hB6.cell hs5' hne) (hB6.fz hs5' hne) ⟨q0,f0,q1,f1,q2,f2,q3,f3,q4,f4⟩;clear q0 f0 q1 f1 q2 f2 q3 f3 q4 f4;obtain ⟨q0,f0,q1,f1,q2,f2,q3,f3,q4,f4⟩:=h5;have h5:=fv (hB6.cell hs5 hne4) (hB6.fz hs5 hne4) ⟨x0,y0,x1,y1,x2,y2,x3,y3,x4,y4⟩;clear x0 y0 x1 y1 x2 y2 x3 y3 x4 y4;obtain ⟨x0,y0,x1,y1,x2,y2,x3,y3,x4,y4⟩:=h5;have hA6:=hA5.trans hB6 (fun _ _ h=>h);have hs6a:n4 < w6.heap.size:=Nat.lt_of_lt_of_le hs5 hB6.size;have hs6b:w.heap.size < w6.heap.size:=by omega
       go_wp2_with fail
       have hW:=zq x3 (.int .i64 k6);have hR6s:Rd (w6.setCell ⟨n4,3,none⟩ (.int .i64 k6)) B R (m + 5):=hR6.agr hW.agr (by omega) (fun b hb e=>by have:=hR6.le;omega);have hA6s:Agr (· = R) w (w6.setCell ⟨n4,3,none⟩ (.int .i64 k6)):=hA6.setCell (.inl (by show w.heap.size ≤ n4;omega)) _;have x3n:(w6.setCell ⟨n4,3,none⟩ (.int .i64 k6)).cell? ⟨n4,3,none⟩ = some (.int .i64 k6):=hW.new_ 0 _ rfl;have h5:=fv (hW.agr.cell (b:=w.heap.size) (by omega) (by omega)) (fun j=>hW.frozen ⟨w.heap.size,j,none⟩) ⟨q0,f0,q1,f1,q2,f2,q3,f3,q4,f4⟩;clear q0 f0 q1 f1 q2 f2 q3 f3 q4 f4;obtain ⟨q0,f0,q1,f1,q2,f2,q3,f3,q4,f4⟩:=h5;have h5:=fu (fun j=>hW.frozen ⟨n4,j,none⟩) ⟨y0,y1,y2,y3,y4⟩;clear y0 y1 y2 y3 y4;obtain ⟨y0,y1,y2,y3,y4⟩:=h5;replace x0:=(hW.old_ 0 (by simp)).trans x0;replace x1:=(hW.old_ 1 (by simp)).trans x1;replace x2:=(hW.old_ 2 (by simp)).trans x2;replace x4:=(hW.old_ 4 (by simp)).trans x4;replace x3:=x3n;have hs7:n4 < (w6.setCell ⟨n4,3,none⟩ (.int .i64 k6)).heap.size:=by simpa using hs6a
       have hs7':w.heap.size < (w6.setCell ⟨n4,3,none⟩ (.int .i64 k6)).heap.size:=by simpa using hs6b
       clear hW x3n hB6 hR6 hA6 hA5 hR5;refine (zi 3 3 B R (m + 5) _ rfl (by omega) (by omega) (by omega) hR6s).mono ?_;rintro e w7 ⟨k7,rfl,hk7,hR7,hB7⟩;have h5:=fv (hB7.cell hs7' hne) (hB7.fz hs7' hne) ⟨q0,f0,q1,f1,q2,f2,q3,f3,q4,f4⟩;clear q0 f0 q1 f1 q2 f2 q3 f3 q4 f4;obtain ⟨q0,f0,q1,f1,q2,f2,q3,f3,q4,f4⟩:=h5;have h5:=fv (hB7.cell hs7 hne4) (hB7.fz hs7 hne4) ⟨x0,y0,x1,y1,x2,y2,x3,y3,x4,y4⟩;clear x0 y0 x1 y1 x2 y2 x3 y3 x4 y4;obtain ⟨x0,y0,x1,y1,x2,y2,x3,y3,x4,y4⟩:=h5;have hA7:=hA6s.trans hB7 (fun _ _ h=>h);have hs7a:n4 < w7.heap.size:=Nat.lt_of_lt_of_le hs7 hB7.size;have hs7b:w.heap.size < w7.heap.size:=by omega
       clear hB7 hR6s hA6s hs7 hs7';go_wp2;refine bodyPost_ret (v:=.agg #[.int .i64 (2), .int .i64 (1 + (k1:Int)), .int .i64 ((k2:Int)), .int .i64 ((k6:Int)), .bool (decide ((0:Int) < k7))]) (by simp [results,Tryz.results23,go_sem,q0,q1,q2,q3,q4]) rfl ⟨⟨2,1 + (k1:Int),(k2:Int),(k6:Int),decide ((0:Int) < k7)⟩,rfl,⟨⟨by dsimp only;omega,by dsimp only;omega⟩,⟨by dsimp only;omega,by dsimp only;omega⟩,⟨by dsimp only;omega,by dsimp only;omega⟩,⟨by dsimp only;omega,by dsimp only;omega⟩⟩, ?_, ?_⟩
       . refine (Rd.high (L:=w.heap.size) hR7 ?_ hRl).mono (by omega);repeat (with_reducible refine Agr.setCell ?_ (.inr (by first | exact Nat.le_refl _ | (show w.heap.size ≤ n4;omega))) _)
         with_reducible exact Agr.refl _ _
       repeat (with_reducible refine Agr.setCell ?_ (.inl (by first | exact Nat.le_refl _ | (show w.heap.size ≤ n4;omega))) _)
       with_reducible exact hA7
     have t5:((k5:Int) == 0) = false:=by rw [beq_eq_false_iff_ne];omega
     clear h5;go_wp2;refine bodyPost_ret (v:=.agg #[.int .i64 (2), .int .i64 (1 + (k1:Int)), .int .i64 ((k2:Int)), .int .i64 (9), .bool (false)]) (by simp [results,Tryz.results23,go_sem,q0,q1,q2,q3,q4]) rfl ⟨⟨2,1 + (k1:Int),(k2:Int),9,false⟩,rfl,⟨⟨by dsimp only;omega,by dsimp only;omega⟩,⟨by dsimp only;omega,by dsimp only;omega⟩,⟨by dsimp only;omega,by dsimp only;omega⟩,⟨by dsimp only;omega,by dsimp only;omega⟩⟩, ?_, ?_⟩
     . refine (Rd.high (L:=w.heap.size) hR5 ?_ hRl).mono (by omega);repeat (with_reducible refine Agr.setCell ?_ (.inr (by first | exact Nat.le_refl _ | (show w.heap.size ≤ n4;omega))) _)
       with_reducible exact Agr.refl _ _
     repeat (with_reducible refine Agr.setCell ?_ (.inl (by first | exact Nat.le_refl _ | (show w.heap.size ≤ n4;omega))) _)
     with_reducible exact hA5

   . clear hk3;go_wp2_with fail
     have hW:=zq x0 (.int .i64 2);have hRs:Rd (w3.setCell ⟨n4,0,none⟩ (.int .i64 2)) B R (m + 3):=hR3.agr hW.agr (by omega) (fun b hb e=>by have:=hR3.le;omega);have hAs:Agr (· = R) w (w3.setCell ⟨n4,0,none⟩ (.int .i64 2)):=hA3.setCell (.inl (by show w.heap.size ≤ n4;omega)) _;have x0n:(w3.setCell ⟨n4,0,none⟩ (.int .i64 2)).cell? ⟨n4,0,none⟩ = some (.int .i64 2):=hW.new_ 0 _ rfl;have h5:=fv (hW.agr.cell (b:=w.heap.size) (by omega) (by omega)) (fun j=>hW.frozen ⟨w.heap.size,j,none⟩) ⟨q0,f0,q1,f1,q2,f2,q3,f3,q4,f4⟩;clear q0 f0 q1 f1 q2 f2 q3 f3 q4 f4;obtain ⟨q0,f0,q1,f1,q2,f2,q3,f3,q4,f4⟩:=h5;have h5:=fu (fun j=>hW.frozen ⟨n4,j,none⟩) ⟨y0,y1,y2,y3,y4⟩;clear y0 y1 y2 y3 y4;obtain ⟨y0,y1,y2,y3,y4⟩:=h5;replace x1:=(hW.old_ 1 (by simp)).trans x1;replace x2:=(hW.old_ 2 (by simp)).trans x2;replace x3:=(hW.old_ 3 (by simp)).trans x3;replace x4:=(hW.old_ 4 (by simp)).trans x4;replace x0:=x0n;have hsa:n4 < (w3.setCell ⟨n4,0,none⟩ (.int .i64 2)).heap.size:=by simpa using hs3
     have hsb:w.heap.size < (w3.setCell ⟨n4,0,none⟩ (.int .i64 2)).heap.size:=by simpa using hs3'
     clear hW x0n hR3 hA3;refine (zi 4 4 B R (m + 3) _ rfl (by omega) (by omega) (by omega) hRs).mono ?_;rintro e w5 ⟨k5,rfl,hk5,hR5,hB5⟩;have h5:=fv (hB5.cell hsb hne) (hB5.fz hsb hne) ⟨q0,f0,q1,f1,q2,f2,q3,f3,q4,f4⟩;clear q0 f0 q1 f1 q2 f2 q3 f3 q4 f4;obtain ⟨q0,f0,q1,f1,q2,f2,q3,f3,q4,f4⟩:=h5;have h5:=fv (hB5.cell hsa hne4) (hB5.fz hsa hne4) ⟨x0,y0,x1,y1,x2,y2,x3,y3,x4,y4⟩;clear x0 y0 x1 y1 x2 y2 x3 y3 x4 y4;obtain ⟨x0,y0,x1,y1,x2,y2,x3,y3,x4,y4⟩:=h5;have hA5:=hAs.trans hB5 (fun _ _ h=>h);have hs5:n4 < w5.heap.size:=Nat.lt_of_lt_of_le hsa hB5.size;have hs5':w.heap.size < w5.heap.size:=by omega
     clear hB5 hAs hRs;by_cases h5:k5 = 0
     . have t5:((k5:Int) == 0) = true:=by subst h5;rfl
       clear h5;go_wp2_with fail
       refine (zi 5 5 B R (m + 4) _ rfl (by omega) (by omega) (by omega) hR5).mono ?_;rintro e w6 ⟨k6,rfl,hk6,hR6,hB6⟩;have h5:=fv (hB6.cell hs5' hne) (hB6.fz hs5' hne) ⟨q0,f0,q1,f1,q2,f2,q3,f3,q4,f4⟩;clear q0 f0 q1 f1 q2 f2 q3 f3 q4 f4;obtain ⟨q0,f0,q1,f1,q2,f2,q3,f3,q4,f4⟩:=h5;have h5:=fv (hB6.cell hs5 hne4) (hB6.fz hs5 hne4) ⟨x0,y0,x1,y1,x2,y2,x3,y3,x4,y4⟩;clear x0 y0 x1 y1 x2 y2 x3 y3 x4 y4;obtain ⟨x0,y0,x1,y1,x2,y2,x3,y3,x4,y4⟩:=h5;have hA6:=hA5.trans hB6 (fun _ _ h=>h);have hs6a:n4 < w6.heap.size:=Nat.lt_of_lt_of_le hs5 hB6.size;have hs6b:w.heap.size < w6.heap.size:=by omega
       go_wp2_with fail
       have hW:=zq x3 (.int .i64 k6);have hR6s:Rd (w6.setCell ⟨n4,3,none⟩ (.int .i64 k6)) B R (m + 5):=hR6.agr hW.agr (by omega) (fun b hb e=>by have:=hR6.le;omega);have hA6s:Agr (· = R) w (w6.setCell ⟨n4,3,none⟩ (.int .i64 k6)):=hA6.setCell (.inl (by show w.heap.size ≤ n4;omega)) _;have x3n:(w6.setCell ⟨n4,3,none⟩ (.int .i64 k6)).cell? ⟨n4,3,none⟩ = some (.int .i64 k6):=hW.new_ 0 _ rfl;have h5:=fv (hW.agr.cell (b:=w.heap.size) (by omega) (by omega)) (fun j=>hW.frozen ⟨w.heap.size,j,none⟩) ⟨q0,f0,q1,f1,q2,f2,q3,f3,q4,f4⟩;clear q0 f0 q1 f1 q2 f2 q3 f3 q4 f4;obtain ⟨q0,f0,q1,f1,q2,f2,q3,f3,q4,f4⟩:=h5;have h5:=fu (fun j=>hW.frozen ⟨n4,j,none⟩) ⟨y0,y1,y2,y3,y4⟩;clear y0 y1 y2 y3 y4;obtain ⟨y0,y1,y2,y3,y4⟩:=h5;replace x0:=(hW.old_ 0 (by simp)).trans x0;replace x1:=(hW.old_ 1 (by simp)).trans x1;replace x2:=(hW.old_ 2 (by simp)).trans x2;replace x4:=(hW.old_ 4 (by simp)).trans x4;replace x3:=x3n;have hs7:n4 < (w6.setCell ⟨n4,3,none⟩ (.int .i64 k6)).heap.size:=by simpa using hs6a
       have hs7':w.heap.size < (w6.setCell ⟨n4,3,none⟩ (.int .i64 k6)).heap.size:=by simpa using hs6b
       clear hW x3n hB6 hR6 hA6 hA5 hR5;refine (zi 3 3 B R (m + 5) _ rfl (by omega) (by omega) (by omega) hR6s).mono ?_;rintro e w7 ⟨k7,rfl,hk7,hR7,hB7⟩;have h5:=fv (hB7.cell hs7' hne) (hB7.fz hs7' hne) ⟨q0,f0,q1,f1,q2,f2,q3,f3,q4,f4⟩;clear q0 f0 q1 f1 q2 f2 q3 f3 q4 f4;obtain ⟨q0,f0,q1,f1,q2,f2,q3,f3,q4,f4⟩:=h5;have h5:=fv (hB7.cell hs7 hne4) (hB7.fz hs7 hne4) ⟨x0,y0,x1,y1,x2,y2,x3,y3,x4,y4⟩;clear x0 y0 x1 y1 x2 y2 x3 y3 x4 y4;obtain ⟨x0,y0,x1,y1,x2,y2,x3,y3,x4,y4⟩:=h5;have hA7:=hA6s.trans hB7 (fun _ _ h=>h);have hs7a:n4 < w7.heap.size:=Nat.lt_of_lt_of_le hs7 hB7.size;have hs7b:w.heap.size < w7.heap.size:=by omega
       clear hB7 hR6s hA6s hs7 hs7';go_wp2;refine bodyPost_ret (v:=.agg #[.int .i64 (2), .int .i64 (1 + (k1:Int)), .int .i64 ((k2:Int)), .int .i64 ((k6:Int)), .bool (decide ((0:Int) < k7))]) (by simp [results,Tryz.results23,go_sem,q0,q1,q2,q3,q4]) rfl ⟨⟨2,1 + (k1:Int),(k2:Int),(k6:Int),decide ((0:Int) < k7)⟩,rfl,⟨⟨by dsimp only;omega,by dsimp only;omega⟩,⟨by dsimp only;omega,by dsimp only;omega⟩,⟨by dsimp only;omega,by dsimp only;omega⟩,⟨by dsimp only;omega,by dsimp only;omega⟩⟩, ?_, ?_⟩
       . refine (Rd.high (L:=w.heap.size) hR7 ?_ hRl).mono (by omega);repeat (with_reducible refine Agr.setCell ?_ (.inr (by first | exact Nat.le_refl _ | (show w.heap.size ≤ n4;omega))) _)
         with_reducible exact Agr.refl _ _
       repeat (with_reducible refine Agr.setCell ?_ (.inl (by first | exact Nat.le_refl _ | (show w.heap.size ≤ n4;omega))) _)
       with_reducible exact hA7
     have t5:((k5:Int) == 0) = false:=by rw [beq_eq_false_iff_ne];omega
     clear h5;go_wp2;refine bodyPost_ret (v:=.agg #[.int .i64 (2), .int .i64 (1 + (k1:Int)), .int .i64 ((k2:Int)), .int .i64 (9), .bool (false)]) (by simp [results,Tryz.results23,go_sem,q0,q1,q2,q3,q4]) rfl ⟨⟨2,1 + (k1:Int),(k2:Int),9,false⟩,rfl,⟨⟨by dsimp only;omega,by dsimp only;omega⟩,⟨by dsimp only;omega,by dsimp only;omega⟩,⟨by dsimp only;omega,by dsimp only;omega⟩,⟨by dsimp only;omega,by dsimp only;omega⟩⟩, ?_, ?_⟩
     . refine (Rd.high (L:=w.heap.size) hR5 ?_ hRl).mono (by omega);repeat (with_reducible refine Agr.setCell ?_ (.inr (by first | exact Nat.le_refl _ | (show w.heap.size ≤ n4;omega))) _)
       with_reducible exact Agr.refl _ _
     repeat (with_reducible refine Agr.setCell ?_ (.inl (by first | exact Nat.le_refl _ | (show w.heap.size ≤ n4;omega))) _)
     with_reducible exact hA5

   clear hk3;go_wp2_with fail
   have hW:=zq x0 (.int .i64 2);have hRs:Rd (w3.setCell ⟨n4,0,none⟩ (.int .i64 2)) B R (m + 3):=hR3.agr hW.agr (by omega) (fun b hb e=>by have:=hR3.le;omega);have hAs:Agr (· = R) w (w3.setCell ⟨n4,0,none⟩ (.int .i64 2)):=hA3.setCell (.inl (by show w.heap.size ≤ n4;omega)) _;have x0n:(w3.setCell ⟨n4,0,none⟩ (.int .i64 2)).cell? ⟨n4,0,none⟩ = some (.int .i64 2):=hW.new_ 0 _ rfl;have h5:=fv (hW.agr.cell (b:=w.heap.size) (by omega) (by omega)) (fun j=>hW.frozen ⟨w.heap.size,j,none⟩) ⟨q0,f0,q1,f1,q2,f2,q3,f3,q4,f4⟩;clear q0 f0 q1 f1 q2 f2 q3 f3 q4 f4;obtain ⟨q0,f0,q1,f1,q2,f2,q3,f3,q4,f4⟩:=h5;have h5:=fu (fun j=>hW.frozen ⟨n4,j,none⟩) ⟨y0,y1,y2,y3,y4⟩;clear y0 y1 y2 y3 y4;obtain ⟨y0,y1,y2,y3,y4⟩:=h5;replace x1:=(hW.old_ 1 (by simp)).trans x1;replace x2:=(hW.old_ 2 (by simp)).trans x2;replace x3:=(hW.old_ 3 (by simp)).trans x3;replace x4:=(hW.old_ 4 (by simp)).trans x4;replace x0:=x0n;have hsa:n4 < (w3.setCell ⟨n4,0,none⟩ (.int .i64 2)).heap.size:=by simpa using hs3
   have hsb:w.heap.size < (w3.setCell ⟨n4,0,none⟩ (.int .i64 2)).heap.size:=by simpa using hs3'
   clear hW x0n hR3 hA3;refine (zi 4 4 B R (m + 3) _ rfl (by omega) (by omega) (by omega) hRs).mono ?_;rintro e w5 ⟨k5,rfl,hk5,hR5,hB5⟩;have h5:=fv (hB5.cell hsb hne) (hB5.fz hsb hne) ⟨q0,f0,q1,f1,q2,f2,q3,f3,q4,f4⟩;clear q0 f0 q1 f1 q2 f2 q3 f3 q4 f4;obtain ⟨q0,f0,q1,f1,q2,f2,q3,f3,q4,f4⟩:=h5;have h5:=fv (hB5.cell hsa hne4) (hB5.fz hsa hne4) ⟨x0,y0,x1,y1,x2,y2,x3,y3,x4,y4⟩;clear x0 y0 x1 y1 x2 y2 x3 y3 x4 y4;obtain ⟨x0,y0,x1,y1,x2,y2,x3,y3,x4,y4⟩:=h5;have hA5:=hAs.trans hB5 (fun _ _ h=>h);have hs5:n4 < w5.heap.size:=Nat.lt_of_lt_of_le hsa hB5.size;have hs5':w.heap.size < w5.heap.size:=by omega
   clear hB5 hAs hRs;by_cases h5:k5 = 0
   . have t5:((k5:Int) == 0) = true:=by subst h5;rfl
     clear h5;go_wp2_with fail
     refine (zi 5 5 B R (m + 4) _ rfl (by omega) (by omega) (by omega) hR5).mono ?_;rintro e w6 ⟨k6,rfl,hk6,hR6,hB6⟩;have h5:=fv (hB6.cell hs5' hne) (hB6.fz hs5' hne) ⟨q0,f0,q1,f1,q2,f2,q3,f3,q4,f4⟩;clear q0 f0 q1 f1 q2 f2 q3 f3 q4 f4;obtain ⟨q0,f0,q1,f1,q2,f2,q3,f3,q4,f4⟩:=h5;have h5:=fv (hB6.cell hs5 hne4) (hB6.fz hs5 hne4) ⟨x0,y0,x1,y1,x2,y2,x3,y3,x4,y4⟩;clear x0 y0 x1 y1 x2 y2 x3 y3 x4 y4;obtain ⟨x0,y0,x1,y1,x2,y2,x3,y3,x4,y4⟩:=h5;have hA6:=hA5.trans hB6 (fun _ _ h=>h);have hs6a:n4 < w6.heap.size:=Nat.lt_of_lt_of_le hs5 hB6.size;have hs6b:w.heap.size < w6.heap.size:=by omega
     go_wp2_with fail
     have hW:=zq x3 (.int .i64 k6);have hR6s:Rd (w6.setCell ⟨n4,3,none⟩ (.int .i64 k6)) B R (m + 5):=hR6.agr hW.agr (by omega) (fun b hb e=>by have:=hR6.le;omega);have hA6s:Agr (· = R) w (w6.setCell ⟨n4,3,none⟩ (.int .i64 k6)):=hA6.setCell (.inl (by show w.heap.size ≤ n4;omega)) _;have x3n:(w6.setCell ⟨n4,3,none⟩ (.int .i64 k6)).cell? ⟨n4,3,none⟩ = some (.int .i64 k6):=hW.new_ 0 _ rfl;have h5:=fv (hW.agr.cell (b:=w.heap.size) (by omega) (by omega)) (fun j=>hW.frozen ⟨w.heap.size,j,none⟩) ⟨q0,f0,q1,f1,q2,f2,q3,f3,q4,f4⟩;clear q0 f0 q1 f1 q2 f2 q3 f3 q4 f4;obtain ⟨q0,f0,q1,f1,q2,f2,q3,f3,q4,f4⟩:=h5;have h5:=fu (fun j=>hW.frozen ⟨n4,j,none⟩) ⟨y0,y1,y2,y3,y4⟩;clear y0 y1 y2 y3 y4;obtain ⟨y0,y1,y2,y3,y4⟩:=h5;replace x0:=(hW.old_ 0 (by simp)).trans x0;replace x1:=(hW.old_ 1 (by simp)).trans x1;replace x2:=(hW.old_ 2 (by simp)).trans x2;replace x4:=(hW.old_ 4 (by simp)).trans x4;replace x3:=x3n;have hs7:n4 < (w6.setCell ⟨n4,3,none⟩ (.int .i64 k6)).heap.size:=by simpa using hs6a
     have hs7':w.heap.size < (w6.setCell ⟨n4,3,none⟩ (.int .i64 k6)).heap.size:=by simpa using hs6b
     clear hW x3n hB6 hR6 hA6 hA5 hR5;refine (zi 3 3 B R (m + 5) _ rfl (by omega) (by omega) (by omega) hR6s).mono ?_;rintro e w7 ⟨k7,rfl,hk7,hR7,hB7⟩;have h5:=fv (hB7.cell hs7' hne) (hB7.fz hs7' hne) ⟨q0,f0,q1,f1,q2,f2,q3,f3,q4,f4⟩;clear q0 f0 q1 f1 q2 f2 q3 f3 q4 f4;obtain ⟨q0,f0,q1,f1,q2,f2,q3,f3,q4,f4⟩:=h5;have h5:=fv (hB7.cell hs7 hne4) (hB7.fz hs7 hne4) ⟨x0,y0,x1,y1,x2,y2,x3,y3,x4,y4⟩;clear x0 y0 x1 y1 x2 y2 x3 y3 x4 y4;obtain ⟨x0,y0,x1,y1,x2,y2,x3,y3,x4,y4⟩:=h5;have hA7:=hA6s.trans hB7 (fun _ _ h=>h);have hs7a:n4 < w7.heap.size:=Nat.lt_of_lt_of_le hs7 hB7.size;have hs7b:w.heap.size < w7.heap.size:=by omega
     clear hB7 hR6s hA6s hs7 hs7';go_wp2;refine bodyPost_ret (v:=.agg #[.int .i64 (2), .int .i64 (1 + (k1:Int)), .int .i64 ((k2:Int)), .int .i64 ((k6:Int)), .bool (decide ((0:Int) < k7))]) (by simp [results,Tryz.results23,go_sem,q0,q1,q2,q3,q4]) rfl ⟨⟨2,1 + (k1:Int),(k2:Int),(k6:Int),decide ((0:Int) < k7)⟩,rfl,⟨⟨by dsimp only;omega,by dsimp only;omega⟩,⟨by dsimp only;omega,by dsimp only;omega⟩,⟨by dsimp only;omega,by dsimp only;omega⟩,⟨by dsimp only;omega,by dsimp only;omega⟩⟩, ?_, ?_⟩
     . refine (Rd.high (L:=w.heap.size) hR7 ?_ hRl).mono (by omega);repeat (with_reducible refine Agr.setCell ?_ (.inr (by first | exact Nat.le_refl _ | (show w.heap.size ≤ n4;omega))) _)
       with_reducible exact Agr.refl _ _
     repeat (with_reducible refine Agr.setCell ?_ (.inl (by first | exact Nat.le_refl _ | (show w.heap.size ≤ n4;omega))) _)
     with_reducible exact hA7
   have t5:((k5:Int) == 0) = false:=by rw [beq_eq_false_iff_ne];omega
   clear h5;go_wp2;refine bodyPost_ret (v:=.agg #[.int .i64 (2), .int .i64 (1 + (k1:Int)), .int .i64 ((k2:Int)), .int .i64 (9), .bool (false)]) (by simp [results,Tryz.results23,go_sem,q0,q1,q2,q3,q4]) rfl ⟨⟨2,1 + (k1:Int),(k2:Int),9,false⟩,rfl,⟨⟨by dsimp only;omega,by dsimp only;omega⟩,⟨by dsimp only;omega,by dsimp only;omega⟩,⟨by dsimp only;omega,by dsimp only;omega⟩,⟨by dsimp only;omega,by dsimp only;omega⟩⟩, ?_, ?_⟩
   . refine (Rd.high (L:=w.heap.size) hR5 ?_ hRl).mono (by omega);repeat (with_reducible refine Agr.setCell ?_ (.inr (by first | exact Nat.le_refl _ | (show w.heap.size ≤ n4;omega))) _)
     with_reducible exact Agr.refl _ _
   repeat (with_reducible refine Agr.setCell ?_ (.inl (by first | exact Nat.le_refl _ | (show w.heap.size ≤ n4;omega))) _)
   with_reducible exact hA5

 have u0:((k3:Int) == 0) = false:=by rw [beq_eq_false_iff_ne];omega
 have u1:((k3:Int) == 1) = false:=by rw [beq_eq_false_iff_ne];omega
 have u2:((k3:Int) == 2) = false:=by rw [beq_eq_false_iff_ne];omega
 by_cases h3:k3 = 3
 . have u3:((k3:Int) == 3) = true:=by rw [beq_iff_eq];omega
   clear h0 h3;go_wp2_with fail
   have hW:=zq x0 (.int .i64 3);have hRs:Rd (w3.setCell ⟨n4,0,none⟩ (.int .i64 3)) B R (m + 3):=hR3.agr hW.agr (by omega) (fun b hb e=>by have:=hR3.le;omega);have hAs:Agr (· = R) w (w3.setCell ⟨n4,0,none⟩ (.int .i64 3)):=hA3.setCell (.inl (by show w.heap.size ≤ n4;omega)) _;have x0n:(w3.setCell ⟨n4,0,none⟩ (.int .i64 3)).cell? ⟨n4,0,none⟩ = some (.int .i64 3):=hW.new_ 0 _ rfl;have h5:=fv (hW.agr.cell (b:=w.heap.size) (by omega) (by omega)) (fun j=>hW.frozen ⟨w.heap.size,j,none⟩) ⟨q0,f0,q1,f1,q2,f2,q3,f3,q4,f4⟩;clear q0 f0 q1 f1 q2 f2 q3 f3 q4 f4;obtain ⟨q0,f0,q1,f1,q2,f2,q3,f3,q4,f4⟩:=h5;have h5:=fu (fun j=>hW.frozen ⟨n4,j,none⟩) ⟨y0,y1,y2,y3,y4⟩;clear y0 y1 y2 y3 y4;obtain ⟨y0,y1,y2,y3,y4⟩:=h5;replace x1:=(hW.old_ 1 (by simp)).trans x1;replace x2:=(hW.old_ 2 (by simp)).trans x2;replace x3:=(hW.old_ 3 (by simp)).trans x3;replace x4:=(hW.old_ 4 (by simp)).trans x4;replace x0:=x0n;have hsa:n4 < (w3.setCell ⟨n4,0,none⟩ (.int .i64 3)).heap.size:=by simpa using hs3
   have hsb:w.heap.size < (w3.setCell ⟨n4,0,none⟩ (.int .i64 3)).heap.size:=by simpa using hs3'
   clear hW x0n hR3 hA3;refine (zi 4 4 B R (m + 3) _ rfl (by omega) (by omega) (by omega) hRs).mono ?_;rintro e w5 ⟨k5,rfl,hk5,hR5,hB5⟩;have h5:=fv (hB5.cell hsb hne) (hB5.fz hsb hne) ⟨q0,f0,q1,f1,q2,f2,q3,f3,q4,f4⟩;clear q0 f0 q1 f1 q2 f2 q3 f3 q4 f4;obtain ⟨q0,f0,q1,f1,q2,f2,q3,f3,q4,f4⟩:=h5;have h5:=fv (hB5.cell hsa hne4) (hB5.fz hsa hne4) ⟨x0,y0,x1,y1,x2,y2,x3,y3,x4,y4⟩;clear x0 y0 x1 y1 x2 y2 x3 y3 x4 y4;obtain ⟨x0,y0,x1,y1,x2,y2,x3,y3,x4,y4⟩:=h5;have hA5:=hAs.trans hB5 (fun _ _ h=>h);have hs5:n4 < w5.heap.size:=Nat.lt_of_lt_of_le hsa hB5.size;have hs5':w.heap.size < w5.heap.size:=by omega
   clear hB5 hAs hRs;by_cases h5:k5 = 0
   . have t5:((k5:Int) == 0) = true:=by subst h5;rfl
     clear h5;go_wp2_with fail
     refine (zi 5 5 B R (m + 4) _ rfl (by omega) (by omega) (by omega) hR5).mono ?_;rintro e w6 ⟨k6,rfl,hk6,hR6,hB6⟩;have h5:=fv (hB6.cell hs5' hne) (hB6.fz hs5' hne) ⟨q0,f0,q1,f1,q2,f2,q3,f3,q4,f4⟩;clear q0 f0 q1 f1 q2 f2 q3 f3 q4 f4;obtain ⟨q0,f0,q1,f1,q2,f2,q3,f3,q4,f4⟩:=h5;have h5:=fv (hB6.cell hs5 hne4) (hB6.fz hs5 hne4) ⟨x0,y0,x1,y1,x2,y2,x3,y3,x4,y4⟩;clear x0 y0 x1 y1 x2 y2 x3 y3 x4 y4;obtain ⟨x0,y0,x1,y1,x2,y2,x3,y3,x4,y4⟩:=h5;have hA6:=hA5.trans hB6 (fun _ _ h=>h);have hs6a:n4 < w6.heap.size:=Nat.lt_of_lt_of_le hs5 hB6.size;have hs6b:w.heap.size < w6.heap.size:=by omega
     go_wp2_with fail
     have hW:=zq x3 (.int .i64 k6);have hR6s:Rd (w6.setCell ⟨n4,3,none⟩ (.int .i64 k6)) B R (m + 5):=hR6.agr hW.agr (by omega) (fun b hb e=>by have:=hR6.le;omega);have hA6s:Agr (· = R) w (w6.setCell ⟨n4,3,none⟩ (.int .i64 k6)):=hA6.setCell (.inl (by show w.heap.size ≤ n4;omega)) _;have x3n:(w6.setCell ⟨n4,3,none⟩ (.int .i64 k6)).cell? ⟨n4,3,none⟩ = some (.int .i64 k6):=hW.new_ 0 _ rfl;have h5:=fv (hW.agr.cell (b:=w.heap.size) (by omega) (by omega)) (fun j=>hW.frozen ⟨w.heap.size,j,none⟩) ⟨q0,f0,q1,f1,q2,f2,q3,f3,q4,f4⟩;clear q0 f0 q1 f1 q2 f2 q3 f3 q4 f4;obtain ⟨q0,f0,q1,f1,q2,f2,q3,f3,q4,f4⟩:=h5;have h5:=fu (fun j=>hW.frozen ⟨n4,j,none⟩) ⟨y0,y1,y2,y3,y4⟩;clear y0 y1 y2 y3 y4;obtain ⟨y0,y1,y2,y3,y4⟩:=h5;replace x0:=(hW.old_ 0 (by simp)).trans x0;replace x1:=(hW.old_ 1 (by simp)).trans x1;replace x2:=(hW.old_ 2 (by simp)).trans x2;replace x4:=(hW.old_ 4 (by simp)).trans x4;replace x3:=x3n;have hs7:n4 < (w6.setCell ⟨n4,3,none⟩ (.int .i64 k6)).heap.size:=by simpa using hs6a
     have hs7':w.heap.size < (w6.setCell ⟨n4,3,none⟩ (.int .i64 k6)).heap.size:=by simpa using hs6b
     clear hW x3n hB6 hR6 hA6 hA5 hR5;refine (zi 3 3 B R (m + 5) _ rfl (by omega) (by omega) (by omega) hR6s).mono ?_;rintro e w7 ⟨k7,rfl,hk7,hR7,hB7⟩;have h5:=fv (hB7.cell hs7' hne) (hB7.fz hs7' hne) ⟨q0,f0,q1,f1,q2,f2,q3,f3,q4,f4⟩;clear q0 f0 q1 f1 q2 f2 q3 f3 q4 f4;obtain ⟨q0,f0,q1,f1,q2,f2,q3,f3,q4,f4⟩:=h5;have h5:=fv (hB7.cell hs7 hne4) (hB7.fz hs7 hne4) ⟨x0,y0,x1,y1,x2,y2,x3,y3,x4,y4⟩;clear x0 y0 x1 y1 x2 y2 x3 y3 x4 y4;obtain ⟨x0,y0,x1,y1,x2,y2,x3,y3,x4,y4⟩:=h5;have hA7:=hA6s.trans hB7 (fun _ _ h=>h);have hs7a:n4 < w7.heap.size:=Nat.lt_of_lt_of_le hs7 hB7.size;have hs7b:w.heap.size < w7.heap.size:=by omega
     clear hB7 hR6s hA6s hs7 hs7';go_wp2;refine bodyPost_ret (v:=.agg #[.int .i64 (3), .int .i64 (1 + (k1:Int)), .int .i64 ((k2:Int)), .int .i64 ((k6:Int)), .bool (decide ((0:Int) < k7))]) (by simp [results,Tryz.results23,go_sem,q0,q1,q2,q3,q4]) rfl ⟨⟨3,1 + (k1:Int),(k2:Int),(k6:Int),decide ((0:Int) < k7)⟩,rfl,⟨⟨by dsimp only;omega,by dsimp only;omega⟩,⟨by dsimp only;omega,by dsimp only;omega⟩,⟨by dsimp only;omega,by dsimp only;omega⟩,⟨by dsimp only;omega,by dsimp only;omega⟩⟩, ?_, ?_⟩
     . refine (Rd.high (L:=w.heap.size) hR7 ?_ hRl).mono (by omega);repeat (with_reducible refine Agr.setCell ?_ (.inr (by first | exact Nat.le_refl _ | (show w.heap.size ≤ n4;omega))) _)
       with_reducible exact Agr.refl _ _
     repeat (with_reducible refine Agr.setCell ?_ (.inl (by first | exact Nat.le_refl _ | (show w.heap.size ≤ n4;omega))) _)
     with_reducible exact hA7
   have t5:((k5:Int) == 0) = false:=by rw [beq_eq_false_iff_ne];omega
   clear h5;go_wp2;refine bodyPost_ret (v:=.agg #[.int .i64 (3), .int .i64 (1 + (k1:Int)), .int .i64 ((k2:Int)), .int .i64 (9), .bool (false)]) (by simp [results,Tryz.results23,go_sem,q0,q1,q2,q3,q4]) rfl ⟨⟨3,1 + (k1:Int),(k2:Int),9,false⟩,rfl,⟨⟨by dsimp only;omega,by dsimp only;omega⟩,⟨by dsimp only;omega,by dsimp only;omega⟩,⟨by dsimp only;omega,by dsimp only;omega⟩,⟨by dsimp only;omega,by dsimp only;omega⟩⟩, ?_, ?_⟩
   . refine (Rd.high (L:=w.heap.size) hR5 ?_ hRl).mono (by omega);repeat (with_reducible refine Agr.setCell ?_ (.inr (by first | exact Nat.le_refl _ | (show w.heap.size ≤ n4;omega))) _)
     with_reducible exact Agr.refl _ _
   repeat (with_reducible refine Agr.setCell ?_ (.inl (by first | exact Nat.le_refl _ | (show w.heap.size ≤ n4;omega))) _)
   with_reducible exact hA5

 have u3:((k3:Int) == 3) = false:=by rw [beq_eq_false_iff_ne];omega
 by_cases h4:k3 = 4
 . have u4:((k3:Int) == 4) = true:=by rw [beq_iff_eq];omega
   clear h0 h3 h4;go_wp2_with fail
   refine (zi 3 3 B R (m + 3) _ rfl (by omega) (by omega) (by omega) hR3).mono ?_;rintro e w4 ⟨k4,rfl,hk4,hR4,hB4⟩;have h5:=fv (hB4.cell hs3' hne) (hB4.fz hs3' hne) ⟨q0,f0,q1,f1,q2,f2,q3,f3,q4,f4⟩;clear q0 f0 q1 f1 q2 f2 q3 f3 q4 f4;obtain ⟨q0,f0,q1,f1,q2,f2,q3,f3,q4,f4⟩:=h5;have h5:=fv (hB4.cell hs3 hne4) (hB4.fz hs3 hne4) ⟨x0,y0,x1,y1,x2,y2,x3,y3,x4,y4⟩;clear x0 y0 x1 y1 x2 y2 x3 y3 x4 y4;obtain ⟨x0,y0,x1,y1,x2,y2,x3,y3,x4,y4⟩:=h5;have hA4:=hA3.trans hB4 (fun _ _ h=>h);have hs4:n4 < w4.heap.size:=Nat.lt_of_lt_of_le hs3 hB4.size;have hs4':w.heap.size < w4.heap.size:=by omega
   clear hB4 hA3 hR3;by_cases h4:k4 = 0
   . have t4:((k4:Int) == 0) = true:=by subst h4;rfl
     clear h4;go_wp2_with fail
     have hW:=zq x0 (.int .i64 4);have hRs:Rd (w4.setCell ⟨n4,0,none⟩ (.int .i64 4)) B R (m + 4):=hR4.agr hW.agr (by omega) (fun b hb e=>by have:=hR4.le;omega);have hAs:Agr (· = R) w (w4.setCell ⟨n4,0,none⟩ (.int .i64 4)):=hA4.setCell (.inl (by show w.heap.size ≤ n4;omega)) _;have x0n:(w4.setCell ⟨n4,0,none⟩ (.int .i64 4)).cell? ⟨n4,0,none⟩ = some (.int .i64 4):=hW.new_ 0 _ rfl;have h5:=fv (hW.agr.cell (b:=w.heap.size) (by omega) (by omega)) (fun j=>hW.frozen ⟨w.heap.size,j,none⟩) ⟨q0,f0,q1,f1,q2,f2,q3,f3,q4,f4⟩;clear q0 f0 q1 f1 q2 f2 q3 f3 q4 f4;obtain ⟨q0,f0,q1,f1,q2,f2,q3,f3,q4,f4⟩:=h5;have h5:=fu (fun j=>hW.frozen ⟨n4,j,none⟩) ⟨y0,y1,y2,y3,y4⟩;clear y0 y1 y2 y3 y4;obtain ⟨y0,y1,y2,y3,y4⟩:=h5;replace x1:=(hW.old_ 1 (by simp)).trans x1;replace x2:=(hW.old_ 2 (by simp)).trans x2;replace x3:=(hW.old_ 3 (by simp)).trans x3;replace x4:=(hW.old_ 4 (by simp)).trans x4;replace x0:=x0n;have hsa:n4 < (w4.setCell ⟨n4,0,none⟩ (.int .i64 4)).heap.size:=by simpa using hs4
     have hsb:w.heap.size < (w4.setCell ⟨n4,0,none⟩ (.int .i64 4)).heap.size:=by simpa using hs4'
     clear hW x0n hR4 hA4;refine (zi 4 4 B R (m + 4) _ rfl (by omega) (by omega) (by omega) hRs).mono ?_;rintro e w5 ⟨k5,rfl,hk5,hR5,hB5⟩;have h5:=fv (hB5.cell hsb hne) (hB5.fz hsb hne) ⟨q0,f0,q1,f1,q2,f2,q3,f3,q4,f4⟩;clear q0 f0 q1 f1 q2 f2 q3 f3 q4 f4;obtain ⟨q0,f0,q1,f1,q2,f2,q3,f3,q4,f4⟩:=h5;have h5:=fv (hB5.cell hsa hne4) (hB5.fz hsa hne4) ⟨x0,y0,x1,y1,x2,y2,x3,y3,x4,y4⟩;clear x0 y0 x1 y1 x2 y2 x3 y3 x4 y4;obtain ⟨x0,y0,x1,y1,x2,y2,x3,y3,x4,y4⟩:=h5;have hA5:=hAs.trans hB5 (fun _ _ h=>h);have hs5:n4 < w5.heap.size:=Nat.lt_of_lt_of_le hsa hB5.size;have hs5':w.heap.size < w5.heap.size:=by omega
     clear hB5 hAs hRs;by_cases h5:k5 = 0
     . have t5:((k5:Int) == 0) = true:=by subst h5;rfl
       clear h5;go_wp2_with fail
       refine (zi 5 5 B R (m + 5) _ rfl (by omega) (by omega) (by omega) hR5).mono ?_;rintro e w6 ⟨k6,rfl,hk6,hR6,hB6⟩;have h5:=fv (hB6.cell hs5' hne) (hB6.fz hs5' hne) ⟨q0,f0,q1,f1,q2,f2,q3,f3,q4,f4⟩;clear q0 f0 q1 f1 q2 f2 q3 f3 q4 f4;obtain ⟨q0,f0,q1,f1,q2,f2,q3,f3,q4,f4⟩:=h5;have h5:=fv (hB6.cell hs5 hne4) (hB6.fz hs5 hne4) ⟨x0,y0,x1,y1,x2,y2,x3,y3,x4,y4⟩;clear x0 y0 x1 y1 x2 y2 x3 y3 x4 y4;obtain ⟨x0,y0,x1,y1,x2,y2,x3,y3,x4,y4⟩:=h5;have hA6:=hA5.trans hB6 (fun _ _ h=>h);have hs6a:n4 < w6.heap.size:=Nat.lt_of_lt_of_le hs5 hB6.size;have hs6b:w.heap.size < w6.heap.size:=by omega
       go_wp2_with fail
       have hW:=zq x3 (.int .i64 k6);have hR6s:Rd (w6.setCell ⟨n4,3,none⟩ (.int .i64 k6)) B R (m + 6):=hR6.agr hW.agr (by omega) (fun b hb e=>by have:=hR6.le;omega);have hA6s:Agr (· = R) w (w6.setCell ⟨n4,3,none⟩ (.int .i64 k6)):=hA6.setCell (.inl (by show w.heap.size ≤ n4;omega)) _;have x3n:(w6.setCell ⟨n4,3,none⟩ (.int .i64 k6)).cell? ⟨n4,3,none⟩ = some (.int .i64 k6):=hW.new_ 0 _ rfl;have h5:=fv (hW.agr.cell (b:=w.heap.size) (by omega) (by omega)) (fun j=>hW.frozen ⟨w.heap.size,j,none⟩) ⟨q0,f0,q1,f1,q2,f2,q3,f3,q4,f4⟩;clear q0 f0 q1 f1 q2 f2 q3 f3 q4 f4;obtain ⟨q0,f0,q1,f1,q2,f2,q3,f3,q4,f4⟩:=h5;have h5:=fu (fun j=>hW.frozen ⟨n4,j,none⟩) ⟨y0,y1,y2,y3,y4⟩;clear y0 y1 y2 y3 y4;obtain ⟨y0,y1,y2,y3,y4⟩:=h5;replace x0:=(hW.old_ 0 (by simp)).trans x0;replace x1:=(hW.old_ 1 (by simp)).trans x1;replace x2:=(hW.old_ 2 (by simp)).trans x2;replace x4:=(hW.old_ 4 (by simp)).trans x4;replace x3:=x3n;have hs7:n4 < (w6.setCell ⟨n4,3,none⟩ (.int .i64 k6)).heap.size:=by simpa using hs6a
       have hs7':w.heap.size < (w6.setCell ⟨n4,3,none⟩ (.int .i64 k6)).heap.size:=by simpa using hs6b
       clear hW x3n hB6 hR6 hA6 hA5 hR5;refine (zi 3 3 B R (m + 6) _ rfl (by omega) (by omega) (by omega) hR6s).mono ?_;rintro e w7 ⟨k7,rfl,hk7,hR7,hB7⟩;have h5:=fv (hB7.cell hs7' hne) (hB7.fz hs7' hne) ⟨q0,f0,q1,f1,q2,f2,q3,f3,q4,f4⟩;clear q0 f0 q1 f1 q2 f2 q3 f3 q4 f4;obtain ⟨q0,f0,q1,f1,q2,f2,q3,f3,q4,f4⟩:=h5;have h5:=fv (hB7.cell hs7 hne4) (hB7.fz hs7 hne4) ⟨x0,y0,x1,y1,x2,y2,x3,y3,x4,y4⟩;clear x0 y0 x1 y1 x2 y2 x3 y3 x4 y4;obtain ⟨x0,y0,x1,y1,x2,y2,x3,y3,x4,y4⟩:=h5;have hA7:=hA6s.trans hB7 (fun _ _ h=>h);have hs7a:n4 < w7.heap.size:=Nat.lt_of_lt_of_le hs7 hB7.size;have hs7b:w.heap.size < w7.heap.size:=by omega
       clear hB7 hR6s hA6s hs7 hs7';go_wp2;refine bodyPost_ret (v:=.agg #[.int .i64 (4), .int .i64 (1 + (k1:Int)), .int .i64 ((k2:Int)), .int .i64 ((k6:Int)), .bool (decide ((0:Int) < k7))]) (by simp [results,Tryz.results23,go_sem,q0,q1,q2,q3,q4]) rfl ⟨⟨4,1 + (k1:Int),(k2:Int),(k6:Int),decide ((0:Int) < k7)⟩,rfl,⟨⟨by dsimp only;omega,by dsimp only;omega⟩,⟨by dsimp only;omega,by dsimp only;omega⟩,⟨by dsimp only;omega,by dsimp only;omega⟩,⟨by dsimp only;omega,by dsimp only;omega⟩⟩, ?_, ?_⟩
       . refine (Rd.high (L:=w.heap.size) hR7 ?_ hRl).mono (by omega);repeat (with_reducible refine Agr.setCell ?_ (.inr (by first | exact Nat.le_refl _ | (show w.heap.size ≤ n4;omega))) _)
         with_reducible exact Agr.refl _ _
       repeat (with_reducible refine Agr.setCell ?_ (.inl (by first | exact Nat.le_refl _ | (show w.heap.size ≤ n4;omega))) _)
       with_reducible exact hA7
     have t5:((k5:Int) == 0) = false:=by rw [beq_eq_false_iff_ne];omega
     clear h5;go_wp2;refine bodyPost_ret (v:=.agg #[.int .i64 (4), .int .i64 (1 + (k1:Int)), .int .i64 ((k2:Int)), .int .i64 (9), .bool (false)]) (by simp [results,Tryz.results23,go_sem,q0,q1,q2,q3,q4]) rfl ⟨⟨4,1 + (k1:Int),(k2:Int),9,false⟩,rfl,⟨⟨by dsimp only;omega,by dsimp only;omega⟩,⟨by dsimp only;omega,by dsimp only;omega⟩,⟨by dsimp only;omega,by dsimp only;omega⟩,⟨by dsimp only;omega,by dsimp only;omega⟩⟩, ?_, ?_⟩
     . refine (Rd.high (L:=w.heap.size) hR5 ?_ hRl).mono (by omega);repeat (with_reducible refine Agr.setCell ?_ (.inr (by first | exact Nat.le_refl _ | (show w.heap.size ≤ n4;omega))) _)
       with_reducible exact Agr.refl _ _
     repeat (with_reducible refine Agr.setCell ?_ (.inl (by first | exact Nat.le_refl _ | (show w.heap.size ≤ n4;omega))) _)
     with_reducible exact hA5

   have t4:((k4:Int) == 0) = false:=by rw [beq_eq_false_iff_ne];omega
   clear h4;go_wp2_with fail
   refine (zi 4 4 B R (m + 4) _ rfl (by omega) (by omega) (by omega) hR4).mono ?_;rintro e w5 ⟨k5,rfl,hk5,hR5,hB5⟩;have h5:=fv (hB5.cell hs4' hne) (hB5.fz hs4' hne) ⟨q0,f0,q1,f1,q2,f2,q3,f3,q4,f4⟩;clear q0 f0 q1 f1 q2 f2 q3 f3 q4 f4;obtain ⟨q0,f0,q1,f1,q2,f2,q3,f3,q4,f4⟩:=h5;have h5:=fv (hB5.cell hs4 hne4) (hB5.fz hs4 hne4) ⟨x0,y0,x1,y1,x2,y2,x3,y3,x4,y4⟩;clear x0 y0 x1 y1 x2 y2 x3 y3 x4 y4;obtain ⟨x0,y0,x1,y1,x2,y2,x3,y3,x4,y4⟩:=h5;have hA5:=hA4.trans hB5 (fun _ _ h=>h);have hs5:n4 < w5.heap.size:=Nat.lt_of_lt_of_le hs4 hB5.size;have hs5':w.heap.size < w5.heap.size:=by omega
   clear hB5 hA4 hR4;by_cases h5:k5 = 0
   . have t5:((k5:Int) == 0) = true:=by subst h5;rfl
     clear h5;go_wp2_with fail
     refine (zi 5 5 B R (m + 5) _ rfl (by omega) (by omega) (by omega) hR5).mono ?_;rintro e w6 ⟨k6,rfl,hk6,hR6,hB6⟩;have h5:=fv (hB6.cell hs5' hne) (hB6.fz hs5' hne) ⟨q0,f0,q1,f1,q2,f2,q3,f3,q4,f4⟩;clear q0 f0 q1 f1 q2 f2 q3 f3 q4 f4;obtain ⟨q0,f0,q1,f1,q2,f2,q3,f3,q4,f4⟩:=h5;have h5:=fv (hB6.cell hs5 hne4) (hB6.fz hs5 hne4) ⟨x0,y0,x1,y1,x2,y2,x3,y3,x4,y4⟩;clear x0 y0 x1 y1 x2 y2 x3 y3 x4 y4;obtain ⟨x0,y0,x1,y1,x2,y2,x3,y3,x4,y4⟩:=h5;have hA6:=hA5.trans hB6 (fun _ _ h=>h);have hs6a:n4 < w6.heap.size:=Nat.lt_of_lt_of_le hs5 hB6.size;have hs6b:w.heap.size < w6.heap.size:=by omega
     go_wp2_with fail
     have hW:=zq x3 (.int .i64 k6);have hR6s:Rd (w6.setCell ⟨n4,3,none⟩ (.int .i64 k6)) B R (m + 6):=hR6.agr hW.agr (by omega) (fun b hb e=>by have:=hR6.le;omega);have hA6s:Agr (· = R) w (w6.setCell ⟨n4,3,none⟩ (.int .i64 k6)):=hA6.setCell (.inl (by show w.heap.size ≤ n4;omega)) _;have x3n:(w6.setCell ⟨n4,3,none⟩ (.int .i64 k6)).cell? ⟨n4,3,none⟩ = some (.int .i64 k6):=hW.new_ 0 _ rfl;have h5:=fv (hW.agr.cell (b:=w.heap.size) (by omega) (by omega)) (fun j=>hW.frozen ⟨w.heap.size,j,none⟩) ⟨q0,f0,q1,f1,q2,f2,q3,f3,q4,f4⟩;clear q0 f0 q1 f1 q2 f2 q3 f3 q4 f4;obtain ⟨q0,f0,q1,f1,q2,f2,q3,f3,q4,f4⟩:=h5;have h5:=fu (fun j=>hW.frozen ⟨n4,j,none⟩) ⟨y0,y1,y2,y3,y4⟩;clear y0 y1 y2 y3 y4;obtain ⟨y0,y1,y2,y3,y4⟩:=h5;replace x0:=(hW.old_ 0 (by simp)).trans x0;replace x1:=(hW.old_ 1 (by simp)).trans x1;replace x2:=(hW.old_ 2 (by simp)).trans x2;replace x4:=(hW.old_ 4 (by simp)).trans x4;replace x3:=x3n;have hs7:n4 < (w6.setCell ⟨n4,3,none⟩ (.int .i64 k6)).heap.size:=by simpa using hs6a
     have hs7':w.heap.size < (w6.setCell ⟨n4,3,none⟩ (.int .i64 k6)).heap.size:=by simpa using hs6b
     clear hW x3n hB6 hR6 hA6 hA5 hR5;refine (zi 3 3 B R (m + 6) _ rfl (by omega) (by omega) (by omega) hR6s).mono ?_;rintro e w7 ⟨k7,rfl,hk7,hR7,hB7⟩;have h5:=fv (hB7.cell hs7' hne) (hB7.fz hs7' hne) ⟨q0,f0,q1,f1,q2,f2,q3,f3,q4,f4⟩;clear q0 f0 q1 f1 q2 f2 q3 f3 q4 f4;obtain ⟨q0,f0,q1,f1,q2,f2,q3,f3,q4,f4⟩:=h5;have h5:=fv (hB7.cell hs7 hne4) (hB7.fz hs7 hne4) ⟨x0,y0,x1,y1,x2,y2,x3,y3,x4,y4⟩;clear x0 y0 x1 y1 x2 y2 x3 y3 x4 y4;obtain ⟨x0,y0,x1,y1,x2,y2,x3,y3,x4,y4⟩:=h5;have hA7:=hA6s.trans hB7 (fun _ _ h=>h);have hs7a:n4 < w7.heap.size:=Nat.lt_of_lt_of_le hs7 hB7.size;have hs7b:w.heap.size < w7.heap.size:=by omega
     clear hB7 hR6s hA6s hs7 hs7';go_wp2;refine bodyPost_ret (v:=.agg #[.int .i64 (1), .int .i64 (1 + (k1:Int)), .int .i64 ((k2:Int)), .int .i64 ((k6:Int)), .bool (decide ((0:Int) < k7))]) (by simp [results,Tryz.results23,go_sem,q0,q1,q2,q3,q4]) rfl ⟨⟨1,1 + (k1:Int),(k2:Int),(k6:Int),decide ((0:Int) < k7)⟩,rfl,⟨⟨by dsimp only;omega,by dsimp only;omega⟩,⟨by dsimp only;omega,by dsimp only;omega⟩,⟨by dsimp only;omega,by dsimp only;omega⟩,⟨by dsimp only;omega,by dsimp only;omega⟩⟩, ?_, ?_⟩
     . refine (Rd.high (L:=w.heap.size) hR7 ?_ hRl).mono (by omega);repeat (with_reducible refine Agr.setCell ?_ (.inr (by first | exact Nat.le_refl _ | (show w.heap.size ≤ n4;omega))) _)
       with_reducible exact Agr.refl _ _
     repeat (with_reducible refine Agr.setCell ?_ (.inl (by first | exact Nat.le_refl _ | (show w.heap.size ≤ n4;omega))) _)
     with_reducible exact hA7
   have t5:((k5:Int) == 0) = false:=by rw [beq_eq_false_iff_ne];omega
   clear h5;go_wp2;refine bodyPost_ret (v:=.agg #[.int .i64 (1), .int .i64 (1 + (k1:Int)), .int .i64 ((k2:Int)), .int .i64 (9), .bool (false)]) (by simp [results,Tryz.results23,go_sem,q0,q1,q2,q3,q4]) rfl ⟨⟨1,1 + (k1:Int),(k2:Int),9,false⟩,rfl,⟨⟨by dsimp only;omega,by dsimp only;omega⟩,⟨by dsimp only;omega,by dsimp only;omega⟩,⟨by dsimp only;omega,by dsimp only;omega⟩,⟨by dsimp only;omega,by dsimp only;omega⟩⟩, ?_, ?_⟩
   . refine (Rd.high (L:=w.heap.size) hR5 ?_ hRl).mono (by omega);repeat (with_reducible refine Agr.setCell ?_ (.inr (by first | exact Nat.le_refl _ | (show w.heap.size ≤ n4;omega))) _)
     with_reducible exact Agr.refl _ _
   repeat (with_reducible refine Agr.setCell ?_ (.inl (by first | exact Nat.le_refl _ | (show w.heap.size ≤ n4;omega))) _)
   with_reducible exact hA5

 have u4:((k3:Int) == 4) = false:=by rw [beq_eq_false_iff_ne];omega
 clear h0 h3 h4;go_wp2_with fail
 refine (zi 4 4 B R (m + 3) _ rfl (by omega) (by omega) (by omega) hR3).mono ?_;rintro e w5 ⟨k5,rfl,hk5,hR5,hB5⟩;have h5:=fv (hB5.cell hs3' hne) (hB5.fz hs3' hne) ⟨q0,f0,q1,f1,q2,f2,q3,f3,q4,f4⟩;clear q0 f0 q1 f1 q2 f2 q3 f3 q4 f4;obtain ⟨q0,f0,q1,f1,q2,f2,q3,f3,q4,f4⟩:=h5;have h5:=fv (hB5.cell hs3 hne4) (hB5.fz hs3 hne4) ⟨x0,y0,x1,y1,x2,y2,x3,y3,x4,y4⟩;clear x0 y0 x1 y1 x2 y2 x3 y3 x4 y4;obtain ⟨x0,y0,x1,y1,x2,y2,x3,y3,x4,y4⟩:=h5;have hA5:=hA3.trans hB5 (fun _ _ h=>h);have hs5:n4 < w5.heap.size:=Nat.lt_of_lt_of_le hs3 hB5.size;have hs5':w.heap.size < w5.heap.size:=by omega
 clear hB5 hA3 hR3;by_cases h5:k5 = 0
 . have t5:((k5:Int) == 0) = true:=by subst h5;rfl
   clear h5;go_wp2_with fail
   refine (zi 5 5 B R (m + 4) _ rfl (by omega) (by omega) (by omega) hR5).mono ?_;rintro e w6 ⟨k6,rfl,hk6,hR6,hB6⟩;have h5:=fv (hB6.cell hs5' hne) (hB6.fz hs5' hne) ⟨q0,f0,q1,f1,q2,f2,q3,f3,q4,f4⟩;clear q0 f0 q1 f1 q2 f2 q3 f3 q4 f4;obtain ⟨q0,f0,q1,f1,q2,f2,q3,f3,q4,f4⟩:=h5;have h5:=fv (hB6.cell hs5 hne4) (hB6.fz hs5 hne4) ⟨x0,y0,x1,y1,x2,y2,x3,y3,x4,y4⟩;clear x0 y0 x1 y1 x2 y2 x3 y3 x4 y4;obtain ⟨x0,y0,x1,y1,x2,y2,x3,y3,x4,y4⟩:=h5;have hA6:=hA5.trans hB6 (fun _ _ h=>h);have hs6a:n4 < w6.heap.size:=Nat.lt_of_lt_of_le hs5 hB6.size;have hs6b:w.heap.size < w6.heap.size:=by omega
   go_wp2_with fail
   have hW:=zq x3 (.int .i64 k6);have hR6s:Rd (w6.setCell ⟨n4,3,none⟩ (.int .i64 k6)) B R (m + 5):=hR6.agr hW.agr (by omega) (fun b hb e=>by have:=hR6.le;omega);have hA6s:Agr (· = R) w (w6.setCell ⟨n4,3,none⟩ (.int .i64 k6)):=hA6.setCell (.inl (by show w.heap.size ≤ n4;omega)) _;have x3n:(w6.setCell ⟨n4,3,none⟩ (.int .i64 k6)).cell? ⟨n4,3,none⟩ = some (.int .i64 k6):=hW.new_ 0 _ rfl;have h5:=fv (hW.agr.cell (b:=w.heap.size) (by omega) (by omega)) (fun j=>hW.frozen ⟨w.heap.size,j,none⟩) ⟨q0,f0,q1,f1,q2,f2,q3,f3,q4,f4⟩;clear q0 f0 q1 f1 q2 f2 q3 f3 q4 f4;obtain ⟨q0,f0,q1,f1,q2,f2,q3,f3,q4,f4⟩:=h5;have h5:=fu (fun j=>hW.frozen ⟨n4,j,none⟩) ⟨y0,y1,y2,y3,y4⟩;clear y0 y1 y2 y3 y4;obtain ⟨y0,y1,y2,y3,y4⟩:=h5;replace x0:=(hW.old_ 0 (by simp)).trans x0;replace x1:=(hW.old_ 1 (by simp)).trans x1;replace x2:=(hW.old_ 2 (by simp)).trans x2;replace x4:=(hW.old_ 4 (by simp)).trans x4;replace x3:=x3n;have hs7:n4 < (w6.setCell ⟨n4,3,none⟩ (.int .i64 k6)).heap.size:=by simpa using hs6a
   have hs7':w.heap.size < (w6.setCell ⟨n4,3,none⟩ (.int .i64 k6)).heap.size:=by simpa using hs6b
   clear hW x3n hB6 hR6 hA6 hA5 hR5;refine (zi 3 3 B R (m + 5) _ rfl (by omega) (by omega) (by omega) hR6s).mono ?_;rintro e w7 ⟨k7,rfl,hk7,hR7,hB7⟩;have h5:=fv (hB7.cell hs7' hne) (hB7.fz hs7' hne) ⟨q0,f0,q1,f1,q2,f2,q3,f3,q4,f4⟩;clear q0 f0 q1 f1 q2 f2 q3 f3 q4 f4;obtain ⟨q0,f0,q1,f1,q2,f2,q3,f3,q4,f4⟩:=h5;have h5:=fv (hB7.cell hs7 hne4) (hB7.fz hs7 hne4) ⟨x0,y0,x1,y1,x2,y2,x3,y3,x4,y4⟩;clear x0 y0 x1 y1 x2 y2 x3 y3 x4 y4;obtain ⟨x0,y0,x1,y1,x2,y2,x3,y3,x4,y4⟩:=h5;have hA7:=hA6s.trans hB7 (fun _ _ h=>h);have hs7a:n4 < w7.heap.size:=Nat.lt_of_lt_of_le hs7 hB7.size;have hs7b:w.heap.size < w7.heap.size:=by omega
   clear hB7 hR6s hA6s hs7 hs7';go_wp2;refine bodyPost_ret (v:=.agg #[.int .i64 (1), .int .i64 (1 + (k1:Int)), .int .i64 ((k2:Int)), .int .i64 ((k6:Int)), .bool (decide ((0:Int) < k7))]) (by simp [results,Tryz.results23,go_sem,q0,q1,q2,q3,q4]) rfl ⟨⟨1,1 + (k1:Int),(k2:Int),(k6:Int),decide ((0:Int) < k7)⟩,rfl,⟨⟨by dsimp only;omega,by dsimp only;omega⟩,⟨by dsimp only;omega,by dsimp only;omega⟩,⟨by dsimp only;omega,by dsimp only;omega⟩,⟨by dsimp only;omega,by dsimp only;omega⟩⟩, ?_, ?_⟩
   . refine (Rd.high (L:=w.heap.size) hR7 ?_ hRl).mono (by omega);repeat (with_reducible refine Agr.setCell ?_ (.inr (by first | exact Nat.le_refl _ | (show w.heap.size ≤ n4;omega))) _)
     with_reducible exact Agr.refl _ _
   repeat (with_reducible refine Agr.setCell ?_ (.inl (by first | exact Nat.le_refl _ | (show w.heap.size ≤ n4;omega))) _)
   with_reducible exact hA7
 have t5:((k5:Int) == 0) = false:=by rw [beq_eq_false_iff_ne];omega
 clear h5;go_wp2;refine bodyPost_ret (v:=.agg #[.int .i64 (1), .int .i64 (1 + (k1:Int)), .int .i64 ((k2:Int)), .int .i64 (9), .bool (false)]) (by simp [results,Tryz.results23,go_sem,q0,q1,q2,q3,q4]) rfl ⟨⟨1,1 + (k1:Int),(k2:Int),9,false⟩,rfl,⟨⟨by dsimp only;omega,by dsimp only;omega⟩,⟨by dsimp only;omega,by dsimp only;omega⟩,⟨by dsimp only;omega,by dsimp only;omega⟩,⟨by dsimp only;omega,by dsimp only;omega⟩⟩, ?_, ?_⟩
 . refine (Rd.high (L:=w.heap.size) hR5 ?_ hRl).mono (by omega);repeat (with_reducible refine Agr.setCell ?_ (.inr (by first | exact Nat.le_refl _ | (show w.heap.size ≤ n4;omega))) _)
   with_reducible exact Agr.refl _ _
 repeat (with_reducible refine Agr.setCell ?_ (.inl (by first | exact Nat.le_refl _ | (show w.heap.size ≤ n4;omega))) _)
 with_reducible exact hA5

end
section
open Go.RowKit Go.Maps
theorem Tryz.info3_event:(Tryz.prog.info? 33).map (fun i=>(i.zero,i.size,i.bytes)) = some (some (.agg #[.int .i64 0, .int .i64 0, .int .i64 0, .int .i64 0, .bool false]),5,40):=by kernel_rfl
def OwnE (w:World) (base:Nat) (v:Value) (xs:List Ev):Prop:=w.ownsRow base 33 5 v xs.length (evs xs)
theorem OwnE.below {w w':World} {base B:Nat} {v:Value} {xs:List Ev} (h:OwnE w base v xs) (hb:Below B w w') (hB:w.heap.size ≤ B):OwnE w' base v xs:=jq h fun b _ hl=>hb.block b (by omega)
theorem OwnE.agr {w w':World} {base:Nat} {v:Value} {xs:List Ev} {S:Nat->Prop} (h:OwnE w base v xs) (hb:Agr S w w') (hS:∀ b,base ≤ b->¬ S b):OwnE w' base v xs:=by
 refine jq h fun b hbl hl=>hb.block b hl (hS b ?_);exact (World.ownsRow.lt h b hbl).1
theorem OwnE.mono {w:World} {base base':Nat} {v:Value} {xs:List Ev} (h:OwnE w base v xs) (hb:base' ≤ base):OwnE w base' v xs:=World.ownsRow.mono h hb
theorem OwnE.nil (w:World) (base:Nat) (hb:base ≤ w.heap.size):OwnE (w.alloc (.cells #[] 33)) base (.slice (some ⟨w.heap.size,0,none⟩) 0 0) []:=World.ownsRow_lit w #[] 0 hb (by unfold maxLen;omega) rfl
theorem OwnE.snoc {w:World} {base g n c:Nat} {xs:List Ev} {x:Ev} (hn:n = xs.length + 1) (h:w.ownsRow base 33 5 (.slice (some ⟨g,0,none⟩) (xs.length + 1) c) (xs.length + 1) (evs xs ++ x.vs)):OwnE w base (.slice (some ⟨g,0,none⟩) n c) (xs ++ [x]):=by
 subst hn;unfold OwnE;rw [List.length_append,evs,List.flatMap_append,show [x].flatMap Ev.vs = x.vs by simp];exact h
theorem OwnE.alloc {w:World} {base:Nat} {v:Value} {xs:List Ev} (h:OwnE w base v xs) (o:Obj):OwnE (w.alloc o) base v xs:=h.below (B:=w.heap.size) ((Below.refl _ _).alloc nl _) nl
theorem znw:xq ⟨xp,Qh⟩:=by
 refine ⟨⟨rfl,fun b hb=>?_⟩,rfl, ?_⟩
 . have:=List.eq_of_mem_replicate hb;subst this;refine ⟨rfl,by decide,by decide, ?_⟩;decide
 decide
def zop (B R m:Nat) (w:World) (e:Ending) (w':World):Prop :=
 ∃ (v : Value) (A D : Option Addr) (c lo hi : Nat) (s : St) (xs : List Ev), e = .returned (.tuple #[v, .agg #[.slice A 4 c, .slice D 6 6]]) ∧ w.heap.size ≤ lo ∧ hi ≤ w'.heap.size ∧ 4 ≤ c ∧
   OSt w' lo hi A s.flash D s.disk∧xq s∧OwnE w' hi v xs∧xs.length ≤ 58∧(∀ x ∈ xs,zio x)∧Rd w' B R (m + 500)∧Agr (· = R) w w'
theorem Ys (B R m:Nat) (w:World) (hm:m ≤ 800000) (hR:Rd w B R m) :
 Calls Tryz.prog 21 #[.pointer (some ⟨R,0,none⟩)] w (zop B R m w):=by
 obtain ⟨ib,hib,hbz0,hbz1,hbz2⟩:=info_parts Tryz.info3_event;have hRl:=hR.lt;have hq:=Row.new w #[.slice none 0 0, .slice none 0 0] 28;obtain ⟨q0,f0⟩:=hq.at0 (j:=0) rfl;obtain ⟨q1,f1⟩:=hq.at0 (j:=1) rfl;have hR0:=hR.alloc (.cells #[.slice none 0 0, .slice none 0 0] 28);have hs0:w.heap.size < (w.alloc (.cells #[.slice none 0 0, .slice none 0 0] 28)).heap.size:=by simp
 have hB0:Below w.heap.size w (w.alloc (.cells #[.slice none 0 0, .slice none 0 0] 28)):=bw;have hne:¬ w.heap.size = R:=by omega
 clear hq
 go_enter Tryz.func21,Tryz.ntmps21
 go_wp2_with fail
 refine (zda _).mono ?_;rintro e w1 ⟨A,c,D,rfl,hc,hO,hb⟩;replace q0:=(hb.cell (p:=⟨w.heap.size,0,none⟩) hs0).trans q0;replace q1:=(hb.cell (p:=⟨w.heap.size,1,none⟩) hs0).trans q1;replace f0:=(hb.frozen (p:=⟨w.heap.size,0,none⟩) hs0).trans f0;replace f1:=(hb.frozen (p:=⟨w.heap.size,1,none⟩) hs0).trans f1;have hR1:=hR0.below hb nl;have hs1:w.heap.size < w1.heap.size:=Nat.lt_of_lt_of_le hs0 hb.size;have hB1:Below w.heap.size w w1:=hB0.trans (hb.mono (by simp));replace hO:OSt w1 (w.heap.size + 1) w1.heap.size A xp D Qh:=hO.mono (by simp) nl;clear hb hB0 hs0 hR0;obtain ⟨W2,hW2⟩:∃ W,W = (w1.alloc (.cells #[.slice A 4 c, .slice D 6 6] 28)).alloc (.cells #[] 33):=⟨_,rfl⟩;have hBW:Below w1.heap.size w1 W2:=by rw [hW2];(repeat (first | (with_reducible exact Below.refl _ _) | (with_reducible assumption) | (refine Below.setCell ?_ (by first | omega | exact hB.size | exact hb.size | (have h:=hB.size;simp;omega) | (have h:=hb.size;simp;omega) | (simp;omega) | simp) _) | (refine Below.alloc ?_ (by first | omega | exact hB.size | exact hb.size | (have h:=hB.size;simp;omega) | (have h:=hb.size;simp;omega) | (simp;omega) | simp) _) | (refine Below.drew ?_)))
 have hM:=(Row.new w1 #[.slice A 4 c, .slice D 6 6] 28).alloc (.cells #[] 33);rw [← hW2] at hM;obtain ⟨b0,b2⟩:=hM.at0 (j:=0) rfl;obtain ⟨b1,b3⟩:=hM.at0 (j:=1) rfl;have hE:OwnE W2 (w1.heap.size + 1) (.slice (some ⟨w1.heap.size + 1,0,none⟩) 0 0) []:=by
  have:=OwnE.nil (w1.alloc (.cells #[.slice A 4 c, .slice D 6 6] 28)) (w1.heap.size + 1) (by simp);simp only [World.size_alloc] at this;rw [hW2];exact this
 replace q0:=(hBW.cell (p:=⟨w.heap.size,0,none⟩) hs1).trans q0;replace q1:=(hBW.cell (p:=⟨w.heap.size,1,none⟩) hs1).trans q1;replace f0:=(hBW.frozen (p:=⟨w.heap.size,0,none⟩) hs1).trans f0;replace f1:=(hBW.frozen (p:=⟨w.heap.size,1,none⟩) hs1).trans f1;have hR2:=hR1.below hBW nl;have hO2:=hO.below hBW nl;have hs2:w1.heap.size < W2.heap.size:=by rw [hW2];simp;omega
 have hA2:Agr (· = R) w W2:=Agr.of_below (hB1.trans (hBW.mono (by omega)));have HW2:=Lib.hid hW2;clear hBW hM hW2 hR1 hO hB1;go_wp2_with fail
 rw [← HW2.out];refine (zi 58 58 B R m _ rfl (by omega) (by omega) (by omega) hR2).mono ?_;rintro e w3 ⟨k,rfl,hk,hR3,hA3⟩;generalize w1.heap.size = n1 at *;have hRn:R < n1:=by omega
 replace q0:=(hA3.cell (b:=w.heap.size) (by omega) (by omega) 0).trans q0;replace q1:=(hA3.cell (b:=w.heap.size) (by omega) (by omega) 1).trans q1;replace f0:=(hA3.fz (b:=w.heap.size) (by omega) (by omega) 0).trans f0;replace f1:=(hA3.fz (b:=w.heap.size) (by omega) (by omega) 1).trans f1;replace b0:=(hA3.cell (b:=n1) (by omega) (by omega) 0).trans b0;replace b1:=(hA3.cell (b:=n1) (by omega) (by omega) 1).trans b1;replace b2:=(hA3.fz (b:=n1) (by omega) (by omega) 0).trans b2;replace b3:=(hA3.fz (b:=n1) (by omega) (by omega) 1).trans b3;have hO3:OSt w3 (w.heap.size + 1) n1 A xp D Qh:=hO2.keep fun b h1 h2 hl=>hA3.block b hl (by omega);have hE3:OwnE w3 (n1 + 1) (.slice (some ⟨n1 + 1,0,none⟩) 0 0) []:=hE.agr hA3 (by intro b h1 h2;omega);have hs3:n1 < w3.heap.size:=Nat.lt_of_lt_of_le hs2 hA3.size;have hA3':=hA2.trans hA3 (fun _ _ h=>h);clear hA3 hA2 hs2 hO2 hE hR2;go_wp2
 go_loopw [5,6] (fun t5 t6 wr=>∃ (j p:Nat) (xs:List Ev) (s:St),t6 = .int .i64 j∧j ≤ 57∧xs.length + j ≤ 58∧p + 7 * j ≤ m + 400∧OwnE wr (n1 + 1) t5 xs∧Hid (∀ x ∈ xs,zio x)∧Hid (xq s) ∧
  OSt wr (w.heap.size + 1) n1 A s.flash D s.disk∧Rd wr B R p∧Agr (· = R) w wr∧n1 < wr.heap.size ∧
  (wr.cell? ⟨n1,0,none⟩ = some (.slice A 4 c)∧wr.cell? ⟨n1,1,none⟩ = some (.slice D 6 6)∧wr.frozen? ⟨n1,0,none⟩ = false∧wr.frozen? ⟨n1,1,none⟩ = false) ∧
  (wr.cell? ⟨w.heap.size,0,none⟩ = some (.slice none 0 0)∧wr.cell? ⟨w.heap.size,1,none⟩ = some (.slice none 0 0)∧wr.frozen? ⟨w.heap.size,0,none⟩ = false∧wr.frozen? ⟨w.heap.size,1,none⟩ = false)) (fun _ t6 _=>(intOf t6).toNat)
 case atStart=>exact ⟨k,m + 1,[],⟨xp,Qh⟩,rfl,by omega,by simp;omega,by omega,hE3,Lib.hid (by simp),Lib.hid znw,hO3,hR3,hA3',hs3,⟨b0,b1,b2,b3⟩,⟨q0,q1,f0,f1⟩⟩
 case round =>
  clear b0 b1 b2 b3 q0 q1 f0 f1;obtain ⟨j,p,xs,s,rfl,hj,hxl,hp,hEk,hXs,hst,hOk,hRk,hAk,hsk,⟨b0,b1,b2,b3⟩,⟨q0,q1,f0,f1⟩⟩:=hrel;by_cases hj0:0 < j
  . have hj1:(0:Int) < j:=by omega
    go_wp2_with fail
    refine (zc5 B R p _ (by omega) hRk).mono ?_;rintro e w4 ⟨x,rfl,hx,hR4,hA4⟩;have hs4:n1 < w4.heap.size:=Nat.lt_of_lt_of_le hsk hA4.size;have hO4:OSt w4 (w.heap.size + 1) n1 A s.flash D s.disk:=hOk.keep fun b h1 h2 hl=>hA4.block b hl (by omega);have hE4:OwnE w4 (n1 + 1) u5 xs:=hEk.agr hA4 (by intro b h1 h2;omega);have hA4':=hAk.trans hA4 (fun _ _ h=>h);replace q0:=(hA4.cell (b:=w.heap.size) (by omega) (by omega) 0).trans q0;replace q1:=(hA4.cell (b:=w.heap.size) (by omega) (by omega) 1).trans q1;replace f0:=(hA4.fz (b:=w.heap.size) (by omega) (by omega) 0).trans f0;replace f1:=(hA4.fz (b:=w.heap.size) (by omega) (by omega) 1).trans f1;replace b0:=(hA4.cell (b:=n1) (by omega) (by omega) 0).trans b0;replace b1:=(hA4.cell (b:=n1) (by omega) (by omega) 1).trans b1;replace b2:=(hA4.fz (b:=n1) (by omega) (by omega) 0).trans b2;replace b3:=(hA4.fz (b:=n1) (by omega) (by omega) 1).trans b3;have hQ:∀ q,u5.ownBlock = some q->n1 + 1 ≤ q∧q < w4.heap.size:=fun q e=>World.ownsRow.lt hE4 q e;have hE6:OwnE ((w4.alloc (.cells #[.int .i64 x.kind, .int .i64 x.a, .int .i64 x.b, .int .i64 x.c, .bool x.torn] 33)).alloc (.cells #[.int .i64 x.kind, .int .i64 x.a, .int .i64 x.b, .int .i64 x.c, .bool x.torn] 33)) (n1 + 1) u5 xs:=(hE4.alloc _).alloc _;have hx4:=(Row.new w4 #[.int .i64 x.kind, .int .i64 x.a, .int .i64 x.b, .int .i64 x.c, .bool x.torn] 33).alloc (.cells #[.int .i64 x.kind, .int .i64 x.a, .int .i64 x.b, .int .i64 x.c, .bool x.torn] 33);obtain ⟨x0,y0⟩:=hx4.at0 (j:=0) rfl;obtain ⟨x1,y1⟩:=hx4.at0 (j:=1) rfl;obtain ⟨x2,y2⟩:=hx4.at0 (j:=2) rfl;obtain ⟨x3,y3⟩:=hx4.at0 (j:=3) rfl;obtain ⟨x4,y4⟩:=hx4.at0 (j:=4) rfl;have hAa:Agr (fun b=>n1 + 1 ≤ b) w4 ((w4.alloc (.cells #[.int .i64 x.kind, .int .i64 x.a, .int .i64 x.b, .int .i64 x.c, .bool x.torn] 33)).alloc (.cells #[.int .i64 x.kind, .int .i64 x.a, .int .i64 x.b, .int .i64 x.c, .bool x.torn] 33)):=((Agr.refl _ _).alloc _).alloc _;have hs6:((w4.alloc (.cells #[.int .i64 x.kind, .int .i64 x.a, .int .i64 x.b, .int .i64 x.c, .bool x.torn] 33)).alloc (.cells #[.int .i64 x.kind, .int .i64 x.a, .int .i64 x.b, .int .i64 x.c, .bool x.torn] 33)).heap.size = w4.heap.size + 1 + 1:=by simp
    have hrow:=Row.new (w4.alloc (.cells #[.int .i64 x.kind, .int .i64 x.a, .int .i64 x.b, .int .i64 x.c, .bool x.torn] 33)) #[.int .i64 x.kind, .int .i64 x.a, .int .i64 x.b, .int .i64 x.c, .bool x.torn] 33;simp only [World.size_alloc] at hrow;have hnews:∀ j u,x.vs[j]? = some u->((w4.alloc (.cells #[.int .i64 x.kind, .int .i64 x.a, .int .i64 x.b, .int .i64 x.c, .bool x.torn] 33)).alloc (.cells #[.int .i64 x.kind, .int .i64 x.a, .int .i64 x.b, .int .i64 x.c, .bool x.torn] 33)).cell? ((⟨w4.heap.size + 1,0,none⟩:Addr).add j) = some u:=hrow.news;clear hE4 hA4 hEk hOk hRk hAk hx4 hrow;have hBa:Below w4.heap.size w4 ((w4.alloc (.cells #[.int .i64 x.kind, .int .i64 x.a, .int .i64 x.b, .int .i64 x.c, .bool x.torn] 33)).alloc (.cells #[.int .i64 x.kind, .int .i64 x.a, .int .i64 x.b, .int .i64 x.c, .bool x.torn] 33)):=bw;have Qq0:=(hBa.cell (p:=⟨w.heap.size,0,none⟩) (by show w.heap.size < w4.heap.size;omega)).trans q0;have Qq1:=(hBa.cell (p:=⟨w.heap.size,1,none⟩) (by show w.heap.size < w4.heap.size;omega)).trans q1;have Qf0:=(hBa.frozen (p:=⟨w.heap.size,0,none⟩) (by show w.heap.size < w4.heap.size;omega)).trans f0;have Qf1:=(hBa.frozen (p:=⟨w.heap.size,1,none⟩) (by show w.heap.size < w4.heap.size;omega)).trans f1;have Qb0:=(hBa.cell (p:=⟨n1,0,none⟩) (by show n1 < w4.heap.size;omega)).trans b0;have Qb1:=(hBa.cell (p:=⟨n1,1,none⟩) (by show n1 < w4.heap.size;omega)).trans b1;have Qb2:=(hBa.frozen (p:=⟨n1,0,none⟩) (by show n1 < w4.heap.size;omega)).trans b2;have Qb3:=(hBa.frozen (p:=⟨n1,1,none⟩) (by show n1 < w4.heap.size;omega)).trans b3;go_wp2_with (at_builtin;refine wpList_append_lies _ rfl (.tmp 18) (.tmp 20) _ rfl (n1 + 1) 33 ib _ 5 40 Tryz.underlying23 hib hbz0 hbz1 hbz2 rfl (by omega) u5 xs.length (evs xs) rfl hE6 ⟨w4.heap.size + 1,0,none⟩ 1 1 x.vs rfl rfl hnews (by simp [Value.oneCell',Ev.vs]) (by omega) (by unfold maxLen;omega) (by omega) (by simp;omega) (w4.heap.size + 1 + 1) (by simp) ?_;intro g2 c2 w7 hown2 hgrow2 hat2 hlt2;have hAg:=(Agr.refl (fun b=>u5.ownBlock = some b) _).grown hgrow2 (fun g hg=>.inr hg);have zq0:=(hAg.cell (b:=w.heap.size) (by omega) (fun e=>by have:=hQ _ e;omega) 0).trans Qq0;have zq1:=(hAg.cell (b:=w.heap.size) (by omega) (fun e=>by have:=hQ _ e;omega) 1).trans Qq1;have zf0:=(hAg.fz (b:=w.heap.size) (by omega) (fun e=>by have:=hQ _ e;omega) 0).trans Qf0;have zf1:=(hAg.fz (b:=w.heap.size) (by omega) (fun e=>by have:=hQ _ e;omega) 1).trans Qf1;have zb0:=(hAg.cell (b:=n1) (by omega) (fun e=>by have:=hQ _ e;omega) 0).trans Qb0;have zb1:=(hAg.cell (b:=n1) (by omega) (fun e=>by have:=hQ _ e;omega) 1).trans Qb1;have zb2:=(hAg.fz (b:=n1) (by omega) (fun e=>by have:=hQ _ e;omega) 0).trans Qb2;have zb3:=(hAg.fz (b:=n1) (by omega) (fun e=>by have:=hQ _ e;omega) 1).trans Qb3;have zx0:=(hAg.cell (b:=w4.heap.size) (by omega) (fun e=>by have:=hQ _ e;omega) 0).trans x0;have zx1:=(hAg.cell (b:=w4.heap.size) (by omega) (fun e=>by have:=hQ _ e;omega) 1).trans x1;have zx2:=(hAg.cell (b:=w4.heap.size) (by omega) (fun e=>by have:=hQ _ e;omega) 2).trans x2;have zx3:=(hAg.cell (b:=w4.heap.size) (by omega) (fun e=>by have:=hQ _ e;omega) 3).trans x3;have zx4:=(hAg.cell (b:=w4.heap.size) (by omega) (fun e=>by have:=hQ _ e;omega) 4).trans x4;clear b0 b1 b2 b3 q0 q1 f0 f1 x0 x1 x2 x3 x4 y0 y1 y2 y3 y4)
    have hAll:Agr (fun b=>n1 + 1 ≤ b) w4 w7:=hAa.trans hAg (fun b _ h=>(hQ _ h).1);have hO7:OSt w7 (w.heap.size + 1) n1 A s.flash D s.disk:=hO4.keep fun b h1 h2 hl=>hAll.block b hl (by omega);have hR7:Rd w7 B R (p + 7):=hR4.agr hAll (by omega) (fun b hb e=>by have:=hR4.le;omega);have hA7:Agr (· = R) w w7:=hA4'.trans hAll (fun b hb e=>by omega);have hs7:n1 < w7.heap.size:=Nat.lt_of_lt_of_le hs4 hAll.size;have hE7:OwnE w7 (n1 + 1) (.slice (some ⟨g2,0,none⟩) (xs.length + 1) c2) (xs ++ [x]):=OwnE.snoc rfl hown2;clear hAa hAg hAll hO4 hR4 hA4' hQ hE6 hnews hBa Qq0 Qq1 Qf0 Qf1 Qb0 Qb1 Qb2 Qb3 hown2 hgrow2 hat2 hs6;refine (zbx s x A D c 6 (w.heap.size + 1) n1 _ hst.out (by omega) hO7).mono ?_;rintro e w8 ⟨rfl,hO8,hA8⟩;have hst8:=Lib.hid (zms hst.out x);generalize doEv s x = s8 at *;replace zq0:=(hA8.cell (b:=w.heap.size) (by omega) (by omega) 0).trans zq0;replace zq1:=(hA8.cell (b:=w.heap.size) (by omega) (by omega) 1).trans zq1;replace zf0:=(hA8.fz (b:=w.heap.size) (by omega) (by omega) 0).trans zf0;replace zf1:=(hA8.fz (b:=w.heap.size) (by omega) (by omega) 1).trans zf1;replace zb0:=(hA8.cell (b:=n1) (by omega) (by omega) 0).trans zb0;replace zb1:=(hA8.cell (b:=n1) (by omega) (by omega) 1).trans zb1;replace zb2:=(hA8.fz (b:=n1) (by omega) (by omega) 0).trans zb2;replace zb3:=(hA8.fz (b:=n1) (by omega) (by omega) 1).trans zb3;have hR8:Rd w8 B R (p + 7):=hR7.agr hA8 (by omega) (fun b hb e=>by have:=hR7.le;omega);have hE8:OwnE w8 (n1 + 1) (.slice (some ⟨g2,0,none⟩) (xs.length + 1) c2) (xs ++ [x]):=hE7.agr hA8 (by intro b h1 h2;omega);have hAw8:Agr (· = R) w w8:=hA7.trans hA8 (fun b hb e=>by omega);have hs8:n1 < w8.heap.size:=Nat.lt_of_lt_of_le hs7 hA8.size;clear hO7 hR7 hE7 hA7 hA8 hs7 zx0 zx1 zx2 zx3 zx4;have hW:xt w8 ((w8.setCell ⟨n1,0,none⟩ (.slice A 4 c)).setCell ⟨n1,1,none⟩ (.slice D 6 6)) n1 0 [.slice A 4 c, .slice D 6 6]:=zp n1 [.slice A 4 c, .slice D 6 6] 0 w8 (fun j hj=>by
     match j,hj with
     | 0,_=>exact ⟨_,zb0⟩
     | 1,_=>exact ⟨_,zb1⟩)
    have hO9:OSt _ (w.heap.size + 1) n1 A s8.flash D s8.disk:=hO8.keep fun b h1 h2 _=>hW.block b (by omega);have hR9:Rd _ B R (p + 7):=hR8.agr hW.agr (by omega) (fun b hb e=>by have:=hR8.le;omega);have hE9:OwnE _ (n1 + 1) (.slice (some ⟨g2,0,none⟩) (xs.length + 1) c2) (xs ++ [x]):=hE8.agr hW.agr (by intro b h1 h2;omega);have hA9:Agr (· = R) w _:=hAw8.trans (S':=(· = n1)) hW.agr (fun b hb e=>by omega);have t0:=hW.new_ 0 _ rfl;have t1:=hW.new_ 1 _ rfl;have t2:=(hW.frozen ⟨n1,0,none⟩).trans zb2;have t3:=(hW.frozen ⟨n1,1,none⟩).trans zb3;have s0:=(hW.agr.cell (b:=w.heap.size) (by omega) (by omega) 0).trans zq0;have s1:=(hW.agr.cell (b:=w.heap.size) (by omega) (by omega) 1).trans zq1;have s2:=(hW.frozen ⟨w.heap.size,0,none⟩).trans zf0;have s3:=(hW.frozen ⟨w.heap.size,1,none⟩).trans zf1;have hss:=hW.size;have hXs2:=Lib.hid (show ∀ y ∈ xs ++ [x],zio y from fun y hy=>by
     rcases List.mem_append.1 hy with hy | hy
     . exact hXs.out y hy
     rw [List.mem_singleton] at hy;subst hy;exact hx)
    have hxl2:(xs ++ [x]).length + (j - 1) ≤ 58:=by rw [List.length_append];simp only [List.length_cons,List.length_nil];omega
    have e1:IntKind.i64.wrap ((j:Int) - 1) = (j:Int) - 1:=IntWalk.i64_in _ (by omega);have e2:((j - 1:Nat):Int) = (j:Int) - 1:=by omega
    clear hW hO8 hR8 hE8 hAw8 hXs;have E2:=Lib.hid e2;clear e2;go_wp2;go_roundw
    (case rel=>exact ⟨j - 1,p + 7,xs ++ [x],s8,by rw [E2.out],by omega,hxl2,by omega,hE9,hXs2,hst8,hO9,hR9,hA9,by omega,⟨t0,t1,t2,t3⟩,⟨s0,s1,s2,s3⟩⟩)
    (case measure=>simp [intOf];omega)
  obtain rfl:j = 0:=by omega
  go_wp2;have d0:wr.drew.cell? ⟨n1,0,none⟩ = some (.slice A 4 c):=b0;have d1:wr.drew.cell? ⟨n1,1,none⟩ = some (.slice D 6 6):=b1;have d2:wr.drew.cell? ⟨w.heap.size,0,none⟩ = some (.slice none 0 0):=q0;have d3:wr.drew.cell? ⟨w.heap.size,1,none⟩ = some (.slice none 0 0):=q1
  go_region
  all_goals
   go_wp2;have hF:Agr (· = w.heap.size) wr ((wr.setCell ⟨w.heap.size,0,none⟩ (.slice A 4 c)).setCell ⟨w.heap.size,1,none⟩ (.slice D 6 6)).drew:=Agr.drew (Agr.setCell (S:=fun b=>b = w.heap.size) (Agr.setCell (S:=fun b=>b = w.heap.size) (Agr.refl _ _) (p:=⟨w.heap.size,0,none⟩) (.inr rfl) _) (p:=⟨w.heap.size,1,none⟩) (.inr rfl) _);refine bodyPost_ret (v:=.tuple #[u5, .agg #[.slice A 4 c, .slice D 6 6]]) (by simp [results,Tryz.results21,go_sem,q0,q1]) rfl ⟨u5,A,D,c,w.heap.size + 1,n1,s,xs,rfl,by omega, ?_,hc, ?_,hst.out, ?_,by omega,hXs.out, ?_, ?_⟩
   . have:=hF.size;omega
   . exact hOk.keep fun b h1 h2 hl=>hF.block b hl (by omega)
   . exact (hEk.agr hF (by intro b h1 h2;omega)).mono (by omega)
   . exact (hRk.agr hF (by omega) (fun b hb e=>by have:=hRk.le;omega)).mono (by omega)
   . exact hAk.trans hF (fun b hb e=>by omega)
end
end Go.Proofs.YtclnogfmmekooaaGreat
