/- What the laws' walks share: words, plain laws, and the walks of functions, part 8. -/
import Derived.Laws.EntriesVeiled
import Derived.Laws.ResultCell
import Derived.Deep.RegionHeld3
import Derived.Test.YtclnogfmmekooaaGreatY7
set_option linter.unusedVariables false
set_option linter.unusedSimpArgs false
set_option maxHeartbeats 16000000
set_option maxRecDepth 100000
namespace Go.Proofs.YtclnogfmmekooaaGreat
section
theorem Ki {f:List Bk}:∀ (xs:List Int) (i:Nat),jm f i xs = true ↔ ∀ (k:Nat) (v:Int),xs[k]? = some v->valB v = true∧¬ Zg f (i + k) v
 | [],i=>by simp [jm]
 | x :: xs, i => by
   unfold jm;constructor
   . intro h k v hk;split at h
     . rename_i h1;split at h
       . cases h
       rename_i h2;cases k with
       | zero=>rw [List.getElem?_cons_zero,Option.some.injEq] at hk;subst hk;exact ⟨h1,h2⟩
       | succ k =>
         have:=(Ki xs (i + 1)).1 h k v (by simpa using hk)
         rwa [show i + 1 + k = i + (k + 1) by omega] at this
     cases h
   intro h;have h0:=h 0 x rfl;rw [if_pos h0.1,if_neg (by simpa using h0.2)];refine (Ki xs (i + 1)).2 fun k v hk=>?_;have:=h (k + 1) v (by simpa using hk)
   rwa [show i + (k + 1) = i + 1 + k by omega] at this
def dk (s:St) (a:Int):Int:=s.disk.getD (a - 1).toNat 0
structure Okay (s:St):Prop where
 len:s.disk.length = 6
 ord:z6 s.flash = true
 val:∀ a:Int,1 ≤ a->a ≤ 6->valB (dk s a) = true
 agree:∀ a:Int,1 ≤ a->a ≤ 6->0 < (last s.flash a).seq->(last s.flash a).kind = 2->(last s.flash a).val = dk s a
theorem zo1 {s:St} (h6:s.disk.length = 6) {a:Int} (h1:1 ≤ a) (h2:a ≤ 6):s.disk[(a - 1).toNat]? = some (dk s a):=by
 obtain ⟨v,hv⟩:=zc (l:=s.disk) (k:=(a - 1).toNat) (by omega);unfold dk;rw [List.getD_eq_getElem?_getD,hv];rfl
theorem zqw {s:St} {k:Nat} {v:Int} (h:s.disk[k]? = some v):dk s ((k:Int) + 1) = v:=by
 unfold dk;rw [show ((k:Int) + 1 - 1).toNat = k by omega,List.getD_eq_getElem?_getD,h];rfl
theorem xy {s:St}:z8 s = true ↔ Okay s:=by
 constructor
 . intro h;obtain ⟨h6,ho,hd⟩:=Jf h;have hd':=(Ki s.disk 0).1 hd;refine ⟨h6,ho,fun a h1 h2=>(hd' _ _ (zo1 h6 h1 h2)).1,fun a h1 h2 h3 h4=>?_⟩;have:=(hd' _ _ (zo1 h6 h1 h2)).2;unfold Zg at this;rw [show ((0 + (a - 1).toNat:Nat):Int) + 1 = a by omega] at this;by_cases he:(last s.flash a).val = dk s a
   . exact he
   exact absurd ⟨h3,h4,he⟩ this
 intro h;unfold z8;rw [if_pos h.len,if_pos h.ord];refine (Ki s.disk 0).2 fun k v hk=>?_;have hk6:k < 6:=by rw [← h.len];exact (List.getElem?_eq_some_iff.1 hk).1
 have e:=zqw hk;have h1:=h.val ((k:Int) + 1) (by omega) (by omega);have h2:=h.agree ((k:Int) + 1) (by omega) (by omega);rw [e] at h1 h2;refine ⟨h1, ?_⟩;unfold Zg;rw [Nat.zero_add];rintro ⟨h3,h4,h5⟩;exact h5 (h2 h3 h4)
theorem ya (s:St) (a:Int):xe s a = if 0 < (last s.flash a).seq then (last s.flash a).val else dk s a:=rfl
def Same (s t:St):Prop:=∀ a:Int,1 ≤ a->a ≤ 6->xe t a = xe s a
theorem Same.refl (s:St):Same s s:=fun _ _ _=>rfl
theorem Same.trans {s t u:St} (h:Same s t) (k:Same t u):Same s u:=fun a h1 h2=>(k a h1 h2).trans (h a h1 h2)
theorem Okay.flash {s:St} (h:Okay s):ze s.flash = true:=Ql h.ord
theorem Okay.isOrd {s:St} (h:Okay s):Ord s.flash:=(y9 h.flash).1 h.ord
theorem Y9 {s:St} (h6:s.disk.length = 6) {a b v:Int} (h1:1 ≤ a) (h2:a ≤ 6) (h3:1 ≤ b):dk ⟨s.flash,s.disk.set (a - 1).toNat v⟩ b = if b = a then v else dk s b:=by
 unfold dk;rw [List.getD_eq_getElem?_getD,List.getD_eq_getElem?_getD];by_cases hb:b = a
 . subst hb;rw [if_pos rfl,List.getElem?_set_self (by omega)];rfl
 rw [if_neg hb,List.getElem?_set_ne (by omega)]
theorem zky {s:St} (h:Okay s) {a v:Int} (h1:1 ≤ a) (h2:a ≤ 6) (hv:valB v = true) (hl:0 < (last s.flash a).seq) (hk:(last s.flash a).kind = 1) :
 Okay ⟨s.flash,s.disk.set (a - 1).toNat v⟩∧Same s ⟨s.flash,s.disk.set (a - 1).toNat v⟩:=by
 refine ⟨⟨by rw [List.length_set];exact h.len,h.ord,fun b b1 b2=>?_,fun b b1 b2 b3 b4=>?_⟩,fun b b1 b2=>?_⟩
 . rw [Y9 h.len h1 h2 b1];split
   . exact hv
   exact h.val b b1 b2
 . dsimp only at b3 b4 ⊢;rw [Y9 h.len h1 h2 b1];split
   . rename_i e;subst e;omega
   exact h.agree b b1 b2 b3 b4
 rw [ya,ya,Y9 h.len h1 h2 b1];dsimp only;by_cases e:b = a
 . subst e;rw [if_pos hl,if_pos hl]
 rw [if_neg e]
def Safe (K E:St->Prop):St->List Sp->Prop
 | s,[]=>E s
 | s,x :: xs=>K s∧K (z5 s x true)∧Safe K E (z5 s x false) xs
theorem Safe.mono {K E K' E':St->Prop} (hK:∀ s,K s->K' s) (hE:∀ s,E s->E' s):∀ {xs:List Sp} {s:St},Safe K E s xs->Safe K' E' s xs
 | [],_,h=>hE _ h
 | _ :: _,_,h=>⟨hK _ h.1,hK _ h.2.1,Safe.mono hK hE h.2.2⟩
theorem Safe.append {K E:St->Prop} {ys:List Sp}:∀ {xs:List Sp} {s:St},Safe K (fun t=>Safe K E t ys) s xs->Safe K E s (xs ++ ys)
 | [],_,h=>h
 | _ :: _,_,h=>⟨h.1,h.2.1,Safe.append h.2.2⟩
theorem zmr {s:St} {x:Sp} {xs:List Sp} {n:Nat} {torn:Bool}:doTo s (x :: xs) ((n + 1:Nat):Int) torn = doTo (z5 s x false) xs n torn:=by
 unfold doTo;rw [show (((n + 1:Nat):Int)).toNat = n + 1 by omega,Int.toNat_natCast,List.take_succ_cons];have hd:zx s (x :: xs.take n) = zx (z5 s x false) (xs.take n):=rfl;rw [hd];by_cases hc:torn = true∧(0:Int) ≤ ((n + 1:Nat):Int)∧((n + 1:Nat):Int) < ((x :: xs).length:Nat)
 . rw [if_pos hc,if_pos ⟨hc.1,by omega,by have:=hc.2.2;rw [List.length_cons] at this;omega⟩,List.getD_cons_succ]
 rw [if_neg hc,if_neg (fun e=>hc ⟨e.1,by omega,by rw [List.length_cons];omega⟩)]
theorem zmp {s:St} {x:Sp} {xs:List Sp} {cut:Int} (h:cut.toNat = 0) {torn:Bool}:doTo s (x :: xs) cut torn = s∨doTo s (x :: xs) cut torn = z5 s x true:=by
 unfold doTo;rw [h];split
 . exact .inr rfl
 exact .inl rfl
theorem Safe.to {K E:St->Prop}:∀ {xs:List Sp} {s:St},Safe K E s xs->∀ (cut:Int) (torn:Bool),(xs.length ≤ cut.toNat->E (doTo s xs cut torn))∧(cut.toNat < xs.length->K (doTo s xs cut torn))
 | [], s, h, cut, torn => by
   have he:doTo s [] cut torn = s:=by
    unfold doTo;rw [if_neg (by rintro ⟨_,h1,h2⟩;simp at h2;omega)];simp [zx]
   rw [he];exact ⟨fun _=>h,fun hc=>by simp at hc⟩
 | x :: xs, s, h, cut, torn => by
   by_cases h0:cut.toNat = 0
   . refine ⟨fun hl=>by rw [h0] at hl;simp at hl,fun _=>?_⟩;rcases zmp (s:=s) (x:=x) (xs:=xs) h0 (torn:=torn) with e | e
     . rw [e];exact h.1
     rw [e];exact h.2.1
   obtain ⟨n,hn⟩:∃ n:Nat,cut = ((n + 1:Nat):Int):=⟨cut.toNat - 1,by omega⟩;subst hn;rw [zmr];have:=h.2.2.to n torn;rw [Int.toNat_natCast] at this;rw [Int.toNat_natCast,List.length_cons];exact ⟨fun hl=>this.1 (by omega),fun hl=>this.2 (by omega)⟩
theorem zdn {f:List Bk}:∀ (r:List Bk) (i out:Nat),hiGo (f.map spn) i out (r.map spn) = Kl f i out r
 | [],_,_=>rfl
 | b :: r, i, out => by
   have he:((f.map spn).getD out (0,0)).2 = most (f.getD out zbk):=by
    rw [List.getD_eq_getElem?_getD,List.getD_eq_getElem?_getD,List.getElem?_map];cases f[out]? <;> rfl
   rw [List.map_cons];unfold hiGo Kl;rw [he];show (if most b < most (f.getD out zbk) then _ else _) = _;rw [zdn r,zdn r]
theorem za0 {f:List Bk} (h:ze f = true):Xg f = (old f:Nat):=by
 unfold Xg;rw [if_pos h,zgx h];have hl:=zh h;congr 1;cases f with
 | nil=>simp at hl
 | cons b r =>
   unfold old;rw [List.map_cons];show hiGo ((b :: r).map spn) 0 0 (spn b :: r.map spn) = _;unfold hiGo;rw [if_neg (by show ¬ most b < most b;omega)];exact zdn r 1 0
theorem zpk {f:List Bk} (h:ze f = true) {b:Bk} (hb:f[old f]? = some b):∀ d ∈ f,most b ≤ most d:=zhp h (za0 h) hb
def kq (f:List Bk):Int:=f.foldr (fun b n=>b.worn + n) 0
theorem Qx:∀ {f:List Bk} {i:Nat} {b:Bk} (c:Bk),f[i]? = some b->kq (f.set i c) = kq f + c.worn - b.worn
 | [],_,_,_,h=>by simp at h
 | a :: f, 0, b, c, h => by
   rw [List.getElem?_cons_zero,Option.some.injEq] at h;subst h;rw [List.set_cons_zero];show c.worn + kq f = a.worn + kq f + c.worn - a.worn;omega
 | a :: f, i + 1, b, c, h => by
   rw [List.getElem?_cons_succ] at h;rw [List.set_cons_succ];show a.worn + kq (f.set i c) = a.worn + kq f + c.worn - b.worn;rw [Qx c h];omega
theorem zei {b:Bk}:∀ {f:List Bk},(∀ c ∈ f,0 ≤ c.worn)->b ∈ f->b.worn ≤ kq f
 | [],_,h=>by cases h
 | a :: f, hp, h => by
   have h0:∀ {g:List Bk},(∀ c ∈ g,0 ≤ c.worn)->0 ≤ kq g:=by
    intro g
    induction g with
    | nil=>intro _;exact Int.le_refl _
    | cons c g ih =>
      intro hg;have h1:=hg c (List.mem_cons_self ..);have h2:=ih fun d hd=>hg d (List.mem_cons_of_mem _ hd);show 0 ≤ c.worn + kq g;omega
   show b.worn ≤ a.worn + kq f;have hpf:=fun c hc=>hp c (List.mem_cons_of_mem _ hc);rcases List.mem_cons.1 h with rfl | h
   . have:=h0 hpf;omega
   have:=zei hpf h;have:=hp a (List.mem_cons_self ..);omega
theorem zlm {f g:List Bk} (h:∀ c ∈ g,most c < next f) (h0:1 ≤ next f):next g ≤ next f:=by
 have:qi g ≤ next f - 1:=Je (by omega) (fun b hb=>by have:=h b hb;omega);unfold next at *;omega
theorem Z8 (f:List Bk):1 ≤ next f:=by have:=J6 (f:=f) (n:=0);unfold next qi;omega
structure Mid (s t:St):Prop where
 ok:Okay t
 same:Same s t
 nx:next t.flash ≤ next s.flash
 wear:kq t.flash ≤ kq s.flash + 1
 drt:∀ b,xz t.flash b = true->xz s.flash b = true
 dsk:∀ c:Int,1 ≤ c->c ≤ 6->dk t c = dk s c∨dk t c = xe s c
theorem Mid.refl {s:St} (h:Okay s):Mid s s:=⟨h,Same.refl s,Int.le_refl _,by omega,fun _ h=>h,fun _ _ _=>.inl rfl⟩
structure Fin (s:St) (k a v:Int) (t:St):Prop where
 ok:Okay t
 read:∀ b:Int,1 ≤ b->b ≤ 6->xe t b = if b = a then v else xe s b
 rec_:last t.flash a = ⟨k,next s.flash,a,v⟩
 nx:next t.flash ≤ next s.flash + 1
 wear:kq t.flash ≤ kq s.flash + 1
 drt:∀ b,b ≠ a->xz t.flash b = true->xz s.flash b = true
 dsk:∀ c:Int,1 ≤ c->c ≤ 6->dk t c = dk s c∨dk t c = xe s c
def Told (s t:St):Prop:=Mid s t∧t.flash = s.flash∧∀ c:Int,1 ≤ c->c ≤ 6->dk t c = dk s c∨dk t c = xe s c
theorem Q1 {f:List Bk} (h:ze f = true) {b:Bk} (hb:b ∈ f) {p:Pg} (hp:p ∈ b.pages) (ht:told f p = true) :
 (1 ≤ p.rc.addr∧p.rc.addr ≤ 6)∧valB p.rc.val = true∧last f p.rc.addr = p.rc∧0 < p.rc.seq∧p.rc.kind = 1:=by
 unfold told live at ht;rw [Bool.and_eq_true,Bool.and_eq_true,decide_eq_true_iff,decide_eq_true_iff,decide_eq_true_iff] at ht;obtain ⟨⟨h1,h2⟩,h3⟩:=ht;have hr:=xx (xk ((xi h hb).2.2.2 p hp) h1);exact ⟨⟨by omega,by omega⟩,by unfold valB;simp;omega,h2,by omega,h3⟩
theorem zbu {s0:St} {b:Bk} (h:ze s0.flash = true) (hb:b ∈ s0.flash):∀ (ps qs:List Pg) (s:St),(∀ p ∈ ps,p ∈ b.pages∧told s0.flash p = true)->(∀ p ∈ qs,p ∈ b.pages∧told s0.flash p = true∧dk s p.rc.addr = p.rc.val)->Told s0 s ->
 Safe (Told s0) (fun t=>Told s0 t∧∀ p ∈ qs ++ ps,dk t p.rc.addr = p.rc.val) s (ps.map Zt)
 | [],qs,s,_,hq,hs=>⟨hs,fun p hp=>(hq p (by simpa using hp)).2.2⟩
 | p :: ps, qs, s, hp, hq, hs => by
   obtain ⟨hpb,hpt⟩:=hp p (List.mem_cons_self ..);obtain ⟨⟨a1,a2⟩,av,al,as_,ak⟩:=Q1 h hb hpb hpt;have hl:last s.flash p.rc.addr = p.rc:=by rw [hs.2.1];exact al
   have ht:=zky hs.1.ok a1 a2 av (by rw [hl];exact as_) (by rw [hl];exact ak);have hX:∀ c:Int,1 ≤ c->c ≤ 6->dk ⟨s.flash,s.disk.set (p.rc.addr - 1).toNat p.rc.val⟩ c = dk s0 c∨dk ⟨s.flash,s.disk.set (p.rc.addr - 1).toNat p.rc.val⟩ c = xe s0 c:=fun c c1 c2=>by
    rw [Y9 hs.1.ok.len a1 a2 c1];split
    . rename_i e;right;rw [e,ya,al,if_pos as_]
    exact hs.2.2 c c1 c2
   have hT:Told s0 ⟨s.flash,s.disk.set (p.rc.addr - 1).toNat p.rc.val⟩:=⟨⟨ht.1,hs.1.same.trans ht.2,hs.1.nx,hs.1.wear,hs.1.drt,hX⟩,hs.2.1,hX⟩;have hd:z5 s (Zt p) false = ⟨s.flash,s.disk.set (p.rc.addr - 1).toNat p.rc.val⟩:=rfl;have hdt:z5 s (Zt p) true = s:=rfl;rw [List.map_cons];refine ⟨hs,by rw [hdt];exact hs, ?_⟩;rw [hd];have ih:=zbu h hb ps (qs ++ [p]) _ (fun q hq'=>hp q (List.mem_cons_of_mem _ hq')) (fun q hq'=>?_) hT
   . refine ih.mono (fun _ h=>h) fun t ht=>⟨ht.1,fun q hq'=>ht.2 q ?_⟩
     simpa using hq'
   rcases List.mem_append.1 hq' with hq' | hq'
   . obtain ⟨q1,q2,q3⟩:=hq q hq';refine ⟨q1,q2, ?_⟩;obtain ⟨⟨c1,c2⟩,_,cl,_,_⟩:=Q1 h hb q1 q2;rw [Y9 hs.1.ok.len a1 a2 c1];split
     . rename_i e;rw [e,al] at cl;rw [cl]
     exact q3
   rw [List.mem_singleton] at hq';subst hq';exact ⟨hpb,hpt,by rw [Y9 hs.1.ok.len a1 a2 a1,if_pos rfl]⟩
theorem zd8 {f g:List Bk} {b:Int} (h:last g b = rc0∨last g b = last f b) (hd:xz g b = true):xz f b = true:=by
 unfold xz at hd ⊢;rcases h with h | h
 . rw [h] at hd;exact absurd hd (by decide)
 rwa [← h]
theorem znb {s t:St} (hT:Told s t) {i:Nat} {b:Bk} (hb:s.flash[i]? = some b) (hmin:∀ d ∈ s.flash,most b ≤ most d) (hw:b.worn ≠ 200) (hd:∀ p ∈ b.pages,told s.flash p = true->dk t p.rc.addr = p.rc.val) (torn:Bool) :
 Mid s ⟨wipe t.flash i torn,t.disk⟩∧(∀ a,last (wipe s.flash i torn) a = rc0∨last (wipe s.flash i torn) a = last s.flash a):=by
 obtain ⟨hM,hf,hX⟩:=hT;have hok:=hM.ok;rw [hf];have hfl:=hok.flash;rw [hf] at hfl;have hO:Ord s.flash:=by have:=hok.isOrd;rwa [hf] at this
 have hl:=zh hfl;have hi:i < 4:=by rw [← hl];exact (List.getElem?_eq_some_iff.1 hb).1
 have hok':=zc1 hfl hi torn (by rw [Xd hb];exact hw);have hlast:=fun a=>zlv hfl hO hb hmin hw torn a;have hnn:∀ c ∈ s.flash,0 ≤ most c:=fun c hc=>zha (xi hfl hc).2.2.2;have hord:=(y9 hok').2 (znt hO hnn i torn);have hcase:∀ a,last (wipe s.flash i torn) a = rc0∨last (wipe s.flash i torn) a = last s.flash a:=fun a=>by
  by_cases h:Wr b (last s.flash a)
  . exact .inl ((hlast a).1 h)
  exact .inr ((hlast a).2 h)
 have hread:∀ a:Int,1 ≤ a->a ≤ 6->xe ⟨wipe s.flash i torn,t.disk⟩ a = xe t a:=fun a a1 a2=>by
  rw [ya,ya];dsimp only;rw [hf];show (if 0 < (last (wipe s.flash i torn) a).seq then (last (wipe s.flash i torn) a).val else dk t a) = _;by_cases h:Wr b (last s.flash a)
  . rw [(hlast a).1 h,if_neg (by decide)];by_cases h0:0 < (last s.flash a).seq
    . rw [if_pos h0];obtain ⟨h1,h2⟩:=zdq h0;rcases zal hfl h0 with hk | hk
      . obtain ⟨p,hp,p1,p2⟩:=h;have ht:told s.flash p = true:=by
         unfold told live;rw [p2,h2,p1,hk];simp
        have:=hd p hp ht;rw [p2,h2] at this;exact this
      have:=hok.agree a a1 a2;rw [hf] at this;exact (this h0 hk).symm
    rw [if_neg h0]
  rw [(hlast a).2 h]
 refine ⟨⟨⟨hok.len,hord,fun a a1 a2=>hok.val a a1 a2,fun a a1 a2 a3 a4=>?_⟩,fun a a1 a2=>(hread a a1 a2).trans (hM.same a a1 a2), ?_, ?_,fun c hc=>zd8 (hcase c) hc,fun c c1 c2=>hX c c1 c2⟩,hcase⟩
 . dsimp only at a3 a4 ⊢;rcases hcase a with e | e
   . rw [e] at a3;exact absurd a3 (by decide)
   rw [e] at a3 a4 ⊢;have:=hok.agree a a1 a2;rw [hf] at this;exact this a3 a4
 . refine zlm (fun c hc=>?_) (Z8 _);dsimp only at hc;unfold wipe at hc;rcases Ky hc with hc | rfl
   . exact zkv hc
   have h1:=(zbs torn ((s.flash.getD i zbk).worn + 1)).1;have h2:=Z8 s.flash;rw [h1];omega
 show kq (wipe s.flash i torn) ≤ _;unfold wipe;rw [Qx _ hb,Xd hb];dsimp only;omega
theorem zef {s t:St} {k a v:Int} (hok:Okay t) (hsame:Same s t) (hnx:next t.flash ≤ next s.flash) (hwear:kq t.flash ≤ kq s.flash + 1) (hdr:∀ b,xz t.flash b = true->xz s.flash b = true) (hX:∀ c:Int,1 ≤ c->c ≤ 6->dk t c = dk s c∨dk t c = xe s c) {i:Nat} {b:Bk} (hb:t.flash[i]? = some b) (hc:clean b ≠ 0) (hS:Sole t.flash i)
 (hr:xj ⟨k,next s.flash,a,v⟩ = true) (h2:k = 2->dk t a = v) :
 (z5 t ⟨3,0,0,i,⟨k,next s.flash,a,v⟩⟩ true = ⟨t.flash.set i (j5 b ⟨k,next s.flash,a,v⟩ true),t.disk⟩∧Mid s (z5 t ⟨3,0,0,i,⟨k,next s.flash,a,v⟩⟩ true)) ∧
 (z5 t ⟨3,0,0,i,⟨k,next s.flash,a,v⟩⟩ false = ⟨t.flash.set i (j5 b ⟨k,next s.flash,a,v⟩ false),t.disk⟩∧Fin s k a v (z5 t ⟨3,0,0,i,⟨k,next s.flash,a,v⟩⟩ false)):=by
 have hfl:=hok.flash;have hlt:∀ c ∈ t.flash,most c < (⟨k,next s.flash,a,v⟩:Rc).seq:=fun c hc=>by have:=zkv hc;dsimp only;omega
 have hnot:=zag hfl hlt;have hwr:∀ torn,x8 t.flash i ⟨k,next s.flash,a,v⟩ torn = (t.flash.set i (j5 b ⟨k,next s.flash,a,v⟩ torn),true):=fun torn=>by
  unfold x8;rw [Xd hb,if_neg (by rintro (e | e);exact hc e;exact hnot e)];rfl
 have hstep:∀ torn,z5 t ⟨3,0,0,i,⟨k,next s.flash,a,v⟩⟩ torn = ⟨t.flash.set i (j5 b ⟨k,next s.flash,a,v⟩ torn),t.disk⟩:=fun torn=>by
  unfold z5;rw [if_neg (by dsimp only;decide),if_neg (by dsimp only;decide),if_pos rfl];dsimp only;rw [Int.toNat_natCast,hwr]
 have hok4:∀ torn,ze (t.flash.set i (j5 b ⟨k,next s.flash,a,v⟩ torn)) = true:=fun torn=>zdj hfl hb hr torn hc hnot;have hord:∀ torn,z6 (t.flash.set i (j5 b ⟨k,next s.flash,a,v⟩ torn)) = true:=fun torn=>(y9 (hok4 torn)).2 (zpj hfl hok.isOrd hb hr torn hc hS hlt);have hw:∀ torn,kq (t.flash.set i (j5 b ⟨k,next s.flash,a,v⟩ torn)) = kq t.flash:=fun torn=>by
  rw [Qx _ hb];show kq t.flash + b.worn - b.worn = _;omega
 have hlt':=zlw hfl hb hr hc hlt;have hlp:=zny hfl hb hr hc hlt;have hmem:=List.mem_of_getElem? hb;have hmost:∀ torn,∀ c ∈ t.flash.set i (j5 b ⟨k,next s.flash,a,v⟩ torn),most c ≤ next s.flash∧(torn = true->most c < next s.flash):=fun torn c hcm=>by
  rcases Ky hcm with hcm | rfl
  . have:=zkv hcm;exact ⟨by omega,fun _=>by omega⟩
  obtain ⟨_,kp,_,k4,k5⟩:=Ks hfl hmem hr torn hc;have hbp:=(xi hfl hmem).2.2.2;have:=hlt b hmem;dsimp only at this;cases torn
  . have:=(zh4 hbp kp (k5 rfl) (hlt b hmem)).1;exact ⟨by rw [this];exact Int.le_refl _,fun e=>by cases e⟩
  have:=(zez hbp kp (k4 rfl)).1;exact ⟨by omega,fun _=>by omega⟩
 refine ⟨⟨hstep true, ?_⟩,⟨hstep false, ?_⟩⟩
 . rw [hstep true];refine ⟨⟨hok.len,hord true,fun c c1 c2=>hok.val c c1 c2,fun c c1 c2 c3 c4=>?_⟩,fun c c1 c2=>?_,zlm (fun c hc=>(hmost true c hc).2 rfl) (Z8 _),by rw [hw];exact hwear,fun c hcd=>?_,fun c c1 c2=>hX c c1 c2⟩
   . dsimp only at c3 c4 ⊢;rw [hlt'] at c3 c4 ⊢;exact hok.agree c c1 c2 c3 c4
   . rw [← hsame c c1 c2,ya,ya];dsimp only;rw [hlt'];rfl
   refine hdr c ?_;unfold xz at hcd ⊢;dsimp only at hcd
   rwa [hlt'] at hcd
 rw [hstep false];refine ⟨⟨hok.len,hord false,fun c c1 c2=>hok.val c c1 c2,fun c c1 c2 c3 c4=>?_⟩,fun c c1 c2=>?_, ?_, ?_,by rw [hw];exact hwear,fun c hne hcd=>?_,fun c c1 c2=>hX c c1 c2⟩
 . dsimp only at c3 c4 ⊢;rw [hlp] at c3 c4 ⊢;by_cases e:c = a
   . rw [if_pos e] at c4 ⊢;dsimp only at c4 ⊢;rw [e];exact (h2 c4).symm
   rw [if_neg e] at c3 c4 ⊢;exact hok.agree c c1 c2 c3 c4
 . rw [ya];dsimp only;rw [hlp];by_cases e:c = a
   . rw [if_pos e,if_pos e,if_pos (by have:=Z8 s.flash;dsimp only;omega)]
   rw [if_neg e,if_neg e,← hsame c c1 c2,ya];rfl
 . dsimp only;rw [hlp,if_pos rfl]
 . have:qi (t.flash.set i (j5 b ⟨k,next s.flash,a,v⟩ false)) ≤ next s.flash:=Je (by have:=Z8 s.flash;omega) (fun c hc=>(hmost false c hc).1);show qi (t.flash.set i (j5 b ⟨k,next s.flash,a,v⟩ false)) + 1 ≤ next s.flash + 1;omega
 refine hdr c ?_;unfold xz at hcd ⊢;dsimp only at hcd
 rwa [hlp,if_neg hne] at hcd
theorem zg3 {f:List Bk} (h:ze f = true) (ho:(jd f).2 = false):∀ b ∈ f,clean b = 0:=by
 have h4:=fun b hb=>(zo h b hb).1;rw [Qm h4] at ho;exact zjq h4 ho
theorem zgi {s:St} (h:Okay s) {k a v:Int} (hne:wr s.flash k a v ≠ []) (h2:k = 2->dk s a = v∧xe s a = v):Safe (Mid s) (Fin s k a v) s (wr s.flash k a v):=by
 have hfl:=h.flash;have h4:=fun b hb=>(zo hfl b hb).1;have hl:=zh hfl;unfold wr at hne ⊢;by_cases hc:(room s.flash).2.2 = false∨xj ⟨k,next s.flash,a,v⟩ = false
 . rw [if_pos hc] at hne;exact absurd rfl hne
 rw [if_neg hc];have hr:xj ⟨k,next s.flash,a,v⟩ = true:=by simpa using fun e=>hc (.inr e)
 have hroom:(room s.flash).2.2 ≠ false:=fun e=>hc (.inl e);clear hne hc;by_cases ho:(jd s.flash).2 = true
 . obtain ⟨m,b,h1,hb,hcb,hS⟩:=zli hfl h.isOrd (by rw [← Qm h4];exact ho);have hob:(jd s.flash).1 = m:=by rw [Qm h4,h1]
   unfold room;rw [if_pos ho,hob];dsimp only;rw [List.nil_append];obtain ⟨w1,w2⟩:=zef (s:=s) (t:=s) h (Same.refl s) (Int.le_refl _) (by omega) (fun _ h=>h) (fun _ _ _=>.inl rfl) hb hcb hS hr (fun e=>(h2 e).1);exact ⟨Mid.refl h,w1.2,w2.2⟩
 have ho':(jd s.flash).2 = false:=by simpa using ho
 have h0:=zg3 hfl ho';have hi:=zad hl;obtain ⟨b,hb⟩:=zc (l:=s.flash) (k:=old s.flash) (by omega);have hmin:=zpk hfl hb;have hbm:=List.mem_of_getElem? hb;unfold room at hroom ⊢;rw [if_neg ho] at hroom ⊢;dsimp only at hroom ⊢;rw [Xd hb] at hroom ⊢;have hw:b.worn < 200:=by simpa using hroom
 rw [List.append_assoc];refine Safe.append ?_;have ht:=zbu (s0:=s) hfl hbm (b.pages.filter (told s.flash)) [] s (fun p hp=>List.mem_filter.1 hp) (fun p hp=>by cases hp) ⟨Mid.refl h,rfl,fun _ _ _=>.inl rfl⟩;refine ht.mono (fun _ h=>h.1) fun t ⟨hT,hd⟩=>?_;have hd':∀ p ∈ b.pages,told s.flash p = true->dk t p.rc.addr = p.rc.val:=fun p hp hp2=>hd p (by simpa using ⟨hp,hp2⟩);have hwm:=fun torn=>znb hT hb hmin (by omega) hd' torn;have hst:∀ torn,z5 t ⟨2,0,0,(old s.flash:Nat),rc0⟩ torn = ⟨wipe t.flash (old s.flash) torn,t.disk⟩:=fun torn=>by
  unfold z5;rw [if_neg (by dsimp only;decide),if_pos rfl];dsimp only;unfold yg;rw [Int.toNat_natCast,hT.2.1,Xd hb,if_neg (by omega)]
 have hbw:(wipe t.flash (old s.flash) false)[old s.flash]? = some ⟨List.replicate 4 pg0,b.worn + 1⟩:=by rw [hT.2.1];exact zpa hb false
 obtain ⟨w1,w2⟩:=zef (s:=s) (t:=⟨wipe t.flash (old s.flash) false,t.disk⟩) (k:=k) (a:=a) (v:=v) (hwm false).1.ok (hwm false).1.same (hwm false).1.nx (hwm false).1.wear (hwm false).1.drt (hwm false).1.dsk hbw (by rw [zmy];decide) (fun j c hj hcj=>by
  dsimp only at hcj;rw [hT.2.1,zki hj] at hcj;unfold xm;rw [h0 c (List.mem_of_getElem? hcj)];rfl) hr (fun e=>by
  have hra:=xx hr;dsimp only at hra;show dk t a = v;rcases hT.2.2 a hra.1 hra.2.1 with q | q
  . rw [q];exact (h2 e).1
  rw [q];exact (h2 e).2)
 refine ⟨hT.1,by rw [hst];exact (hwm true).1, ?_⟩;rw [hst];exact ⟨(hwm false).1,w1.2,w2.2⟩
end
section
theorem zh1 {f:List Bk} {k a v:Int}:wr f k a v ≠ [] ↔ (room f).2.2 = true∧xj ⟨k,next f,a,v⟩ = true:=by
 unfold wr;by_cases hc:(room f).2.2 = false∨xj ⟨k,next f,a,v⟩ = false
 . rw [if_pos hc];refine ⟨fun h=>absurd rfl h,fun h=>?_⟩;rcases hc with e | e
   . rw [e] at h;exact absurd h.1 (by decide)
   rw [e] at h;exact absurd h.2 (by decide)
 rw [if_neg hc];refine ⟨fun _=>⟨by simpa using fun e=>hc (.inl e),by simpa using fun e=>hc (.inr e)⟩,fun _ e=>?_⟩;simp at e
theorem zdh {k s a v:Int}:xj ⟨k,s,a,v⟩ = true ↔ (k = 1∨k = 2)∧(1 ≤ s∧s ≤ 600)∧(1 ≤ a∧a ≤ 6)∧0 ≤ v∧v ≤ 9:=by
 unfold xj zdr jk valB;simp only [Bool.and_eq_true,Bool.or_eq_true,decide_eq_true_iff];constructor
 . rintro ⟨h1,h2,h3,⟨h4,h5⟩,h6,h7⟩;exact ⟨h1,⟨h2,h3⟩,⟨h4,h5⟩,h6,h7⟩
 rintro ⟨h1,⟨h2,h3⟩,⟨h4,h5⟩,h6,h7⟩;exact ⟨h1,h2,h3,⟨h4,h5⟩,h6,h7⟩
theorem zk6 {s:St} (h:Okay s) (hw:kq s.flash < 200):(room s.flash).2.2 = true:=by
 unfold room;split
 . rfl
 have hl:=zh h.flash;have hi:=zad hl;obtain ⟨b,hb⟩:=zc (l:=s.flash) (k:=old s.flash) (by omega);have hm:=List.mem_of_getElem? hb;have:=zei (fun c hc=>(xi h.flash hc).2.1.1) hm;dsimp only;rw [Xd hb]
 simpa using (show b.worn < 200 by omega)
theorem zh2 {s:St} (h:Okay s) (hn:next s.flash ≤ 600) (hw:kq s.flash < 200) {k a v:Int} (hk:k = 1∨k = 2) (ha:1 ≤ a∧a ≤ 6) (hv:0 ≤ v∧v ≤ 9):wr s.flash k a v ≠ [] :=
 zh1.2 ⟨zk6 h hw,zdh.2 ⟨hk,⟨Z8 _,hn⟩,ha,hv⟩⟩
theorem Mid.trans {s t u:St} (h:Mid s t) (hw:kq t.flash ≤ kq s.flash) (k:Mid t u):Mid s u :=
 ⟨k.ok,h.same.trans k.same,Int.le_trans k.nx h.nx,by have:=k.wear;omega,fun b hb=>h.drt b (k.drt b hb),fun c c1 c2=>by
  rcases k.dsk c c1 c2 with e | e
  . rw [e];exact h.dsk c c1 c2
  rw [e];exact .inr (h.same c c1 c2)⟩
theorem Fin.after {s t u:St} {k a v:Int} (h:Mid s t) (hf:t.flash = s.flash) (j:Fin t k a v u):Fin s k a v u :=
 ⟨j.ok,fun b b1 b2=>by
  rw [j.read b b1 b2];split
  . rfl
  . exact h.same b b1 b2,by rw [j.rec_,hf],by have:=j.nx;rwa [hf] at this,by have:=j.wear;rwa [hf] at this,fun b hb hd=>h.drt b (j.drt b hb hd),fun c c1 c2=>by
  rcases j.dsk c c1 c2 with e | e
  . rw [e];exact h.dsk c c1 c2
  rw [e];exact .inr (h.same c c1 c2)⟩
theorem Okay.vals {s:St} (h:Okay s) {a:Int} (a1:1 ≤ a) (a2:a ≤ 6):valB (xe s a) = true:=by
 rw [ya];split
 . rename_i hp;obtain ⟨h1,h2⟩:=zdq hp;have:=xx (zo0 h.flash h1);unfold valB;simp;omega
 exact h.val a a1 a2
theorem Okay.clean {s:St} (h:Okay s) {a:Int} (a1:1 ≤ a) (a2:a ≤ 6) (hd:xz s.flash a = false):dk s a = xe s a:=by
 rw [ya];split
 . rename_i hp;rcases zal h.flash hp with e | e
   . unfold xz at hd;rw [e] at hd;simp at hd;omega
   exact (h.agree a a1 a2 hp e).symm
 rfl
theorem znk {s:St} (h:Okay s) {a:Int} (a1:1 ≤ a) (a2:a ≤ 6) (hd:xz s.flash a = true):Mid s ⟨s.flash,s.disk.set (a - 1).toNat (xe s a)⟩∧dk ⟨s.flash,s.disk.set (a - 1).toNat (xe s a)⟩ a = xe s a:=by
 unfold xz at hd;rw [Bool.and_eq_true,decide_eq_true_iff,decide_eq_true_iff] at hd;have ht:=zky h a1 a2 (h.vals a1 a2) hd.1 hd.2;refine ⟨⟨ht.1,ht.2,Int.le_refl _,by dsimp only;omega,fun _ h=>h,fun c c1 c2=>?_⟩,by rw [Y9 h.len a1 a2 a1,if_pos rfl]⟩;rw [Y9 h.len a1 a2 c1];split
 . rename_i e;rw [e];exact .inr rfl
 exact .inl rfl
def zhy (s:St) (a:Int) (t:St):Prop:=Fin s 2 a (xe s a) t∧dk t a = xe s a
theorem K4 {s:St} {a:Int} (hne:ym s a ≠ []):(1 ≤ a∧a ≤ 6)∧xz s.flash a = true∧wr s.flash 2 a (xe s a) ≠ []∧ym s a = ⟨1,a,xe s a,0,rc0⟩ :: wr s.flash 2 a (xe s a):=by
 unfold ym at hne ⊢;by_cases h1:jk a = false∨xz s.flash a = false
 . rw [if_pos h1] at hne;exact absurd rfl hne
 rw [if_neg h1] at hne ⊢;by_cases h2:wr s.flash 2 a (xe s a) = []
 . rw [if_pos h2] at hne;exact absurd rfl hne
 rw [if_neg h2];have ha:jk a = true:=by simpa using fun e=>h1 (.inl e)
 unfold jk at ha;simp at ha;exact ⟨ha,by simpa using fun e=>h1 (.inr e),h2,rfl⟩
theorem zcl {s:St} (h:Okay s) {a:Int} (hne:ym s a ≠ []):Safe (Mid s) (zhy s a) s (ym s a):=by
 obtain ⟨⟨a1,a2⟩,hd,hw,he⟩:=K4 hne;rw [he];obtain ⟨hM,hk⟩:=znk h a1 a2 hd;refine ⟨Mid.refl h, ?_, ?_⟩
 . show Mid s s;exact Mid.refl h
 show Safe (Mid s) (zhy s a) ⟨s.flash,s.disk.set (a - 1).toNat (xe s a)⟩ (wr s.flash 2 a (xe s a));have hr:=hM.same a a1 a2;have:=zgi hM.ok (k:=2) (a:=a) (v:=xe s a) hw (fun _=>⟨hk,hr⟩);refine this.mono (fun u hu=>hM.trans (Int.le_refl _) hu) fun u hu=>⟨hu.after hM rfl, ?_⟩;rcases hu.dsk a a1 a2 with e | e
 . rw [e,hk]
 rw [e,hr]
theorem zcp {s:St} {a:Int} (hne:fill s a ≠ []):(1 ≤ a∧a ≤ 6)∧¬ 0 < (last s.flash a).seq∧fill s a = wr s.flash 2 a (dk s a):=by
 unfold fill at hne ⊢;by_cases h1:jk a = false∨0 < (last s.flash a).seq
 . rw [if_pos h1] at hne;exact absurd rfl hne
 rw [if_neg h1] at hne ⊢;have ha:jk a = true:=by simpa using fun e=>h1 (.inl e)
 unfold jk at ha;simp at ha;exact ⟨ha,fun e=>h1 (.inr e),rfl⟩
theorem zmh {s:St} (h:Okay s) {a:Int} (hne:fill s a ≠ []):Safe (Mid s) (Fin s 2 a (xe s a)) s (fill s a):=by
 obtain ⟨⟨a1,a2⟩,hd,he⟩:=zcp hne;have hr:xe s a = dk s a:=by rw [ya,if_neg hd]
 rw [he] at hne ⊢;rw [hr];exact zgi h hne (fun _=>⟨rfl,hr⟩)
def zj8 (s:St) (e:Ev):Int:=if e.kind = 1 then e.b else xe s e.a
def zfy (e:Ev):Int:=if e.kind = 1 then 1 else 2
structure Done (s:St) (e:Ev) (t:St):Prop where
 fin:Fin s (zfy e) e.a (zj8 s e) t
 told:e.kind = 2->dk t e.a = xe s e.a
theorem Jv {s:St} (h:Okay s) {e:Ev} (hne:z9 s e ≠ []):Safe (Mid s) (Done s e) s (z9 s e):=by
 unfold z9 at hne ⊢;by_cases h1:e.kind = 1
 . rw [if_pos h1] at hne ⊢;refine (zgi h hne (fun e=>by cases e)).mono (fun _ h=>h) fun t ht=>⟨by unfold zfy zj8;rw [if_pos h1,if_pos h1];exact ht,fun e=>by omega⟩
 rw [if_neg h1] at hne ⊢;by_cases h2:e.kind = 2
 . rw [if_pos h2] at hne ⊢;exact (zcl h hne).mono (fun _ h=>h) fun t ht=>⟨by unfold zfy zj8;rw [if_neg h1,if_neg h1];exact ht.1,fun _=>ht.2⟩
 rw [if_neg h2] at hne ⊢;by_cases h3:e.kind = 3
 . rw [if_pos h3] at hne ⊢;exact (zmh h hne).mono (fun _ h=>h) fun t ht=>⟨by unfold zfy zj8;rw [if_neg h1,if_neg h1];exact ht,fun e=>absurd e h2⟩
 rw [if_neg h3] at hne;exact absurd rfl hne
theorem ziq (s:St) (c:Int) (t:Bool):doTo s [] c t = s:=by
 unfold doTo;rw [if_neg (by rintro ⟨_,h1,h2⟩;simp at h2;omega)];simp [zx]
theorem zmq {s:St} {xs:List Sp} {c:Int} {t:Bool} (h:(xs.length:Int) ≤ c):doTo s xs c t = zx s xs:=by
 unfold doTo;rw [if_neg (by rintro ⟨_,h1,h2⟩;omega),List.take_of_length_le (by omega)]
def d1 (f:List Bk) (a:Int):Int:=if xz f a = true then 1 else 0
def nd (f:List Bk):Int:=d1 f 1 + d1 f 2 + d1 f 3 + d1 f 4 + d1 f 5 + d1 f 6
theorem zhr {f g:List Bk} {a:Int} (h:xz g a = true->xz f a = true):d1 g a ≤ d1 f a:=by
 unfold d1;by_cases e:xz g a = true
 . rw [if_pos e,if_pos (h e)];exact Int.le_refl _
 rw [if_neg e];split <;> omega
theorem d1_1 (f:List Bk) (a:Int):0 ≤ d1 f a∧d1 f a ≤ 1:=by unfold d1;split <;> omega
theorem zqk {f g:List Bk} (h:∀ a,xz g a = true->xz f a = true):nd g ≤ nd f:=by
 unfold nd;have:=zhr (h 1);have:=zhr (h 2);have:=zhr (h 3);have:=zhr (h 4);have:=zhr (h 5);have:=zhr (h 6);omega
theorem zou {f g:List Bk} {a:Int} (ha:1 ≤ a∧a ≤ 6) (h:∀ b,b ≠ a->xz g b = true->xz f b = true):nd g ≤ nd f + d1 g a - d1 f a:=by
 have key:∀ b:Int,d1 g b ≤ d1 f b + (if b = a then d1 g a - d1 f a else 0):=fun b=>by
  split
  . rename_i e;rw [e];omega
  rename_i e;have:=zhr (h b e);omega
 unfold nd;have k1:=key 1;have k2:=key 2;have k3:=key 3;have k4:=key 4;have k5:=key 5;have k6:=key 6;rcases (show a = 1∨a = 2∨a = 3∨a = 4∨a = 5∨a = 6 by omega) with rfl | rfl | rfl | rfl | rfl | rfl <;>
 . simp at k1 k2 k3 k4 k5 k6;omega
theorem zqj (f:List Bk):0 ≤ nd f:=by
 unfold nd;have:=d1_1 f 1;have:=d1_1 f 2;have:=d1_1 f 3;have:=d1_1 f 4;have:=d1_1 f 5;have:=d1_1 f 6;omega
theorem zok {f:List Bk} {a:Int} (h:xz f a = false):d1 f a = 0:=by unfold d1;rw [h];rfl
theorem zoi {f:List Bk} {a:Int} (h:xz f a = true):d1 f a = 1:=by unfold d1;rw [h];rfl
theorem Qa {f:List Bk} {a n v:Int} (h:last f a = ⟨2,n,a,v⟩):xz f a = false:=by unfold xz;rw [h];simp
structure Flu (s t:St) (a:Int):Prop where
 ok:Okay t
 same:Same s t
 nx:next t.flash ≤ next s.flash + 1
 pn:next t.flash + nd t.flash ≤ next s.flash + nd s.flash
 pw:kq t.flash + nd t.flash ≤ kq s.flash + nd s.flash
 drt:∀ b,xz t.flash b = true->xz s.flash b = true
 dsk:∀ c:Int,1 ≤ c->c ≤ 6->dk t c = dk s c∨dk t c = xe s c
 gone:next s.flash ≤ 600->kq s.flash < 200->xz t.flash a = false
theorem zmg {s:St} (h:Okay s) {a:Int} (ha:1 ≤ a∧a ≤ 6) (hn:next s.flash ≤ 600) (hw:kq s.flash < 200) (hd:xz s.flash a = true):ym s a ≠ []:=by
 have hv:=h.vals ha.1 ha.2;unfold valB at hv;simp at hv;have hw:=zh2 h hn hw (k:=2) (a:=a) (v:=xe s a) (.inr rfl) ha hv;unfold ym jk;rw [if_neg (by rw [hd];simp;omega),if_neg hw];simp
theorem zhq {s:St} (h:Okay s) {a:Int} (ha:1 ≤ a∧a ≤ 6):Flu s (ju s a) a:=by
 by_cases hne:ym s a = []
 . have e:ju s a = s:=by unfold ju;rw [hne,ziq]
   rw [e];refine ⟨h,Same.refl s,by omega,by omega,by omega,fun _ h=>h,fun _ _ _=>.inl rfl,fun h1 h2=>?_⟩;by_cases hd:xz s.flash a = true
   . exact absurd hne (zmg h ha h1 h2 hd)
   simpa using hd
 have hs:=((zcl h hne).to ((ym s a).length:Nat) false).1 (by simp);change zhy s a (ju s a) at hs;obtain ⟨_,hd,_,_⟩:=K4 hne;obtain ⟨hf,hk⟩:=hs;have hg:=Qa hf.rec_;have n1:=zou ha hf.drt;rw [zok hg,zoi hd] at n1;have:=hf.nx;have:=hf.wear;refine ⟨hf.ok,fun b b1 b2=>?_,by omega,by omega,by omega,fun b hb=>?_,hf.dsk,fun _ _=>hg⟩
 . rw [hf.read b b1 b2];split
   . rename_i e;rw [e]
   rfl
 by_cases e:b = a
 . rw [e,hg] at hb;cases hb
 exact hf.drt b e hb
structure Alls (s t:St) (l:List Int):Prop where
 ok:Okay t
 same:Same s t
 nx:next t.flash ≤ next s.flash + l.length
 pn:next t.flash + nd t.flash ≤ next s.flash + nd s.flash
 pw:kq t.flash + nd t.flash ≤ kq s.flash + nd s.flash
 drt:∀ b,xz t.flash b = true->xz s.flash b = true
 dsk:∀ c:Int,1 ≤ c->c ≤ 6->dk t c = dk s c∨dk t c = xe s c
 gone:next s.flash + nd s.flash ≤ 600->kq s.flash + nd s.flash < 200->∀ a ∈ l,xz t.flash a = false
theorem Alls.step {s t:St} {l:List Int} (h:Alls s t l) {a:Int} (ha:1 ≤ a∧a ≤ 6):Alls s (ju t a) (l ++ [a]):=by
 have f:=zhq h.ok ha;have h1:=h.pn;have h2:=h.pw;have h3:=h.nx;have f1:=f.pn;have f2:=f.pw;have f3:=f.nx;have n0:=zqj t.flash;refine ⟨f.ok,h.same.trans f.same,by simp;omega,by omega,by omega,fun b hb=>h.drt b (f.drt b hb),fun c c1 c2=>?_,fun g1 g2 b hb=>?_⟩
 . rcases f.dsk c c1 c2 with e | e
   . rw [e];exact h.dsk c c1 c2
   rw [e];exact .inr (h.same c c1 c2)
 rcases List.mem_append.1 hb with hb | hb
 . have:=h.gone g1 g2 b hb;by_cases e:xz (ju t a).flash b = true
   . rw [f.drt b e] at this;cases this
   simpa using e
 rw [List.mem_singleton] at hb;subst hb;exact f.gone (by omega) (by omega)
theorem zf4 {s:St} (h:Okay s):Alls s (Zf s) [1,2,3,4,5,6]:=by
 have h0:Alls s s []:=⟨h,Same.refl s,by simp,by omega,by omega,fun _ h=>h,fun _ _ _=>.inl rfl,fun _ _ a ha=>by cases ha⟩;have k:=(((((h0.step (a:=1) (by omega)).step (a:=2) (by omega)).step (a:=3) (by omega)).step (a:=4) (by omega)).step (a:=5) (by omega)).step (a:=6) (by omega);have e:Zf s = ju (ju (ju (ju (ju (ju s 1) 2) 3) 4) 5) 6:=by unfold Zf;simp only [List.foldl_cons,List.foldl_nil]
 rw [e];exact k
structure Evt (s:St) (e:Ev) (t:St):Prop where
 ok:Okay t
 vals:∀ b:Int,1 ≤ b->b ≤ 6->xe t b = xe s b∨(e.kind = 1∧0 ≤ e.c∧b = e.a∧xe t b = e.b)
 dsk:∀ c:Int,1 ≤ c->c ≤ 6->dk t c = dk s c∨dk t c = xe s c
 nx:next t.flash ≤ next s.flash + (if e.kind = 4 then 6 else 1)
 pn:next t.flash + nd t.flash ≤ next s.flash + nd s.flash + 2
 pw:kq t.flash + nd t.flash ≤ kq s.flash + nd s.flash + 2
 full:e.kind = 1->6 ≤ e.c->(1 ≤ e.a∧e.a ≤ 6)->(0 ≤ e.b∧e.b ≤ 9)->next s.flash ≤ 600->kq s.flash < 200->xe t e.a = e.b
 all:e.kind = 4->next s.flash + nd s.flash ≤ 600->kq s.flash + nd s.flash < 200->∀ a:Int,1 ≤ a->a ≤ 6->xz t.flash a = false
 zero:e.kind ≠ 4->e.c ≤ 0->Same s t
theorem Evt.none {s:St} {e:Ev} (h:Okay s) (h4:e.kind ≠ 4) (hf:e.kind = 1->6 ≤ e.c->(1 ≤ e.a∧e.a ≤ 6)->(0 ≤ e.b∧e.b ≤ 9)->next s.flash ≤ 600->kq s.flash < 200->False):Evt s e s :=
 ⟨h,fun _ _ _=>.inl rfl,fun _ _ _=>.inl rfl,by rw [if_neg h4];omega,by omega,by omega,fun h1 h2 h3 h5 h6 h7=>(hf h1 h2 h3 h5 h6 h7).elim,fun e=>absurd e h4,fun _ _=>Same.refl s⟩
theorem zo7 {s:St} (h:Okay s) (k a v:Int):(wr s.flash k a v).length ≤ 6:=zh0 (zh h.flash) (fun b hb=>(xi h.flash hb).1) k a v
theorem zir {s:St} (h:Okay s) (e:Ev):Evt s e (doEv s e):=by
 unfold doEv;by_cases h4:e.kind = 4
 . rw [if_pos h4];have a:=zf4 h;have h1:=a.nx;have h2:=a.pn;have h3:=a.pw;simp at h1;refine ⟨a.ok,fun b b1 b2=>.inl (a.same b b1 b2),a.dsk,by rw [if_pos h4];omega,by omega,by omega,fun e=>by omega,fun _ g1 g2 b b1 b2=>a.gone g1 g2 b ?_,fun e=>absurd h4 e⟩;rcases (show b = 1∨b = 2∨b = 3∨b = 4∨b = 5∨b = 6 by omega) with rfl | rfl | rfl | rfl | rfl | rfl <;> simp
 rw [if_neg h4];by_cases hc:e.c < 0
 . rw [if_pos hc];exact Evt.none h h4 (fun _ _=>by omega)
 rw [if_neg hc];by_cases hne:z9 s e = []
 . rw [hne,ziq];refine Evt.none h h4 (fun h1 h2 h3 h5 h6 h7=>?_);unfold z9 at hne;rw [if_pos h1] at hne;exact zh2 h h6 h7 (.inl rfl) h3 h5 hne
 have hS:=(Jv h hne).to e.c e.torn;by_cases hl:(z9 s e).length ≤ e.c.toNat
 . have hd:=hS.1 hl;have hf:=hd.fin;have hpos:0 < (z9 s e).length:=List.length_pos_iff.2 hne;have hnx:=hf.nx;have hwe:=hf.wear;by_cases h1:e.kind = 1
   . have hrd:=hf.read;unfold zj8 at hrd;rw [if_pos h1] at hrd;have ha:1 ≤ e.a∧e.a ≤ 6:=by
      unfold z9 at hne;rw [if_pos h1] at hne;exact (zdh.1 (zh1.1 hne).2).2.2.1
     have n1:=zou ha hf.drt;have:=d1_1 (doTo s (z9 s e) e.c e.torn).flash e.a;have:=d1_1 s.flash e.a;refine ⟨hf.ok,fun b b1 b2=>?_,hf.dsk,by rw [if_neg h4];omega,by omega,by omega,fun _ _ h3 _ _ _=>by rw [hrd _ h3.1 h3.2,if_pos rfl],fun e=>absurd e h4,fun _ g=>by omega⟩;rw [hrd b b1 b2];by_cases e1:b = e.a
     . rw [if_pos e1];exact .inr ⟨h1,by omega,e1,rfl⟩
     rw [if_neg e1];exact .inl rfl
   have hrd:=hf.read;have hrc:=hf.rec_;unfold zj8 at hrd hrc;unfold zfy at hrc;rw [if_neg h1] at hrd hrc;rw [if_neg h1] at hrc;have hsame:Same s (doTo s (z9 s e) e.c e.torn):=fun b b1 b2=>by
    rw [hrd b b1 b2];split
    . rename_i q;rw [q]
    rfl
   have hg:=Qa hrc;have hdr:∀ b,xz (doTo s (z9 s e) e.c e.torn).flash b = true->xz s.flash b = true:=fun b hb=>by
    by_cases q:b = e.a
    . rw [q,hg] at hb;cases hb
    exact hf.drt b q hb
   have:=zqk hdr;exact ⟨hf.ok,fun b b1 b2=>.inl (hsame b b1 b2),hf.dsk,by rw [if_neg h4];omega,by omega,by omega,fun q=>absurd q h1,fun q=>absurd q h4,fun _ _=>hsame⟩
 have hm:=hS.2 (by omega);have:=zqk hm.drt;have h1:=hm.nx;have h2:=hm.wear;refine ⟨hm.ok,fun b b1 b2=>.inl (hm.same b b1 b2),hm.dsk,by rw [if_neg h4];omega,by omega,by omega,fun q q2=>?_,fun q=>absurd q h4,fun _ _=>hm.same⟩;exfalso;unfold z9 at hl;rw [if_pos q] at hl;have:=zo7 h 1 e.a e.b;omega
end
section
def jn (x:Sp):Bool :=
 if x.kind = 1 then decide (x.block = 0) && (decide (x.rc = rc0) && (jk x.addr && valB x.val))
 else if x.kind = 2 then decide (x.addr = 0) && (decide (x.val = 0) && (decide (x.rc = rc0) && j9 x.block))
 else if x.kind = 3 then decide (x.addr = 0) && (decide (x.val = 0) && (j9 x.block && xj x.rc)) else false
def allB (xs:List Sp):Bool:=xs.all jn
theorem zbv {a v:Int} (ha:jk a = true) (hv:valB v = true):jn ⟨1,a,v,0,rc0⟩ = true:=by unfold jn;simp [ha,hv]
theorem zjg {i:Nat} (h:i < 4):jn ⟨2,0,0,i,rc0⟩ = true:=by unfold jn j9;simp;omega
theorem zgo {i:Int} (h:0 ≤ i∧i < 4) {r:Rc} (hr:xj r = true):jn ⟨3,0,0,i,r⟩ = true:=by unfold jn j9;simp [hr];omega
theorem Ka {a:Int}:jk a = true ↔ 1 ≤ a∧a ≤ 6:=by unfold jk;simp
theorem zni {a:Int}:valB a = true ↔ 0 ≤ a∧a ≤ 9:=by unfold valB;simp
theorem Kk {a:Int}:j9 a = true ↔ 0 ≤ a∧a < 4:=by unfold j9;simp
theorem zc0 {f:List Bk} (h:ze f = true) (k a v:Int):∀ x ∈ wr f k a v,jn x = true:=fun x hx=>by
 have hl:=zh h;by_cases hne:wr f k a v = []
 . rw [hne] at hx;cases hx
 obtain ⟨_,hr⟩:=zh1.1 hne;have hfi:=Jr h;have hro:=(ze8 hfi).2;unfold wr at hx hne;by_cases hc:(room f).2.2 = false∨xj ⟨k,next f,a,v⟩ = false
 . rw [if_pos hc] at hne;exact absurd rfl hne
 rw [if_neg hc] at hx;rcases List.mem_append.1 hx with hx | hx
 . unfold room at hx;split at hx
   . cases hx
   dsimp only at hx;have ho:=zad hl;rcases List.mem_append.1 hx with hx | hx
   . unfold tells at hx;obtain ⟨p,hp,rfl⟩:=List.mem_map.1 hx;obtain ⟨hp1,hp2⟩:=List.mem_filter.1 hp;obtain ⟨a1,a2,_⟩:=Q1 h (zig (by omega)) hp1 hp2;exact zbv (Ka.2 a1) a2
   rw [List.mem_singleton] at hx;subst hx;exact zjg ho
 rw [List.mem_singleton] at hx;subst hx;exact zgo hro hr
theorem zgn {s:St} (h:Okay s) (e:Ev):∀ x ∈ z9 s e,jn x = true:=fun x hx=>by
 unfold z9 at hx;split at hx
 . exact zc0 h.flash _ _ _ x hx
 split at hx
 . by_cases hne:ym s e.a = []
   . rw [hne] at hx;cases hx
   obtain ⟨ha,_,_,he⟩:=K4 hne;rw [he] at hx;rcases List.mem_cons.1 hx with rfl | hx
   . exact zbv (Ka.2 ha) (h.vals ha.1 ha.2)
   exact zc0 h.flash _ _ _ x hx
 split at hx
 . by_cases hne:fill s e.a = []
   . rw [hne] at hx;cases hx
   obtain ⟨_,_,he⟩:=zcp hne;rw [he] at hx;exact zc0 h.flash _ _ _ x hx
 cases hx
theorem Qs {xs:List Sp}:allB xs = true ↔ ∀ x ∈ xs,jn x = true:=by unfold allB;simp
theorem zjf {s:St} (h:Okay s) (e:Ev):allB (z9 s e) = true:=Qs.2 (zgn h e)
theorem Q4 {x:Sp} (h:jn x = true) (hk:x.kind = 2):x.addr = 0∧x.val = 0∧x.rc = rc0∧0 ≤ x.block∧x.block < 4:=by
 unfold jn at h;rw [if_neg (by omega),if_pos hk] at h;simp only [Bool.and_eq_true,decide_eq_true_iff] at h;exact ⟨h.1,h.2.1,h.2.2.1,Kk.1 h.2.2.2⟩
theorem Yr {x:Sp} (h:jn x = true) (hk:x.kind = 3):x.addr = 0∧x.val = 0∧(0 ≤ x.block∧x.block < 4)∧xj x.rc = true:=by
 unfold jn at h;rw [if_neg (by omega),if_neg (by omega),if_pos hk] at h;simp only [Bool.and_eq_true,decide_eq_true_iff] at h;exact ⟨h.1,h.2.1,Kk.1 h.2.2.1,h.2.2.2⟩
theorem zgp {x:Sp} (h:jn x = true) (hk:x.kind = 1):x.block = 0∧x.rc = rc0∧(1 ≤ x.addr∧x.addr ≤ 6)∧valB x.val = true:=by
 unfold jn at h;rw [if_pos hk] at h;simp only [Bool.and_eq_true,decide_eq_true_iff] at h;exact ⟨h.1,h.2.1,Ka.1 h.2.2.1,h.2.2.2⟩
theorem zjh {x:Sp} (h:jn x = true):x.kind = 1∨x.kind = 2∨x.kind = 3:=by
 unfold jn at h;by_cases h1:x.kind = 1
 . exact .inl h1
 by_cases h2:x.kind = 2
 . exact .inr (.inl h2)
 by_cases h3:x.kind = 3
 . exact .inr (.inr h3)
 rw [if_neg h1,if_neg h2,if_neg h3] at h;cases h
theorem znd {f:List Bk} (h:ze f = true) {i:Nat} (hi:i < 4) (torn:Bool):ze (yg f i torn).1 = true:=by
 unfold yg;split
 . exact h
 exact zc1 h hi torn (by omega)
theorem zi7 {f:List Bk} {i:Nat} {b:Bk} (hb:f[i]? = some b) (r:Rc) (torn:Bool):x8 f i r torn = if clean b = 0∨qo f r.seq = true then (f,false) else (f.set i (j5 b r torn),true):=by
 unfold x8;rw [Xd hb];rfl
theorem zkg {f:List Bk} (h:ze f = true) {i:Nat} (hi:i < 4) {r:Rc} (hr:xj r = true) (torn:Bool):ze (x8 f i r torn).1 = true:=by
 obtain ⟨b,hb⟩:=zc (l:=f) (k:=i) (by rw [zh h];exact hi);rw [zi7 hb];split
 . exact h
 rename_i hc;exact zdj h hb hr torn (fun e=>hc (.inl e)) (fun e=>hc (.inr e))
theorem zf2 {s:St} (h:ze s.flash = true) {x:Sp} (hx:jn x = true) (torn:Bool):ze (z5 s x torn).flash = true:=by
 unfold z5;split
 . split <;> exact h
 split
 . rename_i hk;have:=Q4 hx hk;exact znd h (by omega) torn
 split
 . rename_i hk;have:=Yr hx hk;exact zkg h (by omega) this.2.2.2 torn
 exact h
theorem za8 (s:St) (x:Sp) (torn:Bool):(z5 s x torn).disk.length = s.disk.length:=by
 unfold z5;split
 . split
   . rfl
   simp
 split
 . rfl
 split <;> rfl
theorem Yh:∀ {xs:List Sp} {s:St},ze s.flash = true->(∀ x ∈ xs,jn x = true)->ze (zx s xs).flash = true
 | [],_,h,_=>h
 | x :: xs,s,h,hx=>Yh (s:=z5 s x false) (zf2 h (hx x (List.mem_cons_self ..)) false) (fun y hy=>hx y (List.mem_cons_of_mem _ hy))
theorem X7:∀ (xs:List Sp) (s:St),(zx s xs).disk.length = s.disk.length
 | [],_=>rfl
 | x :: xs,s=>(X7 xs (z5 s x false)).trans (za8 s x false)
theorem Okay.fine {s:St} (h:Okay s):xq s:=⟨Jr h.flash,h.len,fun v hv=>by
 obtain ⟨k,hk⟩:=List.getElem?_of_mem hv;have hl:=(List.getElem?_eq_some_iff.1 hk).1;have:=h.val ((k:Int) + 1) (by omega) (by have:=h.len;omega);rw [zqw hk] at this;exact zni.1 this⟩
def new0:St:=⟨xp,Qh⟩
theorem znv:Okay new0:=xy.1 zqi
structure Run (n:Nat) (t:St):Prop where
 ok:Okay t
 pn:next t.flash + nd t.flash ≤ 1 + 2 * n
 pw:kq t.flash + nd t.flash ≤ 2 * n
theorem Run.step {n:Nat} {t:St} (h:Run n t) (e:Ev):Run (n + 1) (doEv t e):=by
 have k:=zir h.ok e;have h1:=h.pn;have h2:=h.pw;have k1:=k.pn;have k2:=k.pw;exact ⟨k.ok,by omega,by omega⟩
theorem Run.new:Run 0 new0:=⟨znv,by decide,by decide⟩
theorem Run.small {n:Nat} {t:St} (h:Run n t) (hn:n ≤ 99):next t.flash ≤ 600∧kq t.flash < 200∧next t.flash + nd t.flash ≤ 600∧kq t.flash + nd t.flash < 200:=by
 have h1:=h.pn;have h2:=h.pw;have h3:=zqj t.flash;omega
end
end Go.Proofs.YtclnogfmmekooaaGreat
open Go.RowKit Go.IntWalk Go.Maps
namespace Go.Proofs.YtclnogfmmekooaaGreat
section
theorem Tryz.info_int1:(Tryz.prog.info? 3).map (·.size) = some 1:=by kernel_rfl
theorem zn3 (xs:List Int):∀ v ∈ ints xs,v.oneCell' = true:=fun v hv=>by
 unfold ints at hv;obtain ⟨x,_,rfl⟩:=List.mem_map.1 hv;rfl
theorem zpy {w:World} {b i:Nat} {u:Value} (h:w.cell? ⟨b,i,none⟩ = some u) (o:Obj):(w.alloc o).cell? ⟨b,i,none⟩ = some u:=(World.cell?_of_block (a:=⟨b,i,none⟩) (Below.heap_alloc w o b (zd h))).trans h
theorem fzP {w:World} {b i:Nat} {u:Bool} (hb:b < w.heap.size) (h:w.frozen? ⟨b,i,none⟩ = u) (o:Obj):(w.alloc o).frozen? ⟨b,i,none⟩ = u:=(World.frozen?_of_block (a:=⟨b,i,none⟩) (Below.heap_alloc w o b hb)).trans h
def zqz (s:St) (w:World) (e:Ending) (w':World):Prop :=
 ∃ g d,e = .returned (.agg #[.slice (some ⟨g,0,none⟩) 4 4, .slice (some ⟨d,0,none⟩) 6 6])∧OSt w' w.heap.size w'.heap.size (some ⟨g,0,none⟩) s.flash (some ⟨d,0,none⟩) s.disk∧Below w.heap.size w w'
theorem zbj (s:St) (A D:Option Addr) (c d:Nat) (w:World) (hs:xq s) (hF:Fl w A s.flash) (hD:Row w D (ints s.disk)) :
 Calls Tryz.prog 42 #[.agg #[.slice A 4 c, .slice D 6 d]] w (zqz s w):=by
 obtain ⟨db,dO,rfl⟩:=hD.addr (yi (by intro e;have:=hs.2.1;rw [e] at this;simp at this));have HL:=Lib.hid hs.1.1;have HP:=Lib.hid (ye hs);have hlen:(ints s.disk).length = 6:=by rw [yj,hs.2.1]
 clear hs;have hmk:=zah;have hR0:Row (((w.alloc (.cells #[.slice A 4 c, .slice (some ⟨db,dO,none⟩) 6 d] 28)).alloc (.cells #[.slice none 0 0, .slice none 0 0] 28)).alloc (.cells #[.int .i64 0, .int .i64 0, .int .i64 0, .int .i64 0, .int .i64 0, .int .i64 0] 3)) (some ⟨w.heap.size + 1 + 1,0,none⟩) (ints Qh):=by
  have:=Row.new ((w.alloc (.cells #[.slice A 4 c, .slice (some ⟨db,dO,none⟩) 6 d] 28)).alloc (.cells #[.slice none 0 0, .slice none 0 0] 28)) #[.int .i64 0, .int .i64 0, .int .i64 0, .int .i64 0, .int .i64 0, .int .i64 0] 3;simp only [World.size_alloc] at this;exact this
 have hc:∀ j,j < 6->∃ u,(((w.alloc (.cells #[.slice A 4 c, .slice (some ⟨db,dO,none⟩) 6 d] 28)).alloc (.cells #[.slice none 0 0, .slice none 0 0] 28)).alloc (.cells #[.int .i64 0, .int .i64 0, .int .i64 0, .int .i64 0, .int .i64 0, .int .i64 0] 3)).cell? ⟨w.heap.size + 1 + 1,0 + j,none⟩ = some u∧(((w.alloc (.cells #[.slice A 4 c, .slice (some ⟨db,dO,none⟩) 6 d] 28)).alloc (.cells #[.slice none 0 0, .slice none 0 0] 28)).alloc (.cells #[.int .i64 0, .int .i64 0, .int .i64 0, .int .i64 0, .int .i64 0, .int .i64 0] 3)).frozen? ⟨w.heap.size + 1 + 1,0 + j,none⟩ = false:=fun j hj=>by
  obtain ⟨b',o',he,hc⟩:=hR0 (by simp [ints,Qh]);cases he;obtain ⟨u,hu⟩:=zc (l:=ints Qh) (k:=j) (by rw [yj];exact hj);exact ⟨u,hc j u hu⟩
 obtain ⟨b',o',he,hc'⟩:=(((hD.alloc (.cells #[.slice A 4 c, .slice (some ⟨db,dO,none⟩) 6 d] 28)).alloc (.cells #[.slice none 0 0, .slice none 0 0] 28)).alloc (.cells #[.int .i64 0, .int .i64 0, .int .i64 0, .int .i64 0, .int .i64 0, .int .i64 0] 3)) (by intro e;rw [e] at hlen;simp at hlen);cases he;have hcp:=zb7 (P:=Tryz.prog) (((w.alloc (.cells #[.slice A 4 c, .slice (some ⟨db,dO,none⟩) 6 d] 28)).alloc (.cells #[.slice none 0 0, .slice none 0 0] 28)).alloc (.cells #[.int .i64 0, .int .i64 0, .int .i64 0, .int .i64 0, .int .i64 0, .int .i64 0] 3)) 26 26 3 3 1 (w.heap.size + 1 + 1) 0 6 6 ⟨db,dO,none⟩ 6 d 6 (ints s.disk) Tryz.underlying26 Tryz.info_int1 rfl hlen
  (fun j v hj=>by rw [Qt];exact (hc' j v hj).1) (fun j hj=>by obtain ⟨u,hu,_⟩:=hc j (by omega);rw [hu];rfl) (fun j hj=>by obtain ⟨u,_,hu⟩:=hc j (by omega);exact hu) (zn3 s.disk)
 have hW:=zp (w.heap.size + 1 + 1) (ints s.disk) 0 (((w.alloc (.cells #[.slice A 4 c, .slice (some ⟨db,dO,none⟩) 6 d] 28)).alloc (.cells #[.slice none 0 0, .slice none 0 0] 28)).alloc (.cells #[.int .i64 0, .int .i64 0, .int .i64 0, .int .i64 0, .int .i64 0, .int .i64 0] 3)) (fun j hj=>by obtain ⟨u,hu,_⟩:=hc j (by omega);exact ⟨u,hu⟩);have hB0:Below w.heap.size w (((w.alloc (.cells #[.slice A 4 c, .slice (some ⟨db,dO,none⟩) 6 d] 28)).alloc (.cells #[.slice none 0 0, .slice none 0 0] 28)).alloc (.cells #[.int .i64 0, .int .i64 0, .int .i64 0, .int .i64 0, .int .i64 0, .int .i64 0] 3)):=bw;have b0:(((w.alloc (.cells #[.slice A 4 c, .slice (some ⟨db,dO,none⟩) 6 d] 28)).alloc (.cells #[.slice none 0 0, .slice none 0 0] 28)).alloc (.cells #[.int .i64 0, .int .i64 0, .int .i64 0, .int .i64 0, .int .i64 0, .int .i64 0] 3)).cell? ⟨w.heap.size,0,none⟩ = some (.slice A 4 c):=zpy (by simp) _;have r0:(((w.alloc (.cells #[.slice A 4 c, .slice (some ⟨db,dO,none⟩) 6 d] 28)).alloc (.cells #[.slice none 0 0, .slice none 0 0] 28)).alloc (.cells #[.int .i64 0, .int .i64 0, .int .i64 0, .int .i64 0, .int .i64 0, .int .i64 0] 3)).cell? ⟨w.heap.size + 1,0,none⟩ = some (.slice none 0 0):=zpy (by simp) _;have r1:(((w.alloc (.cells #[.slice A 4 c, .slice (some ⟨db,dO,none⟩) 6 d] 28)).alloc (.cells #[.slice none 0 0, .slice none 0 0] 28)).alloc (.cells #[.int .i64 0, .int .i64 0, .int .i64 0, .int .i64 0, .int .i64 0, .int .i64 0] 3)).cell? ⟨w.heap.size + 1,1,none⟩ = some (.slice none 0 0):=zpy (by simp) _;have q0:(((w.alloc (.cells #[.slice A 4 c, .slice (some ⟨db,dO,none⟩) 6 d] 28)).alloc (.cells #[.slice none 0 0, .slice none 0 0] 28)).alloc (.cells #[.int .i64 0, .int .i64 0, .int .i64 0, .int .i64 0, .int .i64 0, .int .i64 0] 3)).frozen? ⟨w.heap.size + 1,0,none⟩ = false:=fzP (by simp) (by simp) _;have q1:(((w.alloc (.cells #[.slice A 4 c, .slice (some ⟨db,dO,none⟩) 6 d] 28)).alloc (.cells #[.slice none 0 0, .slice none 0 0] 28)).alloc (.cells #[.int .i64 0, .int .i64 0, .int .i64 0, .int .i64 0, .int .i64 0, .int .i64 0] 3)).frozen? ⟨w.heap.size + 1,1,none⟩ = false:=fzP (by simp) (by simp) _;have hsz:(((w.alloc (.cells #[.slice A 4 c, .slice (some ⟨db,dO,none⟩) 6 d] 28)).alloc (.cells #[.slice none 0 0, .slice none 0 0] 28)).alloc (.cells #[.int .i64 0, .int .i64 0, .int .i64 0, .int .i64 0, .int .i64 0, .int .i64 0] 3)).heap.size = w.heap.size + 3:=by simp
 obtain ⟨W1,hW1⟩:∃ W1,(((w.alloc (.cells #[.slice A 4 c, .slice (some ⟨db,dO,none⟩) 6 d] 28)).alloc (.cells #[.slice none 0 0, .slice none 0 0] 28)).alloc (.cells #[.int .i64 0, .int .i64 0, .int .i64 0, .int .i64 0, .int .i64 0, .int .i64 0] 3)).setCells (w.heap.size + 1 + 1) 0 (ints s.disk) = W1:=⟨_,rfl⟩;rw [hW1] at hcp hW;have hr1:Row W1 (some ⟨w.heap.size + 1 + 1,0,none⟩) (ints s.disk):=fun _=>⟨_,_,rfl,fun j u hj=>⟨by have:=hW.new_ j u hj;rw [Nat.zero_add] at this ⊢;exact this,by
  rw [hW.frozen];have hjl:=(List.getElem?_eq_some_iff.1 hj).1;obtain ⟨u',_,hu'⟩:=hc j (by omega);exact hu'⟩⟩
 have hs1:W1.heap.size = w.heap.size + 3:=by rw [hW.size,hsz]
 have hB1:Below w.heap.size w W1:=hB0.trans (hW.agr.below (by rw [hsz];omega) (by rintro i rfl;omega));have cc:∀ b o,b < w.heap.size + 2->W1.cell? ⟨b,o,none⟩ = (((w.alloc (.cells #[.slice A 4 c, .slice (some ⟨db,dO,none⟩) 6 d] 28)).alloc (.cells #[.slice none 0 0, .slice none 0 0] 28)).alloc (.cells #[.int .i64 0, .int .i64 0, .int .i64 0, .int .i64 0, .int .i64 0, .int .i64 0] 3)).cell? ⟨b,o,none⟩:=fun b o hb=>hW.agr.cell (by rw [hsz];omega) (by omega) o;have cf:∀ b o,b < w.heap.size + 2->W1.frozen? ⟨b,o,none⟩ = (((w.alloc (.cells #[.slice A 4 c, .slice (some ⟨db,dO,none⟩) 6 d] 28)).alloc (.cells #[.slice none 0 0, .slice none 0 0] 28)).alloc (.cells #[.int .i64 0, .int .i64 0, .int .i64 0, .int .i64 0, .int .i64 0, .int .i64 0] 3)).frozen? ⟨b,o,none⟩:=fun b o hb=>hW.agr.fz (by rw [hsz];omega) (by omega) o;replace b0:=(cc _ _ (by omega)).trans b0;replace r0:=(cc _ _ (by omega)).trans r0;replace r1:=(cc _ _ (by omega)).trans r1;replace q0:=(cf _ _ (by omega)).trans q0;replace q1:=(cf _ _ (by omega)).trans q1;clear cc cf hW hW1 hc hc' hB0 hsz hR0 hlen;have hF1:Fl W1 A s.flash:=hF.below hB1 nl
 go_enter Tryz.func42,Tryz.ntmps42
 go_wp2_with fail
 refine (Zu A c s.flash _ HL.out HP.out hF1).mono ?_;rintro e w2 ⟨g,rfl,hO,hb⟩;have hz2:=hb.size;replace r0:=(hb.cell (p:=⟨w.heap.size + 1,0,none⟩) (by show w.heap.size + 1 < _;omega)).trans r0;replace r1:=(hb.cell (p:=⟨w.heap.size + 1,1,none⟩) (by show w.heap.size + 1 < _;omega)).trans r1;replace q0:=(hb.frozen (p:=⟨w.heap.size + 1,0,none⟩) (by show w.heap.size + 1 < _;omega)).trans q0;replace q1:=(hb.frozen (p:=⟨w.heap.size + 1,1,none⟩) (by show w.heap.size + 1 < _;omega)).trans q1;have hr2:=hr1.below hb nl;have hB2:=hB1.trans (hb.mono (by omega));have hz:w.heap.size + 1 < w2.heap.size:=by omega
 clear hb hr1 hB1 hF1 hcp;go_wp2;refine bodyPost_ret (v:=.agg #[.slice (some ⟨g,0,none⟩) 4 4, .slice (some ⟨w.heap.size + 1 + 1,0,none⟩) 6 6]) (by simp [results,Tryz.results42,go_sem,hz,r0,r1]) rfl ⟨_,_,rfl, ?_, ?_⟩
 . refine OSt.mk' (lf:=W1.heap.size) (hf:=w2.heap.size) (hO.keep fun b h1 h2 hl=>?_) (hr2.keep fun b hb hl=>?_) (by omega) (by simp) (by omega) (by simp;omega) (.inl (by omega))
   . rw [Below.heap_setCell _ _ _ _ (by simp;omega),Below.heap_setCell _ _ _ _ (by simp;omega)]
   rw [zf] at hb;rw [Below.heap_setCell _ _ _ _ (by simp;omega),Below.heap_setCell _ _ _ _ (by simp;omega)]
 refine Below.setCell (Below.setCell hB2 ?_ _) ?_ _ <;> (show w.heap.size ≤ w.heap.size + 1;omega)
theorem zhh (x:Sp) (w:World):Calls Tryz.prog 40 #[.agg #[.int .i64 x.kind, .int .i64 x.addr, .int .i64 x.val, .int .i64 x.block, .int .i64 x.rc.kind, .int .i64 x.rc.seq, .int .i64 x.rc.addr, .int .i64 x.rc.val]] w fun e w'=>e = .returned (.bool (jn x))∧Below w.heap.size w w':=by
 obtain ⟨k,a,v,b,⟨rk,rs,ra,rv⟩⟩:=x;dsimp only;by_cases h1:k = 1
 . subst h1;have hq:Hid (jn ⟨1,a,v,b,⟨rk,rs,ra,rv⟩⟩ = (decide (b = 0) && (decide ((⟨rk,rs,ra,rv⟩:Rc) = rc0) && (jk a && valB v)))):=rfl
   go_enter Tryz.func40,Tryz.ntmps40
   go_wp2_with (first | (go_at_call 74;refine (Xb _ _).mono ?_;rintro e w' ⟨rfl,rfl⟩) | (go_at_call 34;refine (Kd _ _).mono ?_;rintro e w' ⟨rfl,rfl⟩))
   all_goals (go_ret;exact ⟨zg (by rw [hq.out];simp [rc0, *] <;> (intros;omega)),(Below.refl _ _).alloc nl _⟩)
 by_cases h2:k = 2
 . subst h2;have hq:Hid (jn ⟨2,a,v,b,⟨rk,rs,ra,rv⟩⟩ = (decide (a = 0) && (decide (v = 0) && (decide ((⟨rk,rs,ra,rv⟩:Rc) = rc0) && j9 b)))):=rfl
   go_enter Tryz.func40,Tryz.ntmps40
   go_wp2_with (first | (go_at_call 75;refine (yf _ _).mono ?_;rintro e w' ⟨rfl,rfl⟩))
   all_goals (go_ret;exact ⟨zg (by rw [hq.out];simp [rc0, *] <;> (intros;omega)),(Below.refl _ _).alloc nl _⟩)
 by_cases h3:k = 3
 . subst h3;have hq:Hid (jn ⟨3,a,v,b,⟨rk,rs,ra,rv⟩⟩ = (decide (a = 0) && (decide (v = 0) && (j9 b && xj ⟨rk,rs,ra,rv⟩)))):=rfl;have hB:Below w.heap.size w (w.alloc (.cells #[.int .i64 3, .int .i64 a, .int .i64 v, .int .i64 b, .int .i64 rk, .int .i64 rs, .int .i64 ra, .int .i64 rv] 81)):=(Below.refl _ _).alloc nl _
   go_enter Tryz.func40,Tryz.ntmps40
   go_wp2_with (first | (go_at_call 75;refine (yf _ _).mono ?_;rintro e w' ⟨rfl,rfl⟩) | (go_at_call 62;refine (Ke ⟨rk,rs,ra,rv⟩ _).mono ?_;rintro e w' ⟨rfl,hb⟩))
   all_goals (go_ret;refine ⟨zg (by rw [hq.out];simp [rc0, *]), ?_⟩;first | exact ((Below.refl _ _).alloc nl _).trans (hb.mono (by simp)) | exact (Below.refl _ _).alloc nl _)
 have hq:Hid (jn ⟨k,a,v,b,⟨rk,rs,ra,rv⟩⟩ = false):=by unfold Hid jn;simp [h1,h2,h3]
 go_enter Tryz.func40,Tryz.ntmps40
 go_wp2;go_ret;exact ⟨zg hq.out.symm,(Below.refl _ _).alloc nl _⟩
theorem zds (r:Rc) (w:World):Calls Tryz.prog 66 #[.agg #[.int .i64 r.kind, .int .i64 r.seq, .int .i64 r.addr, .int .i64 r.val]] w fun e w'=>e = .returned (.agg #[.int .i64 1, .int .i64 r.addr, .int .i64 r.val, .int .i64 0, .int .i64 0, .int .i64 0, .int .i64 0, .int .i64 0])∧Below w.heap.size w w':=by
 go_enter Tryz.func66,Tryz.ntmps66
 go_wp2;refine bodyPost_ret (v:=.agg #[.int .i64 1, .int .i64 r.addr, .int .i64 r.val, .int .i64 0, .int .i64 0, .int .i64 0, .int .i64 0, .int .i64 0]) (by simp [results,Tryz.results66,go_sem]) rfl ⟨rfl, ?_⟩;exact bw
end
end Go.Proofs.YtclnogfmmekooaaGreat
open Go.RowKit Go.IntWalk Go.Maps
namespace Go.Proofs.YtclnogfmmekooaaGreat
section
end
end Go.Proofs.YtclnogfmmekooaaGreat
open Go.RowKit Go.IntWalk Go.Maps
namespace Go.Proofs.YtclnogfmmekooaaGreat
section
def Hold (w:World) (lo ob:Nat) (s:St):Prop :=
 ∃ A c D d hs, w.cell? ⟨ob, 0, none⟩ = some (.slice A 4 c) ∧ w.cell? ⟨ob, 1, none⟩ = some (.slice D 6 d) ∧ w.frozen? ⟨ob, 0, none⟩ = false ∧ w.frozen? ⟨ob, 1, none⟩ = false ∧ lo ≤ ob ∧ (∃ h, Apt lo h A hs ∧ h ≤ w.heap.size) ∧
   Bks w A s.flash hs∧Row w D (ints s.disk)∧(∀ b,fblk A hs b->lo ≤ b∧b ≠ ob)∧∀ b,blk D b->lo ≤ b∧b ≠ ob∧¬ fblk A hs b
theorem Hold.drew {w:World} {lo ob:Nat} {s:St} (h:Hold w lo ob s):Hold w.drew lo ob s:=by
 obtain ⟨A,c,D,d,hs,o0,o1,f0,f1,hlo,hAp,hBk,hD,hfb,hdb⟩:=h;exact ⟨A,c,D,d,hs,o0,o1,f0,f1,hlo,hAp,hBk.drew,hD.drew,hfb,hdb⟩
theorem Hold.below {w w':World} {lo ob:Nat} {s:St} (h:Hold w lo ob s) (hb:Below w.heap.size w w'):Hold w' lo ob s:=by
 obtain ⟨A,c0,D,d,hs,o0,o1,f0,f1,hlo,hAp,hBk,hD,hfb,hdb⟩:=h;have hob:=zd o0;exact ⟨A,c0,D,d,hs,(hb.cell (p:=⟨ob,0,none⟩) hob).trans o0,(hb.cell (p:=⟨ob,1,none⟩) hob).trans o1,(hb.frozen (p:=⟨ob,0,none⟩) hob).trans f0,(hb.frozen (p:=⟨ob,1,none⟩) hob).trans f1,hlo,(by obtain ⟨h,h1,h2⟩:=hAp;exact ⟨h,h1,Nat.le_trans h2 hb.size⟩),hBk.below hb nl,hD.below hb nl,hfb,hdb⟩
theorem Hold.far {w w':World} {lo ob:Nat} {s:St} (h:Hold w lo ob s) (hk:∀ b,lo ≤ b->b < w.heap.size->w'.heap[b]? = w.heap[b]?):Hold w' lo ob s:=by
 obtain ⟨A,c0,D,d,hs,o0,o1,f0,f1,hlo,hAp,hBk,hD,hfb,hdb⟩:=h;have hob:=zd o0;have hh:=hk ob hlo hob;have hsz:w.heap.size ≤ w'.heap.size:=by
  have h1:=hk (w.heap.size - 1) (by omega) (by omega);rcases Nat.lt_or_ge (w.heap.size - 1) w'.heap.size with h | h
  . omega
  rw [Array.getElem?_eq_none h,Array.getElem?_eq_getElem (by omega)] at h1;cases h1
 refine ⟨A,c0,D,d,hs,(World.cell?_of_block (a:=⟨ob,0,none⟩) hh).trans o0,(World.cell?_of_block (a:=⟨ob,1,none⟩) hh).trans o1,(World.frozen?_of_block (a:=⟨ob,0,none⟩) hh).trans f0,(World.frozen?_of_block (a:=⟨ob,1,none⟩) hh).trans f1,hlo,(by obtain ⟨h,h1,h2⟩:=hAp;exact ⟨h,h1,Nat.le_trans h2 hsz⟩),hBk.keep fun b hb hl=>hk b (hfb b ?_).1 hl,hD.keep fun b hb hl=>hk b (hdb b hb).1 hl,hfb,hdb⟩;rcases hb with hy | ⟨z,hz,hy⟩
 . exact .inl hy
 obtain ⟨j,hj⟩:=List.getElem?_of_mem hz;exact .inr ⟨j,z,hj,hy⟩
theorem Hold.new {w:World} {lo c d:Nat} {A D:Option Addr} {f:List Bk} {xs:List Int} (hO:OSt w lo w.heap.size A f D xs) (hlo:lo ≤ w.heap.size):Hold (w.alloc (.cells #[.slice A 4 c, .slice D 6 d] 28)) lo w.heap.size ⟨f,xs⟩:=by
 obtain ⟨hs,hBk,hApt,hD,hdb⟩:=hO;refine ⟨A,c,D,d,hs,by simp,by simp,by simp,by simp,hlo,⟨_,hApt,by simp⟩,hBk.alloc _,hD.alloc _,fun b hb=>?_,fun b hb=>⟨(hdb b hb).1,by have:=(hdb b hb).2.1;omega,fun hf=>?_⟩⟩
 . have:=hApt.fblk hb;exact ⟨this.1,by omega⟩
 rcases hf with hf | ⟨i,x,hx,hf⟩
 . exact (hdb b hb).2.2.1 hf
 exact (hdb b hb).2.2.2 i x hx hf
theorem Hold.flash {w w' w'':World} {lo ob:Nat} {s:St} {A1:Option Addr} {c:Nat} {f:List Bk} (h:Hold w lo ob s) (hn:ints s.disk ≠ []) (hb:Below w.heap.size w w') (hO:OFl w' w.heap.size w'.heap.size A1 f) (hw:w'' = w'.setCell ⟨ob,0,none⟩ (.slice A1 4 c)):Hold w'' lo ob { s with flash:=f }:=by
 obtain ⟨A,c0,D,d,hs,o0,o1,f0,f1,hlo,hAp,hBk,hD,hfb,hdb⟩:=h;obtain ⟨hs2,hBk2,hApt⟩:=hO;have hob:=zd o0;have q0:=(hb.cell (p:=⟨ob,0,none⟩) hob).trans o0;have q1:=(hb.cell (p:=⟨ob,1,none⟩) hob).trans o1;have g0:=(hb.frozen (p:=⟨ob,0,none⟩) hob).trans f0;have g1:=(hb.frozen (p:=⟨ob,1,none⟩) hob).trans f1;have hW:=zq q0 (.slice A1 4 c);rw [← hw] at hW;have n0:=hW.new_ 0 _ rfl;have n1:=hW.old_ 1 (by simp);refine ⟨A1,c,D,d,hs2,n0,n1.trans q1,(hW.frozen _).trans g0,(hW.frozen _).trans g1,hlo,⟨_,hApt.mono (by omega) nl,by rw [hW.size];exact Nat.le_refl _⟩,hBk2.keep fun y hy hl=>hW.block y ?_,(hD.below hb nl).keep fun y hy hl=>hW.block y (hdb y hy).2.1,fun b hb2=>?_,fun b hb2=>⟨(hdb b hb2).1,(hdb b hb2).2.1,fun hf=>?_⟩⟩
 . rintro rfl;have hf:fblk A1 hs2 y:=by
    rcases hy with hy | ⟨z,hz,hy⟩
    . exact .inl hy
    obtain ⟨j,hj⟩:=List.getElem?_of_mem hz;exact .inr ⟨j,z,hj,hy⟩
   have:=(hApt.fblk hf).1;omega
 . have:=(hApt.fblk hb2).1;exact ⟨by omega,by omega⟩
 have h1:=(hApt.fblk hf).1;have hbl:=hD.lt hn hb2;omega
theorem znc {f:List Bk} (h:ze f = true) {x:Sp} (hx:jn x = true) (hk:x.kind = 2) (torn:Bool):je f x.block torn = yg f x.block.toNat torn:=by
 have hb:=(Q4 hx hk).2.2.2;have:=znf (torn:=torn) h (i:=x.block.toNat) (by omega)
 rwa [Int.toNat_of_nonneg hb.1] at this
theorem zkf {f:List Bk} (h:ze f = true) {x:Sp} (hx:jn x = true) (hk:x.kind = 3) (torn:Bool):k8 f x.block x.rc torn = x8 f x.block.toNat x.rc torn:=by
 obtain ⟨_,_,hb,hr⟩:=Yr hx hk;unfold k8;rw [if_neg (by rw [h,Kk.2 hb,hr];simp)]
theorem zkh {f:List Bk} {i:Nat} {r:Rc} {t:Bool} (h:(x8 f i r t).2 = false):(x8 f i r t).1 = f:=by
 unfold x8 at h ⊢;split at h
 . rw [if_pos (by assumption)]
 cases h
theorem zne {f:List Bk} {i:Nat} {t:Bool} (h:(yg f i t).2 = false):(yg f i t).1 = f:=by
 unfold yg at h ⊢;split at h
 . rw [if_pos (by assumption)]
 cases h
theorem zl1 (s:St) (x:Sp) (torn:Bool) (lo ob sb:Nat) (w:World) (hk:x.kind = 1) (hx:jn x = true) (h6:s.disk.length = 6) (hH:Hold w lo ob s) (hS:Row w (some ⟨sb,0,none⟩) x.vs) (hsb:sb < lo) :
 Calls Tryz.prog 76 #[.pointer (some ⟨ob,0,none⟩), .bool torn, .pointer (some ⟨sb,0,none⟩)] w fun e w'=>e = .returned (.tuple #[])∧Hold w' lo ob (z5 s x torn)∧Below lo w w':=by
 obtain ⟨_,_,ha,_⟩:=zgp hx hk;have hfin:Hid (z5 s x torn = if torn then s else { s with disk:=s.disk.set (x.addr - 1).toNat x.val }):=by unfold Hid z5;rw [if_pos hk]
 obtain ⟨k1,s1⟩:=hS.at0 (j:=1) rfl;obtain ⟨k2,s2⟩:=hS.at0 (j:=2) rfl;generalize x.addr = a at *;generalize x.val = v at *;clear hx hk hS;cases torn
 . obtain ⟨i,rfl⟩:∃ i:Nat,a = i + 1:=⟨(a - 1).toNat,by omega⟩;rw [if_neg (by decide),show ((i:Int) + 1 - 1).toNat = i by omega] at hfin;have hi:i < 6:=by omega
   have hi6:(i:Int) < 6:=by omega
   have HO:=Lib.hid hH;obtain ⟨A,c,D,d,hs,o0,o1,f0,f1,hlo,hAp,hBk,hD,hfb,hdb⟩:=hH;obtain ⟨db,dO,rfl⟩:=hD.addr (yi (by intro e;rw [e] at h6;simp at h6));have hdb1:=hdb db (zf.2 rfl);obtain ⟨u,hu⟩:=zc (l:=s.disk) (k:=i) (by omega);obtain ⟨c0,e0⟩:=hD.int_ hu;have hW:=zq c0 (.int .i64 v);have hR2:Row (w.setCell ⟨db,dO + i,none⟩ (.int .i64 v)) (some ⟨db,dO,none⟩) (ints (s.disk.set i v)):=by
    rw [Qp];exact hW.row hD (by rw [yj];simp;omega)
   have hne:ob ≠ db:=fun e=>hdb1.2.1 e.symm;have hX:Hold (w.setCell ⟨db,dO + i,none⟩ (.int .i64 v)) lo ob { s with disk:=s.disk.set i v } :=
    ⟨A,c,some ⟨db,dO,none⟩,d,hs,(hW.agr.cell (zd o0) hne 0).trans o0,(hW.agr.cell (zd o0) hne 1).trans o1,(hW.agr.fz (zd o0) hne 0).trans f0,(hW.agr.fz (zd o0) hne 1).trans f1,hlo,(by rw [hW.size];exact hAp),
     hBk.keep fun y hy hl=>hW.agr.block y hl (by
      rintro rfl;refine hdb1.2.2 ?_;rcases hy with hy | ⟨z,hz,hy⟩
      . exact .inl hy
      obtain ⟨j,hj⟩:=List.getElem?_of_mem hz;exact .inr ⟨j,z,hj,hy⟩),hR2,hfb,hdb⟩
   have HX:=Lib.hid hX;have e1:IntKind.i64.wrap ((i:Int) + 1 - 1) = i:=by rw [show (i:Int) + 1 - 1 = i by omega];exact IntWalk.i64_in _ (by omega)
   have e2:IntKind.i64.wrap (i:Int) = i:=IntWalk.i64_in _ (by omega);have n1:db ≠ ob:=hdb1.2.1;have n2:db ≠ sb:=by omega
   have n3:sb ≠ db:=by omega
   have hlo2:=hdb1.1;clear hu hW hR2 hX hBk hfb hdb hD ha hdb1 HO
   go_enter Tryz.func76,Tryz.ntmps76
   go_wp2
   go_region
   go_wp2
   go_end0
   exact ⟨rfl,by rw [hfin.out];exact HX.out.drew,(Below.setCell (Below.refl _ _) (by exact hlo2) _).drew⟩
 rw [if_pos rfl] at hfin
 go_enter Tryz.func76,Tryz.ntmps76
 go_wp2
 go_end0
 exact ⟨rfl,by rw [hfin.out];exact hH,Below.refl _ _⟩
theorem zl0 (s:St) (x:Sp) (torn:Bool) (lo ob sb:Nat) (w:World) (hk:x.kind = 2) (hx:jn x = true) (hok:ze s.flash = true) (h6:s.disk.length = 6) (hH:Hold w lo ob s) (hS:Row w (some ⟨sb,0,none⟩) x.vs) (hsb:sb < lo) :
 Calls Tryz.prog 77 #[.pointer (some ⟨ob,0,none⟩), .bool torn, .pointer (some ⟨sb,0,none⟩)] w fun e w'=>e = .returned (.tuple #[])∧Hold w' lo ob (z5 s x torn)∧Below lo w w':=by
 have hfin:Hid (z5 s x torn = { s with flash:=(yg s.flash x.block.toNat torn).1 }):=by unfold Hid z5;rw [if_neg (by omega),if_pos hk]
 have hl4:=zh hok;have hFW:∀ (A:Option Addr) (c:Nat) (w:World),Fl w A s.flash->Hid (Calls Tryz.prog 78 #[.slice A 4 c, .int .i64 x.block, .bool torn] w (zi5 (yg s.flash x.block.toNat torn) w)):=fun A c w h=>by
  have:=zbo s.flash x.block torn A c w h;rw [znc hok hx hk] at this
  rwa [hl4] at this
 have hlen:Hid ((yg s.flash x.block.toNat torn).1.length = 4):=by rw [Hid,zkj,hl4]
 have hno:Hid ((yg s.flash x.block.toNat torn).2 = false->(yg s.flash x.block.toNat torn).1 = s.flash):=zne;generalize (yg s.flash x.block.toNat torn) = R at *;obtain ⟨R1,R2⟩:=R;dsimp only at *;have hd6:ints s.disk ≠ []:=yi (by intro e;rw [e] at h6;simp at h6);obtain ⟨k3,s3⟩:=hS.at0 (j:=3) rfl;have HH:=Lib.hid hH;have HD6:=Lib.hid hd6;obtain ⟨A,c,D,d,hs,o0,o1,f0,f1,hlo,hAp,hBk,hD,hfb,hdb⟩:=hH;have hob:=zd o0;have hF:Fl w A s.flash:=⟨hs,hBk⟩;clear hk hx hok h6 hS hl4 hd6 hD hfb hdb hBk
 go_enter Tryz.func77,Tryz.ntmps77
 go_wp2
 go_region_with (first | (go_at_call 78;(with_reducible refine (hFW A c _ (Fl.drew' hF)).out.mono ?_);rintro e w1 ⟨A1,c1,rfl,hc1,hO,hb1⟩;rw [show ((R1,R2):List Bk × Bool).1.length = 4 from hlen.out];replace hO:OFl w1 w.heap.size w1.heap.size A1 R1:=hO;replace hb1:Below w.heap.size w w1:=Xr hb1;have q0:=(hb1.cell (p:=⟨ob,0,none⟩) hob).trans o0;have q1:=(hb1.cell (p:=⟨ob,1,none⟩) hob).trans o1;have g0:=(hb1.frozen (p:=⟨ob,0,none⟩) hob).trans f0;have g1:=(hb1.frozen (p:=⟨ob,1,none⟩) hob).trans f1))
 all_goals
  cases R2
  . have hR:=hno.out rfl;subst hR;go_wp2
    go_end0
    exact ⟨rfl,by rw [hfin.out];exact HH.out.below hb1,hb1.mono (by omega)⟩
  . go_wp2
    go_end0
    exact ⟨rfl,by rw [hfin.out];exact HH.out.flash HD6.out hb1 hO rfl,(hb1.mono (by omega)).setCell (by exact hlo) _⟩
theorem zlz (s:St) (x:Sp) (torn:Bool) (lo ob sb:Nat) (w:World) (hk:x.kind = 3) (hx:jn x = true) (hok:ze s.flash = true) (h6:s.disk.length = 6) (hH:Hold w lo ob s) (hS:Row w (some ⟨sb,0,none⟩) x.vs) (hsb:sb < lo) :
 Calls Tryz.prog 79 #[.pointer (some ⟨ob,0,none⟩), .bool torn, .pointer (some ⟨sb,0,none⟩)] w fun e w'=>e = .returned (.tuple #[])∧Hold w' lo ob (z5 s x torn)∧Below lo w w':=by
 have hfin:Hid (z5 s x torn = { s with flash:=(x8 s.flash x.block.toNat x.rc torn).1 }):=by unfold Hid z5;rw [if_neg (by omega),if_neg (by omega),if_pos hk]
 have hl4:=zh hok;have hFW:∀ (A:Option Addr) (c:Nat) (w:World),Fl w A s.flash->Hid (Calls Tryz.prog 80 #[.slice A 4 c, .int .i64 x.block, .agg #[.int .i64 x.rc.kind, .int .i64 x.rc.seq, .int .i64 x.rc.addr, .int .i64 x.rc.val], .bool torn] w (zi5 (x8 s.flash x.block.toNat x.rc torn) w)):=fun A c w h=>by
  have:=zar s.flash x.block x.rc torn A 4 c w hl4.symm h;rw [zkf hok hx hk] at this;exact this
 have hlen:Hid ((x8 s.flash x.block.toNat x.rc torn).1.length = 4):=by rw [Hid,zi8,hl4]
 have hno:Hid ((x8 s.flash x.block.toNat x.rc torn).2 = false->(x8 s.flash x.block.toNat x.rc torn).1 = s.flash):=zkh;generalize (x8 s.flash x.block.toNat x.rc torn) = R at *;obtain ⟨R1,R2⟩:=R;dsimp only at *;have hd6:ints s.disk ≠ []:=yi (by intro e;rw [e] at h6;simp at h6);obtain ⟨k3,s3⟩:=hS.at0 (j:=3) rfl;obtain ⟨k4,s4⟩:=hS.at0 (j:=4) rfl;obtain ⟨k5,s5⟩:=hS.at0 (j:=5) rfl;obtain ⟨k6,s6⟩:=hS.at0 (j:=6) rfl;obtain ⟨k7,s7⟩:=hS.at0 (j:=7) rfl;have HH:=Lib.hid hH;have HD6:=Lib.hid hd6;obtain ⟨A,c,D,d,hs,o0,o1,f0,f1,hlo,hAp,hBk,hD,hfb,hdb⟩:=hH;have hob:=zd o0;have hF:Fl w A s.flash:=⟨hs,hBk⟩;clear hk hx hok h6 hS hl4 hd6 hD hfb hdb hBk
 go_enter Tryz.func79,Tryz.ntmps79
 go_wp2
 go_region_with (first | (go_at_call 80;(with_reducible refine (hFW A c _ (Fl.drew' hF)).out.mono ?_);rintro e w1 ⟨A1,c1,rfl,hc1,hO,hb1⟩;rw [show ((R1,R2):List Bk × Bool).1.length = 4 from hlen.out];replace hO:OFl w1 w.heap.size w1.heap.size A1 R1:=hO;replace hb1:Below w.heap.size w w1:=Xr hb1;have q0:=(hb1.cell (p:=⟨ob,0,none⟩) hob).trans o0;have q1:=(hb1.cell (p:=⟨ob,1,none⟩) hob).trans o1;have g0:=(hb1.frozen (p:=⟨ob,0,none⟩) hob).trans f0;have g1:=(hb1.frozen (p:=⟨ob,1,none⟩) hob).trans f1))
 all_goals
  cases R2
  . have hR:=hno.out rfl;subst hR;go_wp2
    go_end0
    exact ⟨rfl,by rw [hfin.out];exact HH.out.below hb1,hb1.mono (by omega)⟩
  . go_wp2
    go_end0
    exact ⟨rfl,by rw [hfin.out];exact HH.out.flash HD6.out hb1 hO rfl,(hb1.mono (by omega)).setCell (by exact hlo) _⟩
end
end Go.Proofs.YtclnogfmmekooaaGreat
open Go.RowKit Go.IntWalk Go.Maps
namespace Go.Proofs.YtclnogfmmekooaaGreat
section
def actV (k:Int) (b:Nat):Value:=.func (.func (if k = 1 then 76 else if k = 2 then 77 else 79)) #[] #[.pointer (some ⟨b,0,none⟩)]
theorem zdt (x:Sp) (w:World):Calls Tryz.prog 41 #[.agg #[.int .i64 x.kind, .int .i64 x.addr, .int .i64 x.val, .int .i64 x.block, .int .i64 x.rc.kind, .int .i64 x.rc.seq, .int .i64 x.rc.addr, .int .i64 x.rc.val]] w fun e w' =>
 e = .returned (actV x.kind w.heap.size)∧w' = w.alloc (.cells #[.int .i64 x.kind, .int .i64 x.addr, .int .i64 x.val, .int .i64 x.block, .int .i64 x.rc.kind, .int .i64 x.rc.seq, .int .i64 x.rc.addr, .int .i64 x.rc.val] 81):=by
 have hmf:∀ (fn:Fn) (first cap:Array Value) (w:World),(Instr.makeFunc fn first cap).run Tryz.prog w = .ok (.func fn first cap) w:=fun _ _ _ _=>rfl;obtain ⟨k,a,v,b,rc⟩:=x;dsimp only;by_cases h1:k = 1
 . subst h1;have hv:Hid (actV 1 w.heap.size = .func (.func 76) #[] #[.pointer (some ⟨w.heap.size,0,none⟩)]):=rfl
   go_enter Tryz.func41,Tryz.ntmps41
   go_wp2;go_ret;exact ⟨by rw [hv.out];rfl,rfl⟩
 by_cases h2:k = 2
 . subst h2;have hv:Hid (actV 2 w.heap.size = .func (.func 77) #[] #[.pointer (some ⟨w.heap.size,0,none⟩)]):=rfl
   go_enter Tryz.func41,Tryz.ntmps41
   go_wp2;go_ret;exact ⟨by rw [hv.out];rfl,rfl⟩
 have hv:Hid (actV k w.heap.size = .func (.func 79) #[] #[.pointer (some ⟨w.heap.size,0,none⟩)]):=by unfold Hid actV;rw [if_neg h1,if_neg h2]
 go_enter Tryz.func41,Tryz.ntmps41
 go_wp2;go_ret;exact ⟨by rw [hv.out];rfl,rfl⟩
theorem zjx (qb c:Nat) (A:Option Addr) (w:World) (hq:w.cell? ⟨qb,0,none⟩ = some (.slice A 0 c)) :
 Calls Tryz.prog 43 #[.pointer (some ⟨qb,0,none⟩)] w fun e w'=>e = .returned (.tuple #[.nilFunc, .bool false])∧w' = w:=by
 go_enter Tryz.func43,Tryz.ntmps43
 go_wp2
 go_ret2
 exact ⟨rfl,rfl⟩
theorem zlx (qb wb wo n c:Nat) (v:Value) (w:World) (hq:w.cell? ⟨qb,0,none⟩ = some (.slice (some ⟨wb,wo,none⟩) (n + 1) c)) (hf:w.frozen? ⟨qb,0,none⟩ = false) (hv:w.cell? ⟨wb,wo,none⟩ = some v) (hv1:v.oneCell' = true) (hc:n + 1 ≤ c) (hn:n < 1000000000000) :
 Calls Tryz.prog 43 #[.pointer (some ⟨qb,0,none⟩)] w fun e w'=>e = .returned (.tuple #[v, .bool true])∧∃ A',w' = w.setCell ⟨qb,0,none⟩ (.slice A' n (c - 1))∧(n ≠ 0->A' = some ⟨wb,wo + 1,none⟩):=by
 have h1:(((n + 1:Nat):Int) == 0) = false:=by rw [beq_eq_false_iff_ne];omega
 have h2:0 < n + 1:=by omega
 have HC:=Lib.hid hc
 go_enter Tryz.func43,Tryz.ntmps43
 go_wp2;all_goals go_ret2
 all_goals refine ⟨rfl,_,rfl,fun hn0=>?_⟩
 all_goals have hc':=HC.out
 all_goals first | rfl | (exfalso;omega) | (rw [if_neg (by omega)])
end
end Go.Proofs.YtclnogfmmekooaaGreat
open Go.RowKit Go.IntWalk Go.Maps
namespace Go.Proofs.YtclnogfmmekooaaGreat
section
theorem Tryz.info3_action:(Tryz.prog.info? 84).map (fun i=>(i.zero,i.size,i.bytes)) = some (some .nilFunc,1,8):=by kernel_rfl
def st0:St:=⟨[],[]⟩
def toR (s:St) (xs:List Sp) (cut:Int) (torn:Bool):St × Bool:=if cut < 0∨z8 s = false∨allB xs = false then (st0,false) else (doTo s xs cut torn,true)
def FlAt (w:World) (lo:Nat) (A:Option Addr) (f:List Bk):Prop:=∃ hs,Bks w A f hs∧∀ b,fblk A hs b->lo ≤ b
theorem FlAt.fl {w:World} {lo:Nat} {A:Option Addr} {f:List Bk} (h:FlAt w lo A f):Fl w A f:=by obtain ⟨hs,h,_⟩:=h;exact ⟨hs,h⟩
theorem FlAt.nil (w:World) (lo:Nat):FlAt w lo none []:=⟨[],⟨rfl,Row.nil _ _,fun i b x h=>by simp at h⟩,fun b h=>(h.elim (fun h=>by cases h) (fun ⟨i,x,h,_⟩=>by simp at h))⟩
def Z4 (r:St × Bool) (w:World) (e:Ending) (w':World):Prop :=
 ∃ A c D d,e = .returned (.tuple #[.agg #[.slice A r.1.flash.length c, .slice D r.1.disk.length d], .bool r.2])∧FlAt w' w.heap.size A r.1.flash∧Row w' D (ints r.1.disk)∧(∀ b,blk D b->w.heap.size ≤ b)∧Below w.heap.size w w'
theorem Z4.fail {w w':World} (h:Below w.heap.size w w'):Z4 (st0,false) w (.returned (.tuple #[.agg #[.slice none 0 0, .slice none 0 0], .bool false])) w':=⟨none,0,none,0,rfl,FlAt.nil _ _,Row.nil _ _,(fun b hb=>by cases hb),h⟩
def zed (r:St × Bool) (w:World) (e:Ending) (w':World):Prop :=
 ∃ A c D d,e = .returned (.tuple #[.agg #[.slice A r.1.flash.length c, .slice D r.1.disk.length d], .bool r.2])∧OSt w' w.heap.size w'.heap.size A r.1.flash D r.1.disk∧Below w.heap.size w w'
theorem zed.fail {w w':World} (h:Below w.heap.size w w'):zed (st0,false) w (.returned (.tuple #[.agg #[.slice none 0 0, .slice none 0 0], .bool false])) w' :=
 ⟨none,0,none,0,rfl,⟨[],⟨rfl,Row.nil _ _,fun i b x h=>absurd h (by simp [st0])⟩,⟨fun b hb=>(by cases hb),fun i x b h=>by simp at h,fun i j x y b h=>by simp at h⟩,Row.nil _ _,fun b hb=>(by cases hb)⟩,h⟩
theorem zed.post {r:St × Bool} {w w':World} {e:Ending} (h:zed r w e w'):Z4 r w e w':=by
 obtain ⟨A,c,D,d,rfl,⟨hs,h1,h2,h3,h4⟩,hb⟩:=h;exact ⟨A,c,D,d,rfl,⟨hs,h1,fun b hb=>(h2.fblk hb).1⟩,h3,fun b hb=>(h4 b hb).1,hb⟩
def Qj:List Sp->List Nat->List Value
 | x :: xs,b :: bs=>actV x.kind b :: Qj xs bs
 | _,_=>[]
theorem zcx {x:Sp} {b:Nat}:∀ {xs:List Sp} {bs:List Nat},bs.length = xs.length->Qj (xs ++ [x]) (bs ++ [b]) = Qj xs bs ++ [actV x.kind b]
 | [],[],_=>rfl
 | y :: xs,c :: bs,h=>by simp only [List.cons_append,Qj];rw [zcx (by simpa using h)]
 | [],_ :: _,h=>by simp at h
 | _ :: _,[],h=>by simp at h
theorem zge {x:Sp} {b:Nat}:∀ {xs:List Sp} {bs:List Nat} {j:Nat},xs[j]? = some x->bs[j]? = some b->(Qj xs bs)[j]? = some (actV x.kind b)
 | [],_,_,h,_=>by simp at h
 | _ :: _,[],_,_,h=>by simp at h
 | y :: xs,c :: bs,0,h,h'=>by simp at h h';subst h;subst h';rfl
 | y :: xs,c :: bs,j + 1,h,h'=>by simp only [Qj,List.getElem?_cons_succ] at *;exact zge h h'
theorem zlf {w:World} {base n:Nat} {t:TypeId} {v:Value} {xs:List Value} (h:w.ownsRow base t 1 v n xs):∃ A c,v = .slice A n c∧n ≤ c∧Row w A xs∧(∀ b,blk A b->base ≤ b∧b < w.heap.size∧v.ownBlock = some b)∧(0 < n->∃ g,A = some ⟨g,0,none⟩):=by
 have h':=h;obtain ⟨hl,⟨hv,hz⟩ | ⟨g,cap,cur,hv,hb,hh,hnc,hm,hs,ht⟩⟩:=h
 . subst hz;have hxs:xs = []:=List.eq_nil_of_length_eq_zero (by simpa using hl);subst hxs;exact ⟨none,0,hv,Nat.le_refl _,Row.nil _ _,(fun b hb=>by cases hb),fun e=>absurd e (by omega)⟩
 refine ⟨some ⟨g,0,none⟩,cap,hv,hnc, ?_,fun b hb'=>?_,fun _=>⟨g,rfl⟩⟩
 . rw [hv] at h';exact Row.of_own h'
 rw [zf] at hb';subst hb';exact ⟨hb,(Array.getElem?_eq_some_iff.1 hh).1,by rw [hv];rfl⟩
def Yj (w:World) (top:Nat) (xs:List Sp) (bs:List Nat):Prop:=∀ (j:Nat) (x:Sp) (b:Nat),xs[j]? = some x->bs[j]? = some b->Row w (some ⟨b,0,none⟩) x.vs∧top < b∧b < w.heap.size
theorem Yj.keep {w w':World} {top:Nat} {xs:List Sp} {bs:List Nat} (h:Yj w top xs bs) (hs:w.heap.size ≤ w'.heap.size) (hk:∀ b,b ∈ bs->w'.heap[b]? = w.heap[b]?):Yj w' top xs bs:=fun j x b hx hb=>by
 obtain ⟨h1,h2,h3⟩:=h j x b hx hb;exact ⟨h1.keep fun c hc _=>by rw [zf] at hc;subst hc;exact hk _ (List.mem_of_getElem? hb),h2,by omega⟩
theorem Yj.below {w w':World} {top:Nat} {xs:List Sp} {bs:List Nat} (h:Yj w top xs bs) (hl:bs.length ≤ xs.length) (hb:Below w.heap.size w w'):Yj w' top xs bs:=h.keep hb.size fun b hm=>by
 obtain ⟨j,hj⟩:=List.getElem?_of_mem hm;obtain ⟨x,hx⟩:=zc (l:=xs) (k:=j) (by have:=(List.getElem?_eq_some_iff.1 hj).1;omega);exact hb.block b (h j x b hx hj).2.2
theorem Yj.snoc {w:World} {top:Nat} {xs:List Sp} {bs:List Nat} {x:Sp} {b:Nat} (h:Yj w top xs bs) (hx:xs[bs.length]? = some x) (hr:Row w (some ⟨b,0,none⟩) x.vs) (h1:top < b) (h2:b < w.heap.size):Yj w top xs (bs ++ [b]):=fun j y c hy hc=>by
 by_cases hj:j < bs.length
 . rw [List.getElem?_append_left hj] at hc;exact h j y c hy hc
 rw [List.getElem?_append_right (by omega)] at hc;have hj2:j = bs.length:=by
  by_cases hz:j - bs.length = 0
  . omega
  rw [List.getElem?_eq_none (by simp;omega)] at hc;cases hc
 subst hj2;rw [hx] at hy;cases hy;simp at hc;subst hc;exact ⟨hr,h1,h2⟩
theorem zid (s:St) (x:Sp) (torn:Bool) (lo ob sb fn:Nat) (w:World) (hfn:actV x.kind sb = .func (.func fn) #[] #[.pointer (some ⟨sb,0,none⟩)]) (hx:jn x = true) (hok:ze s.flash = true) (h6:s.disk.length = 6) (hH:Hold w lo ob s) (hS:Row w (some ⟨sb,0,none⟩) x.vs) (hsb:sb < lo) :
 Calls Tryz.prog fn #[.pointer (some ⟨ob,0,none⟩), .bool torn, .pointer (some ⟨sb,0,none⟩)] w fun e w'=>e = .returned (.tuple #[])∧Hold w' lo ob (z5 s x torn)∧Below lo w w':=by
 rcases zjh hx with hk | hk | hk
 . have:fn = 76:=by rw [hk] at hfn;simp [actV] at hfn;exact hfn.symm
   rw [this];exact zl1 s x torn lo ob sb w hk hx h6 hH hS hsb
 . have:fn = 77:=by rw [hk] at hfn;simp [actV] at hfn;exact hfn.symm
   rw [this];exact zl0 s x torn lo ob sb w hk hx hok h6 hH hS hsb
 have:fn = 79:=by rw [hk] at hfn;simp [actV] at hfn;exact hfn.symm
 rw [this];exact zlz s x torn lo ob sb w hk hx hok h6 hH hS hsb
theorem zcw {k:Int} {b fn:Nat} (h:actV k b = .func (.func fn) #[] #[.pointer (some ⟨b,0,none⟩)]):∀ (args:Array Value) (w:World),(callFunc fn args).run Tryz.prog w = .ok (.enter fn args) w:=by
 have h1:(if k = 1 then 76 else if k = 2 then 77 else 79) = fn:=by simpa [actV] using h
 have h2:fn = 76∨fn = 77∨fn = 79:=by
  rw [← h1];split
  . exact .inl rfl
  split
  . exact .inr (.inl rfl)
  exact .inr (.inr rfl)
 rcases h2 with h2 | h2 | h2
 . subst h2;intro args w;exact enters_of Tryz.func76 (by kernel_rfl) rfl args w
 . subst h2;intro args w;exact enters_of Tryz.func77 (by kernel_rfl) rfl args w
 subst h2;intro args w;exact enters_of Tryz.func79 (by kernel_rfl) rfl args w
theorem Hold.told {w w':World} {lo ob rb:Nat} {t:St} {A D:Option Addr} {c d:Nat} {W:World} (hH:Hold w lo ob t) (o0:w.cell? ⟨ob,0,none⟩ = some (.slice A 4 c)) (o1:w.cell? ⟨ob,1,none⟩ = some (.slice D 6 d)) (h4:t.flash.length = 4) (h6:t.disk.length = 6) (hr:rb < lo) (hr0:W.heap.size ≤ rb) 
 (hB:Below W.heap.size W w) (u0 u1:Value) (hw:w' = (w.setCell ⟨rb,0,none⟩ u0).setCell ⟨rb,1,none⟩ u1) :
 zed (t,true) W (.returned (.tuple #[.agg #[.slice A 4 c, .slice D 6 d], .bool true])) w':=by
 have hk:∀ b,lo ≤ b->b < w.heap.size->w'.heap[b]? = w.heap[b]?:=fun b hb _=>by
  rw [hw,Below.heap_setCell _ _ _ _ (show b ≠ rb by omega),Below.heap_setCell _ _ _ _ (show b ≠ rb by omega)]
 have hH':=hH.far hk;have hob:lo ≤ ob:=by obtain ⟨_,_,_,_,_,_,_,_,_,h,_⟩:=hH;exact h
 have hh:=hk ob hob (zd o0);obtain ⟨A',c',D',d',hs,p0,p1,_,_,_,⟨hi,hApt,hle⟩,hBk,hD,hfb,hdb⟩:=hH';have e0:=(World.cell?_of_block (a:=⟨ob,0,none⟩) hh).trans o0;have e1:=(World.cell?_of_block (a:=⟨ob,1,none⟩) hh).trans o1;rw [p0] at e0;rw [p1] at e1;cases e0;cases e1;refine ⟨A,c,D,d,by dsimp only;rw [h4,h6],⟨hs,hBk,hApt.mono (by omega) hle,hD,fun b hb=>⟨by have:=(hdb b hb).1;omega,hD.lt (yi (by intro e;rw [e] at h6;simp at h6)) hb,fun e=>(hdb b hb).2.2 (.inl e),fun i x hx e=>(hdb b hb).2.2 (.inr ⟨i,x,hx,e⟩)⟩⟩, ?_⟩;rw [hw];exact (hB.setCell (p:=⟨rb,0,none⟩) hr0 _).setCell (p:=⟨rb,1,none⟩) hr0 _
end
end Go.Proofs.YtclnogfmmekooaaGreat
open Go.RowKit Go.IntWalk Go.Maps
namespace Go.Proofs.YtclnogfmmekooaaGreat
section
theorem zjo {qb k c2 g2 cq:Nat} {Aq:Option Addr} {w2 w3:World} {xs:List Sp} {bs:List Nat} {x:Sp} {F:Value} {t:TypeId} (hx:xs[k]? = some x) (hbl:bs.length = k) (hF:actV x.kind w2.heap.size = F)
 (hown:w2.ownsRow (qb + 1) t 1 (.slice Aq k cq) k (Qj (xs.take k) bs)) (hW:Yj w2 qb xs bs) (hvb:∀ b,b ∈ bs->(Value.slice Aq k cq).ownBlock ≠ some b) (hqb:qb < w2.heap.size) (y2:w3.cell? ⟨qb,0,none⟩ = some (.slice Aq k cq)) (y3:w3.frozen? ⟨qb,0,none⟩ = false)
 (hown2:w3.ownsRow (qb + 1) t 1 (.slice (some ⟨g2,0,none⟩) (k + 1) c2) (k + 1) (Qj (xs.take k) bs ++ [F])) (hg:((w2.alloc (.cells #[.int .i64 x.kind, .int .i64 x.addr, .int .i64 x.val, .int .i64 x.block, .int .i64 x.rc.kind, .int .i64 x.rc.seq, .int .i64 x.rc.addr, .int .i64 x.rc.val] 81)).alloc (.cells #[F] t)).drew.grownBy w3 (Value.slice Aq k cq).ownBlock) (hat:(Value.slice Aq k cq).ownBlock = some g2∨g2 = w2.heap.size + 1 + 1) :
 (w3.setCell ⟨qb,0,none⟩ (.slice (some ⟨g2,0,none⟩) (k + 1) c2)).cell? ⟨qb,0,none⟩ = some (.slice (some ⟨g2,0,none⟩) (k + 1) c2)∧(w3.setCell ⟨qb,0,none⟩ (.slice (some ⟨g2,0,none⟩) (k + 1) c2)).frozen? ⟨qb,0,none⟩ = false ∧
 (w3.setCell ⟨qb,0,none⟩ (.slice (some ⟨g2,0,none⟩) (k + 1) c2)).ownsRow (qb + 1) t 1 (.slice (some ⟨g2,0,none⟩) (k + 1) c2) (k + 1) (Qj (xs.take (k + 1)) (bs ++ [w2.heap.size])) ∧
 Yj (w3.setCell ⟨qb,0,none⟩ (.slice (some ⟨g2,0,none⟩) (k + 1) c2)) qb xs (bs ++ [w2.heap.size])∧(∀ b,b ∈ bs ++ [w2.heap.size]->(Value.slice (some ⟨g2,0,none⟩) (k + 1) c2).ownBlock ≠ some b):=by
 have hlt:=(List.getElem?_eq_some_iff.1 hx).1;have hob:∀ q,(Value.slice Aq k cq).ownBlock = some q->q < w2.heap.size:=fun q e=>(World.ownsRow.lt hown q e).2;have hg2:=World.ownsRow.lt hown2 g2 rfl;have hW1:=zq y2 (.slice (some ⟨g2,0,none⟩) (k + 1) c2);have hblk:∀ b,b < w2.heap.size + 1->b ≠ qb->(Value.slice Aq k cq).ownBlock ≠ some b->(w3.setCell ⟨qb,0,none⟩ (.slice (some ⟨g2,0,none⟩) (k + 1) c2)).heap[b]? = (w2.alloc (.cells #[.int .i64 x.kind, .int .i64 x.addr, .int .i64 x.val, .int .i64 x.block, .int .i64 x.rc.kind, .int .i64 x.rc.seq, .int .i64 x.rc.addr, .int .i64 x.rc.val] 81)).heap[b]?:=fun b hb hq hn=>by
  rw [hW1.block b hq];obtain ⟨_,_,_,_,h5⟩:=hg;refine (h5 b (by show b < ((w2.alloc _).alloc _).heap.size;simp;omega) (fun e=>hn e.symm)).trans ?_;exact Below.heap_alloc _ _ _ (by simpa using hb)
 have hs3:w2.heap.size + 2 ≤ w3.heap.size:=by obtain ⟨_,_,_,h4,_⟩:=hg;have h4':((w2.alloc (.cells #[.int .i64 x.kind, .int .i64 x.addr, .int .i64 x.val, .int .i64 x.block, .int .i64 x.rc.kind, .int .i64 x.rc.seq, .int .i64 x.rc.addr, .int .i64 x.rc.val] 81)).alloc (.cells #[F] t)).heap.size ≤ w3.heap.size:=h4;simpa using h4'
 have htk:xs.take (k + 1) = xs.take k ++ [x]:=by rw [List.take_add_one,hx];rfl
 have hmem:∀ b,b ∈ bs->qb < b∧b < w2.heap.size:=fun b hb=>by
  obtain ⟨j,hj⟩:=List.getElem?_of_mem hb;obtain ⟨y,hy⟩:=zc (l:=xs) (k:=j) (by have:=(List.getElem?_eq_some_iff.1 hj).1;omega);exact (hW j y b hy hj).2
 refine ⟨hW1.new_ 0 _ rfl,by rw [hW1.frozen];exact y3, ?_, ?_,fun b hb e=>?_⟩
 . refine ownsRow_setCell_other ?_ (fun e=>?_) _
   . rw [htk,zcx (by rw [hbl,List.length_take];omega),hF];exact hown2
   have e':g2 = qb:=by simpa [Value.ownBlock] using e
   have:=hg2.1;omega
 . refine Yj.snoc (hW.keep (by rw [hW1.size];omega) fun b hb=>?_) (by rw [hbl];exact hx) ?_ (by omega) (by rw [hW1.size];omega)
   . have:=hmem b hb;rw [hblk b (by omega) (by omega) (hvb b hb)];exact Below.heap_alloc _ _ _ this.2
   refine (Row.new w2 #[.int .i64 x.kind, .int .i64 x.addr, .int .i64 x.val, .int .i64 x.block, .int .i64 x.rc.kind, .int .i64 x.rc.seq, .int .i64 x.rc.addr, .int .i64 x.rc.val] 81).keep fun b hb _=>?_;rw [zf] at hb;subst hb;exact hblk _ (by omega) (by omega) (fun e=>by have:=hob _ e;omega)
 have e':g2 = b:=by simpa [Value.ownBlock] using e
 subst e';rcases List.mem_append.1 hb with hb | hb
 . rcases hat with h | h
   . exact hvb _ hb h
   have:=hmem _ hb;omega
 rw [List.mem_singleton] at hb;rcases hat with h | h
 . have:=hob _ h;omega
 omega
theorem Qf (s:St) (xs:List Sp) (cut:Int) (torn:Bool) (A D V:Option Addr) (n m c d cs:Nat) (w:World) (hn:n = s.flash.length) (hm:m = s.disk.length) (hl:xs.length < 1000000000000) (hF:Fl w A s.flash) (hD:Row w D (ints s.disk)) (hX:Row w V (sps xs)) :
 Calls Tryz.prog 17 #[.agg #[.slice A n c, .slice D m d], .slice V xs.length cs, .int .i64 cut, .bool torn] w (zed (toR s xs cut torn) w):=by
 have hB0:Below w.heap.size w ((w.alloc (.cells #[.slice A n c, .slice D m d] 28)).alloc (.cells #[.slice none 0 0, .slice none 0 0] 28)):=bw;have HSO:=Lib.hid (Zn s A D n m c d _ hn hm (hF.below hB0 nl) (hD.below hB0 nl));by_cases hc:cut < 0
 . have hfin:Hid (toR s xs cut torn = (st0,false)):=by unfold Hid toR;rw [if_pos (.inl hc)]
   clear HSO hn hm
   go_enter Tryz.func17,Tryz.ntmps17
   go_wp2;refine bodyPost_ret (v:=.tuple #[.agg #[.slice none 0 0, .slice none 0 0], .bool false]) (by simp [results,Tryz.results17,go_sem]) rfl ?_;rw [hfin.out];exact zed.fail bw
 by_cases hok:z8 s = true
 . rw [hok] at HSO;obtain ⟨h4,h6,hfl,hp4⟩:s.flash.length = 4∧s.disk.length = 6∧ze s.flash = true∧xq s:=by
    have k:=xy.1 hok;exact ⟨zh k.flash,k.len,k.flash,k.fine⟩
   have hfin:Hid (toR s xs cut torn = if allB xs = false then (st0,false) else (doTo s xs cut torn,true)):=by
    unfold Hid toR;by_cases hb:allB xs = false
    . rw [if_pos (.inr (.inr hb)),if_pos hb]
    rw [if_neg (by rintro (e | e | e);exact hc e;rw [hok] at e;cases e;exact hb e),if_neg hb]
   obtain rfl:n = 4:=by omega
   obtain rfl:m = 6:=by omega
   have hc':¬ cut < 0:=hc;have HFL:=Lib.hid hfl;have HFI:=Lib.hid hp4;have H6:=Lib.hid h6;clear hok h4 h6 hfl hp4 hn hm;obtain ⟨ib,hib,hbz0,hbz1,hbz2⟩:=info_parts Tryz.info3_action
   go_enter Tryz.func17,Tryz.ntmps17
   go_wp2_with (go_at_call 11;with_reducible refine HSO.out.mono ?_;rintro e w1 ⟨rfl,hb⟩)
   have hB1:Below w.heap.size w w1:=hB0.trans (hb.mono (by simp;omega));have hz1:w.heap.size + 2 ≤ w1.heap.size:=by have:=hb.size;simpa using this
   obtain ⟨hcc,hff⟩:=qv hb;have x0:w1.cell? ⟨w.heap.size,0,none⟩ = some (.slice A 4 c):=(hcc _ _ (by simp <;> omega)).trans (by simp)
   have x1:w1.cell? ⟨w.heap.size,1,none⟩ = some (.slice D 6 d):=(hcc _ _ (by simp <;> omega)).trans (by simp)
   have r0:w1.cell? ⟨w.heap.size + 1,0,none⟩ = some (.slice none 0 0):=(hcc _ _ (by simp)).trans (by simp);have r1:w1.cell? ⟨w.heap.size + 1,1,none⟩ = some (.slice none 0 0):=(hcc _ _ (by simp)).trans (by simp);have q0:w1.frozen? ⟨w.heap.size + 1,0,none⟩ = false:=(hff _ _ (by simp)).trans (by simp);have q1:w1.frozen? ⟨w.heap.size + 1,1,none⟩ = false:=(hff _ _ (by simp)).trans (by simp);have hX1:=hX.below hB1 nl;clear HSO hb hcc hff hB0;have hown0:(w1.alloc (.cells #[.slice none 0 0] 79)).ownsRow (w1.heap.size + 1) 84 1 (.slice none 0 0) 0 (Qj (xs.take 0) []):=World.ownsRow_nil _ _ _ _
   go_loopw [29] (fun i wr=>∃ (k:Nat) (bs:List Nat) (v:Value),k ≤ xs.length∧i = .int .i64 k∧bs.length = k∧wr.cell? ⟨w1.heap.size,0,none⟩ = some v∧wr.frozen? ⟨w1.heap.size,0,none⟩ = false∧wr.ownsRow (w1.heap.size + 1) 84 1 v k (Qj (xs.take k) bs) ∧
    Yj wr w1.heap.size xs bs∧(∀ b,b ∈ bs->v.ownBlock ≠ some b)∧Below w1.heap.size w1 wr∧w1.heap.size < wr.heap.size∧Hid (allB xs = allB (xs.drop k))) (fun i _=>xs.length - (intOf i).toNat)
   case atStart=>exact ⟨0,[],_,by omega,rfl,rfl,by simp,by simp,hown0,(fun j x b hx hb=>(by simp at hb)),(fun b hb=>(by cases hb)),bw,by simp,rfl⟩
   case round =>
    obtain ⟨k,bs,v,hk,rfl,hbl,y0,y1,hown,hW,hvb,hB,hz,hT⟩:=hrel;clear hown0;by_cases hlt:k < xs.length
    . obtain ⟨x,hx⟩:=zc hlt;have hXr:=hX1.below hB nl;obtain ⟨vb,vo,rfl⟩:=hXr.addr (by intro e;have:=Jw xs;rw [e] at this;simp at this;omega);obtain ⟨c0,c1,c2,c3,c4,c5,c6,c7⟩:=hXr.sp hx;have hk1:(k:Int) < xs.length:=by omega
      have e1:IntKind.i64.wrap ((k:Int) + 1) = (k:Int) + 1:=IntWalk.i64_in _ (by omega);have hT2:Hid (allB xs = (jn x && allB (xs.drop (k + 1)))):=by rw [Hid,hT.out,zr hx];rfl
      have htk:Hid (xs.take (k + 1) = xs.take k ++ [x]):=by rw [Hid,List.take_add_one,hx];rfl
      have HX:=Lib.hid hx;clear hx hT hXr;go_wp2_with fail
      with_reducible refine (zhh x _).mono ?_
      rintro e w2 ⟨rfl,hb2⟩;obtain ⟨hcc,hff⟩:=qv hb2;have p0:w2.cell? ⟨wr.heap.size,0,none⟩ = some (.int .i64 x.kind):=(hcc _ _ (by simp)).trans (by simp);have p1:w2.cell? ⟨wr.heap.size,1,none⟩ = some (.int .i64 x.addr):=(hcc _ _ (by simp)).trans (by simp);have p2:w2.cell? ⟨wr.heap.size,2,none⟩ = some (.int .i64 x.val):=(hcc _ _ (by simp)).trans (by simp);have p3:w2.cell? ⟨wr.heap.size,3,none⟩ = some (.int .i64 x.block):=(hcc _ _ (by simp)).trans (by simp);have p4:w2.cell? ⟨wr.heap.size,4,none⟩ = some (.int .i64 x.rc.kind):=(hcc _ _ (by simp)).trans (by simp);have p5:w2.cell? ⟨wr.heap.size,5,none⟩ = some (.int .i64 x.rc.seq):=(hcc _ _ (by simp)).trans (by simp);have p6:w2.cell? ⟨wr.heap.size,6,none⟩ = some (.int .i64 x.rc.addr):=(hcc _ _ (by simp)).trans (by simp);have p7:w2.cell? ⟨wr.heap.size,7,none⟩ = some (.int .i64 x.rc.val):=(hcc _ _ (by simp)).trans (by simp);have hs2:wr.heap.size + 1 ≤ w2.heap.size:=by have:=hb2.size;simpa using this
      have hB2:Below wr.heap.size wr w2:=((Below.refl _ _).alloc nl _).trans (hb2.mono (by simp));have hB12:=hB.trans (hB2.mono hB.size);replace y0:=(hB2.cell (p:=⟨w1.heap.size,0,none⟩) hz).trans y0;replace y1:=(hB2.frozen (p:=⟨w1.heap.size,0,none⟩) hz).trans y1;replace hown:=jq hown fun b hb hl=>hB2.block b hl;have hW2:=hW.below (by omega) hB2;clear hb2 hcc hff hW c0 c1 c2 c3 c4 c5 c6 c7;by_cases hsx:jn x = true
      . have hT3:Hid (allB xs = allB (xs.drop (k + 1))):=by rw [Hid,hT2.out,hsx];rfl
        rw [hsx];clear hT2 hsx;obtain ⟨Aq,cq,rfl,hcq,hRq,hbq,_⟩:=zlf hown;have hnb:∀ q,(Value.slice Aq k cq).ownBlock = some q->w1.heap.size + 1 ≤ q:=fun q e=>(World.ownsRow.lt hown q e).1;obtain ⟨fn,hfn⟩:∃ fn,actV x.kind w2.heap.size = .func (.func fn) #[] #[.pointer (some ⟨w2.heap.size,0,none⟩)]:=⟨_,rfl⟩;have hAc:Hid (Calls Tryz.prog 41 #[.agg #[.int .i64 x.kind, .int .i64 x.addr, .int .i64 x.val, .int .i64 x.block, .int .i64 x.rc.kind, .int .i64 x.rc.seq, .int .i64 x.rc.addr, .int .i64 x.rc.val]] w2.drew fun e w' =>
         e = .returned (.func (.func fn) #[] #[.pointer (some ⟨w2.heap.size,0,none⟩)])∧w' = w2.drew.alloc (.cells #[.int .i64 x.kind, .int .i64 x.addr, .int .i64 x.val, .int .i64 x.block, .int .i64 x.rc.kind, .int .i64 x.rc.seq, .int .i64 x.rc.addr, .int .i64 x.rc.val] 81)):=by
         have:=zdt x w2.drew;rw [show actV x.kind w2.drew.heap.size = actV x.kind w2.heap.size from rfl,hfn] at this;exact this
        have HNEW:Hid (((w2.alloc (.cells #[.int .i64 x.kind, .int .i64 x.addr, .int .i64 x.val, .int .i64 x.block, .int .i64 x.rc.kind, .int .i64 x.rc.seq, .int .i64 x.rc.addr, .int .i64 x.rc.val] 81)).alloc (.cells #[.func (.func fn) #[] #[.pointer (some ⟨w2.heap.size,0,none⟩)]] 84)).heap[w2.heap.size + 1]? = some (.cells #[.func (.func fn) #[] #[.pointer (some ⟨w2.heap.size,0,none⟩)]] 84 (0,0))):=by
         have:=World.alloc_heap_new (w2.alloc (.cells #[.int .i64 x.kind, .int .i64 x.addr, .int .i64 x.val, .int .i64 x.block, .int .i64 x.rc.kind, .int .i64 x.rc.seq, .int .i64 x.rc.addr, .int .i64 x.rc.val] 81)) (.cells #[.func (.func fn) #[] #[.pointer (some ⟨w2.heap.size,0,none⟩)]] 84);rw [World.size_alloc] at this;exact this
        have HFN:=Lib.hid hfn;have hz2:w1.heap.size < w2.heap.size:=by omega
        have hz3:w1.heap.size < w2.heap.size + 1:=by omega
        have hz4:w1.heap.size ≠ w2.heap.size + 1:=by omega
        have hz5:w1.heap.size ≠ w2.heap.size:=by omega
        have hz6:wr.heap.size < w2.heap.size:=by omega
        clear hfn;go_wp2
        go_region_law (first | (go_simp;go_at_call 41;refine hAc.out.mono ?_;rintro e w5 ⟨rfl,rfl⟩) | (refine step_append_lies _ (by rfl) (.tmp 38) (.tmp 41) _ (by rfl) (w1.heap.size + 1) 84 ib _ 1 8 Tryz.underlying77 hib hbz0 hbz1 hbz2 rfl (by omega) (.slice Aq k cq) k (Qj (xs.take k) bs) (by rfl) (World.ownsRow.drew (World.ownsRow.alloc (World.ownsRow.alloc hown _) _)) ⟨w2.heap.size + 1,0,none⟩ 1 1 [.func (.func fn) #[] #[.pointer (some ⟨w2.heap.size,0,none⟩)]] (by rfl) (by rfl) (World.news_of_block (cs:=#[.func (.func fn) #[] #[.pointer (some ⟨w2.heap.size,0,none⟩)]]) (t:=84) (fr:=(0,0)) HNEW.out) (by simp [Value.oneCell']) (by omega) (by unfold maxLen;omega) (by omega) (by simp;omega) (w2.heap.size + 1 + 1) (by simp) ?_;intro g2 c2 w3 hown2 hgrow2 hat2 hlt2;have hbb:Below (w1.heap.size + 1) w2 w3:=(((((Below.refl _ _).alloc (by omega) _).alloc (by simp;omega) _).drew).grown hgrow2 (by simp;omega) hnb);have y2:=(hbb.cell (p:=⟨w1.heap.size,0,none⟩) (by show w1.heap.size < _;omega)).trans y0;have y3:=(hbb.frozen (p:=⟨w1.heap.size,0,none⟩) (by show w1.heap.size < _;omega)).trans y1))
        all_goals
         have hQ:=zjo HX.out hbl HFN.out hown hW2 hvb hz2 y2 y3 hown2 hgrow2 hat2;have hBn:Below w1.heap.size w1 (w3.setCell ⟨w1.heap.size,0,none⟩ (.slice (some ⟨g2,0,none⟩) (k + 1) c2)):=(hB12.trans (hbb.mono (by omega))).setCell nl _;have hs3:=hbb.size;clear hown hW2 hvb hown2 hgrow2 hat2 hAc hRq hbq;go_wp2;go_roundw
         case rel=>exact ⟨k + 1,bs ++ [w2.heap.size],_,by omega,by go_num,by simp [hbl],hQ.1,hQ.2.1,hQ.2.2.1,hQ.2.2.2.1,hQ.2.2.2.2,hBn,by simp;omega,hT3⟩
         case measure=>simp [intOf];omega
      have hsf:jn x = false:=by simpa using hsx
      have hT3:Hid (toR s xs cut torn = (st0,false)):=by rw [Hid,hfin.out,hT2.out,hsf];rfl
      rw [hsf];have rr0:=(hB12.cell (p:=⟨w.heap.size + 1,0,none⟩) (by show w.heap.size + 1 < _;omega)).trans r0;have rr1:=(hB12.cell (p:=⟨w.heap.size + 1,1,none⟩) (by show w.heap.size + 1 < _;omega)).trans r1;have qq0:=(hB12.frozen (p:=⟨w.heap.size + 1,0,none⟩) (by show w.heap.size + 1 < _;omega)).trans q0;have qq1:=(hB12.frozen (p:=⟨w.heap.size + 1,1,none⟩) (by show w.heap.size + 1 < _;omega)).trans q1;have hzr:w.heap.size + 1 < w2.heap.size:=by omega
      have hBw:=hB1.trans (hB12.mono hB1.size);clear hT2 hsx hsf hfin hown;go_wp2;refine bodyPost_ret (v:=.tuple #[.agg #[.slice none 0 0, .slice none 0 0], .bool false]) (by simp [results,Tryz.results17,go_sem,hzr,rr0,rr1]) rfl ?_;rw [hT3.out];refine zed.fail ?_;refine Below.setCell (Below.setCell hBw ?_ _) ?_ _ <;> (show w.heap.size ≤ w.heap.size + 1;omega)
    have hk':k = xs.length:=by omega
    have hki:(xs.length:Int) ≤ k:=by omega
    have hall:allB xs = true:=by rw [hT.out,hk',List.drop_length];rfl
    have hfin2:Hid (toR s xs cut torn = (doTo s xs cut torn,true)):=by rw [Hid,hfin.out,if_neg (by rw [hall];simp)]
    obtain ⟨Aq,cq,rfl,hcq,hRq,hbq,hgq⟩:=zlf hown;obtain ⟨w4,rfl⟩:∃ w4:World,w4 = wr:=⟨_,rfl⟩;have HSC:=Lib.hid (zbj s A D c d w4 HFI.out (hF.below (hB1.trans (hB.mono hB1.size)) nl) (hD.below (hB1.trans (hB.mono hB1.size)) nl));have hBs:=hB.size;have b0:=(hB.cell (p:=⟨w.heap.size,0,none⟩) (by show w.heap.size < _;omega)).trans x0;have b1:=(hB.cell (p:=⟨w.heap.size,1,none⟩) (by show w.heap.size < _;omega)).trans x1;have HK:=Lib.hid hk';have HA:=Lib.hid hall;clear hT hfin hown hvb hk' hk hlt hall hX hX1;go_wp2_with fail
    with_reducible refine HSC.out.mono ?_
    rintro e w5 ⟨g0,d0,rfl,hO,hb5⟩;have hs5:=hb5.size;have hH0:=Hold.new (c:=4) (d:=6) hO hs5;have hB5:Below w4.heap.size w4 (w5.alloc (.cells #[.slice (some ⟨g0,0,none⟩) 4 4, .slice (some ⟨d0,0,none⟩) 6 6] 28)):=hb5.alloc hs5 _;have hA0:Agr (fun b=>b = w1.heap.size∨w4.heap.size ≤ b) w4 (w5.alloc (.cells #[.slice (some ⟨g0,0,none⟩) 4 4, .slice (some ⟨d0,0,none⟩) 6 6] 28)):=Agr.of_below hB5;have z0:=(hB5.cell (p:=⟨w1.heap.size,0,none⟩) hz).trans y0;have z1:=(hB5.frozen (p:=⟨w1.heap.size,0,none⟩) hz).trans y1;clear HSC hO hb5 hB5;go_wp2
    go_loopw [14] (fun i wr=>∃ (j:Nat) (Aj:Option Addr),j ≤ xs.length∧(j:Int) ≤ cut∧i = .int .i64 j∧wr.cell? ⟨w1.heap.size,0,none⟩ = some (.slice Aj (k - j) (cq - j))∧wr.frozen? ⟨w1.heap.size,0,none⟩ = false∧(j < xs.length->∃ g,Aq = some ⟨g,0,none⟩∧Aj = some ⟨g,j,none⟩) ∧
     Hold wr w4.heap.size w5.heap.size (zx s (xs.take j))∧Agr (fun b=>b = w1.heap.size∨w4.heap.size ≤ b) w4 wr) (fun i _=>cut.toNat - (intOf i).toNat)
    case atStart=>exact ⟨0,Aq,by omega,by omega,rfl,z0,z1,fun h=>(by obtain ⟨g,hg⟩:=hgq (by have:=HK.out;omega);exact ⟨g,hg,hg⟩),hH0,hA0⟩
    case round =>
     obtain ⟨j,Aj,hj,hjc,rfl,y0,y1,hAj,hH,hAg⟩:=hrel;have hk':=HK.out;have hall:=HA.out;have hsr:=hAg.size;have rr0:=(hAg.cell (by omega) (by omega) 0).trans ((hB.cell (p:=⟨w.heap.size + 1,0,none⟩) (by show w.heap.size + 1 < _;omega)).trans r0);have rr1:=(hAg.cell (by omega) (by omega) 1).trans ((hB.cell (p:=⟨w.heap.size + 1,1,none⟩) (by show w.heap.size + 1 < _;omega)).trans r1);have qq0:=(hAg.fz (by omega) (by omega) 0).trans ((hB.frozen (p:=⟨w.heap.size + 1,0,none⟩) (by show w.heap.size + 1 < _;omega)).trans q0);have qq1:=(hAg.fz (by omega) (by omega) 1).trans ((hB.frozen (p:=⟨w.heap.size + 1,1,none⟩) (by show w.heap.size + 1 < _;omega)).trans q1);have hBr:Below w.heap.size w wr:=(hB1.trans (hB.mono hB1.size)).trans (hAg.below (by omega) (fun b hb=>by omega));have hobl:w5.heap.size < wr.heap.size:=by obtain ⟨_,_,_,_,_,o0,_⟩:=hH;exact zd o0
     clear hA0 z0 z1 hH0;by_cases hjl:j < xs.length
     . obtain ⟨x,hx⟩:=zc (l:=xs) (k:=j) hjl;obtain ⟨b,hb⟩:=zc (l:=bs) (k:=j) (by omega);obtain ⟨hRx,hb1,hb2⟩:=hW j x b hx hb;obtain ⟨g,rfl,rfl⟩:=hAj hjl;have hsx:jn x = true:=Qs.1 hall x (List.mem_of_getElem? hx);obtain ⟨fn,hfn⟩:∃ fn,actV x.kind b = .func (.func fn) #[] #[.pointer (some ⟨b,0,none⟩)]:=⟨_,rfl⟩;have hcg:=(hRq.at0 (j:=j) (zge (x:=x) (b:=b) (by rw [List.getElem?_take,if_pos (by omega)];exact hx) hb)).1;rw [hfn] at hcg;have hgb:=hbq g (zf.2 rfl);have hcg2:=(hAg.cell hgb.2.1 (by omega) j).trans hcg;have hRx2:=hRx.agr hAg (fun c hc=>by rw [zf] at hc;subst hc;omega);have htk:Hid (xs.take (j + 1) = xs.take j ++ [x]):=by rw [Hid,List.take_add_one,hx];rfl
       have hds:=Y8 s hx;have hgx:xs.getD j ⟨0,0,0,0,rc0⟩ = x:=by rw [List.getD_eq_getElem?_getD,hx];rfl
       have hkj:k - j = k - j - 1 + 1:=by omega
       rw [hkj] at y0;have HTK:=Lib.hid (zlx w1.heap.size g j (k - j - 1) (cq - j) _ wr y0 y1 hcg2 rfl (by omega) (by omega));have hokj:ze (zx s (xs.take j)).flash = true:=Yh HFL.out (fun y hy=>Qs.1 hall y (List.mem_of_mem_take hy));have h6j:(zx s (xs.take j)).disk.length = 6:=(X7 _ _).trans H6.out

       by_cases hcc:(j:Int) < cut
       . have e1:IntKind.i64.wrap ((j:Int) + 1) = (j:Int) + 1:=IntWalk.i64_in _ (by omega);clear hk' hj hki hkj;go_wp2_with fail
         with_reducible refine HTK.out.mono ?_
         rintro e w7 ⟨rfl,A',rfl,hA'⟩;have hH7:Hold (wr.setCell ⟨w1.heap.size,0,none⟩ (.slice A' (k - j - 1) (cq - j - 1))) w4.heap.size w5.heap.size (zx s (xs.take j)):=hH.far fun b hb _=>Below.heap_setCell _ _ _ _ (show b ≠ w1.heap.size by omega);have hR7:Row (wr.setCell ⟨w1.heap.size,0,none⟩ (.slice A' (k - j - 1) (cq - j - 1))) (some ⟨b,0,none⟩) x.vs:=hRx2.keep fun c hc _=>by rw [zf] at hc;subst hc;exact Below.heap_setCell _ _ _ _ (show b ≠ w1.heap.size by omega)
         have HAC:=Lib.hid (zid _ x false w4.heap.size w5.heap.size b fn _ hfn hsx hokj h6j hH7 hR7 hb2);have hs8:∀ w8,Below w4.heap.size (wr.setCell ⟨w1.heap.size,0,none⟩ (.slice A' (k - j - 1) (cq - j - 1))) w8->w8.cell? ⟨w1.heap.size,0,none⟩ = some (.slice A' (k - j - 1) (cq - j - 1))∧w8.frozen? ⟨w1.heap.size,0,none⟩ = false∧Agr (fun b=>b = w1.heap.size∨w4.heap.size ≤ b) w4 w8:=fun w8 hb8=>by
          have hW1:=zq y0 (.slice A' (k - j - 1) (cq - j - 1));refine ⟨(hb8.cell (p:=⟨w1.heap.size,0,none⟩) hz).trans (hW1.new_ 0 _ rfl),(hb8.frozen (p:=⟨w1.heap.size,0,none⟩) hz).trans ((hW1.frozen _).trans y1), ?_⟩;refine (hAg.trans (hW1.agr) (fun i _ e=>.inl e)).trans (S':=fun b=>w4.heap.size ≤ b) ⟨hb8.os,hb8.tape,hb8.output,hb8.size,fun i _ hn=>hb8.block i (by omega)⟩ (fun i _ h=>.inr h)
         have HS8:=Lib.hid hs8;have hen:=zcw hfn;clear hs8 HTK hH hH7 hR7 hRx hRx2 hgq hAj hbq hsr hgb;go_wp2_with (go_at_fn fn;(with_reducible refine HAC.out.mono ?_);rintro e w8 ⟨rfl,hH8,hb8⟩)
         rw [← hds] at hH8;obtain ⟨n0,n1,n2⟩:=HS8.out w8 hb8;clear HAC HS8;go_roundw
         case rel=>exact ⟨j + 1,A',by omega,by omega,by go_num,n0,n1,fun h=>⟨g,rfl,hA' (by have:=HK.out;omega)⟩,hH8,n2⟩
         case measure=>simp [intOf];omega
       have hcj:cut = j:=by omega
       cases torn
       . -- not torn
         have hds2:doTo s xs cut false = zx s (xs.take j):=by
          unfold doTo;rw [if_neg (by rintro ⟨e,_⟩;cases e),hcj,Int.toNat_natCast]
         have hfin3:Hid (toR s xs cut false = (zx s (xs.take j),true)):=by rw [Hid,hfin2.out,hds2]
         have h4j:=zh hokj;have HH7:∀ A',Hold (wr.setCell ⟨w1.heap.size,0,none⟩ (.slice A' (k - j - 1) (cq - j - 1))) w4.heap.size w5.heap.size (zx s (xs.take j)):=fun A'=>hH.far fun b hb _=>Below.heap_setCell _ _ _ _ (show b ≠ w1.heap.size by omega);obtain ⟨Ao,co,Do,dd,hso,o0,o1,_⟩:=hH;have n5:w5.heap.size ≠ w1.heap.size:=by omega
         have n1:w.heap.size + 1 ≠ w1.heap.size:=by omega
         have oo0:∀ u,(wr.setCell ⟨w1.heap.size,0,none⟩ u).cell? ⟨w5.heap.size,0,none⟩ = some (.slice Ao 4 co):=fun u=>(World.cell?_of_block (a:=⟨w5.heap.size,0,none⟩) (Below.heap_setCell _ _ _ _ n5)).trans o0;have oo1:∀ u,(wr.setCell ⟨w1.heap.size,0,none⟩ u).cell? ⟨w5.heap.size,1,none⟩ = some (.slice Do 6 dd):=fun u=>(World.cell?_of_block (a:=⟨w5.heap.size,1,none⟩) (Below.heap_setCell _ _ _ _ n5)).trans o1;have s0:∀ u,(wr.setCell ⟨w1.heap.size,0,none⟩ u).cell? ⟨w.heap.size + 1,0,none⟩ = some (.slice none 0 0):=fun u=>(World.cell?_of_block (a:=⟨w.heap.size + 1,0,none⟩) (Below.heap_setCell _ _ _ _ n1)).trans rr0;have s1:∀ u,(wr.setCell ⟨w1.heap.size,0,none⟩ u).cell? ⟨w.heap.size + 1,1,none⟩ = some (.slice none 0 0):=fun u=>(World.cell?_of_block (a:=⟨w.heap.size + 1,1,none⟩) (Below.heap_setCell _ _ _ _ n1)).trans rr1;have s2:∀ u,(wr.setCell ⟨w1.heap.size,0,none⟩ u).frozen? ⟨w.heap.size + 1,0,none⟩ = false:=fun u=>(World.frozen?_of_block (a:=⟨w.heap.size + 1,0,none⟩) (Below.heap_setCell _ _ _ _ n1)).trans qq0;have s3:∀ u,(wr.setCell ⟨w1.heap.size,0,none⟩ u).frozen? ⟨w.heap.size + 1,1,none⟩ = false:=fun u=>(World.frozen?_of_block (a:=⟨w.heap.size + 1,1,none⟩) (Below.heap_setCell _ _ _ _ n1)).trans qq1;have HB7:∀ u,Below w.heap.size w (wr.setCell ⟨w1.heap.size,0,none⟩ u):=fun u=>hBr.setCell (by show w.heap.size ≤ w1.heap.size;omega) _;have HO0:=Lib.hid oo0;have HO1:=Lib.hid oo1;have HS0:=Lib.hid s0;have HS1:=Lib.hid s1;have HS2:=Lib.hid s2;have HS3:=Lib.hid s3;have HHH:=Lib.hid HH7;clear oo0 oo1 s0 s1 s2 s3 HH7 hds2 hds hk' hj hki hkj hRx hRx2 hgq hAj hbq hsr hgb;go_wp2_with fail
         with_reducible refine HTK.out.mono ?_
         rintro e w7 ⟨rfl,A',rfl,hA'⟩;have oo0:=HO0.out (.slice A' (k - j - 1) (cq - j - 1));have oo1:=HO1.out (.slice A' (k - j - 1) (cq - j - 1));have s0:=HS0.out (.slice A' (k - j - 1) (cq - j - 1));have s1:=HS1.out (.slice A' (k - j - 1) (cq - j - 1));have s2:=HS2.out (.slice A' (k - j - 1) (cq - j - 1));have s3:=HS3.out (.slice A' (k - j - 1) (cq - j - 1));have hh7:=HHH.out A';have hb7:=HB7 (.slice A' (k - j - 1) (cq - j - 1));have hz7:w.heap.size + 1 < (wr.setCell ⟨w1.heap.size,0,none⟩ (.slice A' (k - j - 1) (cq - j - 1))).heap.size:=by simp;omega
         clear HHH HB7 HO0 HO1 HS0 HS1 HS2 HS3 HTK;generalize wr.setCell ⟨w1.heap.size,0,none⟩ (.slice A' (k - j - 1) (cq - j - 1)) = w7 at *;go_wp2;refine bodyPost_ret (v:=.tuple #[.agg #[.slice Ao 4 co, .slice Do 6 dd], .bool true]) (by simp [results,Tryz.results17,go_sem,hz7,s0,s1]) rfl ?_;rw [hfin3.out];exact hh7.told oo0 oo1 h4j h6j (show w.heap.size + 1 < w4.heap.size by omega) (by omega) hb7 _ _ rfl
       have hds2:doTo s xs cut true = z5 (zx s (xs.take j)) x true:=by
        unfold doTo;rw [if_pos ⟨rfl,by omega,by omega⟩,hcj,Int.toNat_natCast,hgx]
       have hfin3:Hid (toR s xs cut true = (z5 (zx s (xs.take j)) x true,true)):=by rw [Hid,hfin2.out,hds2]
       have h4j:Hid ((z5 (zx s (xs.take j)) x true).flash.length = 4):=zh (zf2 hokj hsx true);have h6k:Hid ((z5 (zx s (xs.take j)) x true).disk.length = 6):=(za8 _ _ _).trans h6j;have n1:w.heap.size + 1 ≠ w1.heap.size:=by omega
       have HEND:∀ u w8,Below w4.heap.size (wr.setCell ⟨w1.heap.size,0,none⟩ u) w8->w8.cell? ⟨w.heap.size + 1,0,none⟩ = some (.slice none 0 0)∧w8.cell? ⟨w.heap.size + 1,1,none⟩ = some (.slice none 0 0)∧w8.frozen? ⟨w.heap.size + 1,0,none⟩ = false∧w8.frozen? ⟨w.heap.size + 1,1,none⟩ = false∧Below w.heap.size w w8:=fun u w8 hb8 =>
        ⟨(hb8.cell (p:=⟨w.heap.size + 1,0,none⟩) (by show w.heap.size + 1 < _;omega)).trans ((World.cell?_of_block (a:=⟨w.heap.size + 1,0,none⟩) (Below.heap_setCell _ _ _ _ n1)).trans rr0),
         (hb8.cell (p:=⟨w.heap.size + 1,1,none⟩) (by show w.heap.size + 1 < _;omega)).trans ((World.cell?_of_block (a:=⟨w.heap.size + 1,1,none⟩) (Below.heap_setCell _ _ _ _ n1)).trans rr1),
         (hb8.frozen (p:=⟨w.heap.size + 1,0,none⟩) (by show w.heap.size + 1 < _;omega)).trans ((World.frozen?_of_block (a:=⟨w.heap.size + 1,0,none⟩) (Below.heap_setCell _ _ _ _ n1)).trans qq0),
         (hb8.frozen (p:=⟨w.heap.size + 1,1,none⟩) (by show w.heap.size + 1 < _;omega)).trans ((World.frozen?_of_block (a:=⟨w.heap.size + 1,1,none⟩) (Below.heap_setCell _ _ _ _ n1)).trans qq1),
         (hBr.setCell (p:=⟨w1.heap.size,0,none⟩) (by show w.heap.size ≤ w1.heap.size;omega) u).trans (hb8.mono (by omega))⟩
       have HE:=Lib.hid HEND;clear HEND hds2 hds hk' hj hki hkj hgq hAj hbq hsr hgb;go_wp2_with fail
       with_reducible refine HTK.out.mono ?_
       rintro e w7 ⟨rfl,A',rfl,hA'⟩;have hH7:Hold (wr.setCell ⟨w1.heap.size,0,none⟩ (.slice A' (k - j - 1) (cq - j - 1))) w4.heap.size w5.heap.size (zx s (xs.take j)):=hH.far fun b hb _=>Below.heap_setCell _ _ _ _ (show b ≠ w1.heap.size by omega);have hR7:Row (wr.setCell ⟨w1.heap.size,0,none⟩ (.slice A' (k - j - 1) (cq - j - 1))) (some ⟨b,0,none⟩) x.vs:=hRx2.keep fun c hc _=>by rw [zf] at hc;subst hc;exact Below.heap_setCell _ _ _ _ (show b ≠ w1.heap.size by omega)
       have HAC:=Lib.hid (zid _ x true w4.heap.size w5.heap.size b fn _ hfn hsx hokj h6j hH7 hR7 hb2);have hen:=zcw hfn;clear HTK hH hH7 hR7 hRx hRx2;go_wp2_with (go_at_fn fn;(with_reducible refine HAC.out.mono ?_);rintro e w8 ⟨rfl,hH8,hb8⟩;obtain ⟨s0,s1,s2,s3,hb9⟩:=HE.out _ w8 hb8;have hH9:=Lib.hid hH8;obtain ⟨Ao,co,Do,dd,hso,o0,o1,_⟩:=hH8)
       have hz7:w.heap.size + 1 < w8.heap.size:=by have:=hb8.size;simp at this;omega
       refine bodyPost_ret (v:=.tuple #[.agg #[.slice Ao 4 co, .slice Do 6 dd], .bool true]) (by simp [results,Tryz.results17,go_sem,hz7,s0,s1]) rfl ?_;rw [hfin3.out];exact hH9.out.told o0 o1 h4j.out h6k.out (show w.heap.size + 1 < w4.heap.size by omega) (by omega) hb9 _ _ rfl
     have hjx:j = xs.length:=by omega
     have hkj:k - j = 0:=by omega
     have htake:xs.take j = xs:=List.take_of_length_le (by omega);rw [hkj] at y0;have HTK:=Lib.hid (zjx w1.heap.size (cq - j) Aj wr y0);have hokj:ze (zx s xs).flash = true:=Yh HFL.out (fun y hy=>Qs.1 hall y hy);have h6j:(zx s xs).disk.length = 6:=(X7 _ _).trans H6.out;have h4j:=zh hokj;rw [htake] at hH;have hds2:doTo s xs cut torn = zx s xs:=zmq (by omega);have hfin3:Hid (toR s xs cut torn = (zx s xs,true)):=by rw [Hid,hfin2.out,hds2]
     have hH9:=Lib.hid hH;obtain ⟨Ao,co,Do,dd,hso,o0,o1,_⟩:=hH;have hz7:w.heap.size + 1 < wr.heap.size:=by omega
     have hlo7:w.heap.size + 1 < w4.heap.size:=by omega
     clear hds2 hk' hj hki hkj hgq hAj hbq hsr hjx htake hRq hokj;by_cases hcc:(j:Int) < cut
     . go_wp2_with (go_at_call 43;(with_reducible refine HTK.out.mono ?_);rintro e w7 ⟨rfl,rfl⟩)
       refine bodyPost_ret (v:=.tuple #[.agg #[.slice Ao 4 co, .slice Do 6 dd], .bool true]) (by simp [results,Tryz.results17,go_sem,hz7,rr0,rr1]) rfl ?_;rw [hfin3.out];exact hH9.out.told o0 o1 h4j h6j hlo7 (by omega) hBr _ _ rfl
     go_wp2_with (go_at_call 43;(with_reducible refine HTK.out.mono ?_);rintro e w7 ⟨rfl,rfl⟩)
     refine bodyPost_ret (v:=.tuple #[.agg #[.slice Ao 4 co, .slice Do 6 dd], .bool true]) (by simp [results,Tryz.results17,go_sem,hz7,rr0,rr1]) rfl ?_;rw [hfin3.out];exact hH9.out.told o0 o1 h4j h6j hlo7 (by omega) hBr _ _ rfl
 have hok':z8 s = false:=by simpa using hok
 rw [hok'] at HSO;have hfin:Hid (toR s xs cut torn = (st0,false)):=by unfold Hid toR;rw [if_pos (.inr (.inl hok'))]
 clear hok hok' hn hm
 go_enter Tryz.func17,Tryz.ntmps17
 go_wp2_with (go_at_call 11;with_reducible refine HSO.out.mono ?_;rintro e w1 ⟨rfl,hb⟩;obtain ⟨hcc,hff⟩:=qv hb;have hs1:w.heap.size + 2 ≤ w1.heap.size:=(by have:=hb.size;simpa using this);have r0:w1.cell? ⟨w.heap.size + 1,0,none⟩ = some (.slice none 0 0):=(hcc _ _ (by simp)).trans (by simp);have r1:w1.cell? ⟨w.heap.size + 1,1,none⟩ = some (.slice none 0 0):=(hcc _ _ (by simp)).trans (by simp);have q0:w1.frozen? ⟨w.heap.size + 1,0,none⟩ = false:=(hff _ _ (by simp)).trans (by simp);have q1:w1.frozen? ⟨w.heap.size + 1,1,none⟩ = false:=(hff _ _ (by simp)).trans (by simp))
 have hB1:Below w.heap.size w w1:=hB0.trans (hb.mono (by simp;omega));have hz7:w.heap.size + 1 < w1.heap.size:=by omega
 refine bodyPost_ret (v:=.tuple #[.agg #[.slice none 0 0, .slice none 0 0], .bool false]) (by simp [results,Tryz.results17,go_sem,hz7,r0,r1]) rfl ?_;rw [hfin.out];refine zed.fail ?_;refine Below.setCell (Below.setCell hB1 ?_ _) ?_ _ <;> (show w.heap.size ≤ w.heap.size + 1;omega)
theorem zfl (s:St) (xs:List Sp) (cut:Int) (torn:Bool) (A D V:Option Addr) (n m c d cs:Nat) (w:World) (hn:n = s.flash.length) (hm:m = s.disk.length) (hl:xs.length < 1000000000000) (hF:Fl w A s.flash) (hD:Row w D (ints s.disk)) (hX:Row w V (sps xs)) :
 Calls Tryz.prog 17 #[.agg #[.slice A n c, .slice D m d], .slice V xs.length cs, .int .i64 cut, .bool torn] w (Z4 (toR s xs cut torn) w) :=
 (Qf s xs cut torn A D V n m c d cs w hn hm hl hF hD hX).mono fun _ _ q=>q.post
end
section
open Go.RowKit Go.Maps Go.Shelf
attribute [local go_sem] Oper.semAt_some
def zai (a:Int) (o:Rc) (x:PgAt):Rc:=zz a o x.2.2
def lrOf (a:Int) (pre:List PgAt):Rc:=pre.foldl (zai a) rc0
theorem zlr (a:Int) (pre:List PgAt) (x:PgAt):lrOf a (pre ++ [x]) = zai a (lrOf a pre) x:=by unfold lrOf;rw [List.foldl_append];rfl
theorem zov (a:Int):∀ (ps:List Pg) (i j:Nat) (o:Rc),(kv i j ps).foldl (zai a) o = xr a o ps
 | [],_,_,_=>rfl
 | p :: ps,i,j,o=>zov a ps i (j + 1) (zz a o p)
theorem zow (a:Int):∀ (f:List Bk) (i:Nat) (o:Rc),(zl i f).foldl (zai a) o = f.foldl (fun o b=>xr a o b.pages) o
 | [],_,_=>rfl
 | b :: f, i, o => by
   rw [zl,List.foldl_append,zov,zow a f];rfl
theorem zls (f:List Bk) (a:Int):lrOf a (zl 0 f) = last f a:=zow a f 0 rc0
def jy (f:List Bk) (a:Int):Rc × Bool:=if jk a = true∧ze f = true then (last f a,decide (0 < (last f a).seq)) else (rc0,false)
def rcA (r:Rc):Value:=.agg #[.int .i64 r.kind, .int .i64 r.seq, .int .i64 r.addr, .int .i64 r.val]
theorem zql {w:World} {g o n:Nat} {f:List Bk} {hs:List (Option Addr × Nat)} (hBk:Bks w (some ⟨g,o,none⟩) f hs) (h4:f.length = n + 1) (hp:∀ b ∈ f,b.pages.length = 4):∀ b,fblk (some ⟨g,o,none⟩) hs b->b < w.heap.size:=fun b hb=>by
 rcases hb with hb | ⟨i,x,hx,hb⟩
 . rw [zf] at hb;subst hb;obtain ⟨B,hB⟩:=zc (l:=f) (k:=0) (by omega);obtain ⟨_,_,c0,_⟩:=hBk.at_ hB;exact zd c0
 obtain ⟨B,hB⟩:=zc (l:=f) (k:=i) (by rw [← hBk.len];exact (List.getElem?_eq_some_iff.1 hx).1);have hr:=(hBk.pg i B x hB hx).1;have hn:B.pages ≠ []:=by intro hn;have:=hp B (List.mem_of_getElem? hB);rw [hn] at this;simp at this
 obtain ⟨b',o',he,hc⟩:=hr (ky hn);rw [he,zf] at hb;subst hb;obtain ⟨q,hq⟩:=zc (l:=pgs B.pages) (k:=0) (by rw [qh];have:=List.length_pos_iff.2 hn;omega);exact zd (hc 0 q hq).1
theorem zdx (f:List Bk) (a:Int) (A:Option Addr) (n c:Nat) (w:World) (hn:n = f.length) (hF:Fl w A f) :
 Calls Tryz.prog 110 #[.slice A n c, .int .i64 a] w fun e w'=>e = .returned (.tuple #[rcA (jy f a).1, .bool (jy f a).2])∧Below w.heap.size w w':=by
 subst hn;refine (callsIn_wide (n:=6)).1 ?_;refine callsIn_of_wp_marks Tryz.func110 rfl trivial ?_ rfl;simp only [Tryz.ntmps110,List.size_toArray,List.length_cons,List.length_nil,Nat.reduceAdd,Nat.reduceSub,Array.replicate_succ,Array.replicate_zero,List.push_toArray,List.append_toArray,List.nil_append,List.cons_append];by_cases ha:jk a = true
 . have hAc:∀ w,Hid (Calls Tryz.prog 74 #[.int .i64 a] w fun e w'=>e = .returned (.bool true)∧w = w'):=fun w=>by have:=Xb a w;rw [ha] at this;exact this
   by_cases hok:ze f = true
   . have hfin:Hid (jy f a = (last f a,decide (0 < (last f a).seq))):=by unfold Hid jy;rw [if_pos ⟨ha,hok⟩]
     have HFL:=Lib.hid (zh hok);have HP:=Lib.hid (show ∀ b ∈ f,b.pages.length < 1000000000000 from fun b hb=>by rw [(zo hok b hb).1];omega);have HPL:=Lib.hid (fun b hb=>(zo hok b hb).1);obtain ⟨hs,hBk⟩:=hF;have hFc:∀ w,Fl w A f->Hid (Calls Tryz.prog 29 #[.slice A f.length c] w fun e w'=>e = .returned (.bool true)∧Below w.heap.size w w'):=fun w h=>by have:=xh f A c w h;rw [hok] at this;exact this
     clear ha hok
     gi_wp2_with (first | (refine ⟨trivial, ?_⟩;gi_at_call 74;refine (callsIn_wide.2 (hAc _).out).mono ?_;rintro e w0 ⟨rfl,rfl⟩) | (refine ⟨trivial, ?_⟩;gi_at_call 29;refine (callsIn_wide.2 (hFc _ (Fl.alloc (Fl.alloc ⟨hs,hBk⟩ _) _)).out).mono ?_;rintro e w1 ⟨rfl,hb1⟩;obtain ⟨hc1,hf1⟩:=qv hb1;have r0:w1.cell? ⟨w.heap.size + 1,0,none⟩ = some (.int .i64 0):=(hc1 _ _ (by simp)).trans (by simp);have q0:w1.frozen? ⟨w.heap.size + 1,0,none⟩ = false:=(hf1 _ _ (by simp)).trans (by simp);have r1:w1.cell? ⟨w.heap.size + 1,1,none⟩ = some (.int .i64 0):=(hc1 _ _ (by simp)).trans (by simp);have q1:w1.frozen? ⟨w.heap.size + 1,1,none⟩ = false:=(hf1 _ _ (by simp)).trans (by simp);have r2:w1.cell? ⟨w.heap.size + 1,2,none⟩ = some (.int .i64 0):=(hc1 _ _ (by simp)).trans (by simp);have q2:w1.frozen? ⟨w.heap.size + 1,2,none⟩ = false:=(hf1 _ _ (by simp)).trans (by simp);have r3:w1.cell? ⟨w.heap.size + 1,3,none⟩ = some (.int .i64 0):=(hc1 _ _ (by simp)).trans (by simp);have q3:w1.frozen? ⟨w.heap.size + 1,3,none⟩ = false:=(hf1 _ _ (by simp)).trans (by simp);have b0:w1.cell? ⟨w.heap.size,0,none⟩ = some (.int .i64 a):=(hc1 _ _ (by simp <;> omega)).trans (by simp);have hs1:w.heap.size + 2 ≤ w1.heap.size:=(by have:=hb1.size;simp at this;omega);clear hc1 hf1) | (refine ⟨trivial, ?_⟩;gi_at_call 39;refine (Xh Fence.wide _ trivial rfl _ _ _ _).mono ?_;rintro e w2 ⟨rfl,rfl⟩))
     obtain ⟨g,o,rfl⟩:=hBk.addr (by intro e;have:=HFL.out;rw [e] at this;simp at this);have hlow:∀ b,fblk (some ⟨g,o,none⟩) hs b->b < w1.heap.size:=fun b hb=>by have:=zql hBk HFL.out HPL.out b hb;omega
     have hB1:Below w.heap.size w w1:=Below.trans bw (hb1.mono (by simp;omega));clear hb1;have hBk1:=hBk.below hB1 nl;have hR0:Row ((w1.alloc (.cells #[.int .i64 0, .int .i64 0, .int .i64 0, .int .i64 0] 64)).alloc (.cells #[.slice (some ⟨g,o,none⟩) f.length c] 25)) (some ⟨w1.heap.size,0,none⟩) (lrOf a []).vs:=(Row.new w1 #[.int .i64 0, .int .i64 0, .int .i64 0, .int .i64 0] 64).alloc _;have bA:=Boxed.new (w1.alloc (.cells #[.int .i64 0, .int .i64 0, .int .i64 0, .int .i64 0] 64)) 25 (.slice (some ⟨g,o,none⟩) f.length c);simp only [World.size_alloc] at bA;have hB0:Below w1.heap.size w1 ((w1.alloc (.cells #[.int .i64 0, .int .i64 0, .int .i64 0, .int .i64 0] 64)).alloc (.cells #[.slice (some ⟨g,o,none⟩) f.length c] 25)):=((Below.refl _ w1).alloc nl _).alloc (by simp) _;have hsz:((w1.alloc (.cells #[.int .i64 0, .int .i64 0, .int .i64 0, .int .i64 0] 64)).alloc (.cells #[.slice (some ⟨g,o,none⟩) f.length c] 25)).heap.size = w1.heap.size + 2:=by simp
     have hBk2:=(hBk1.alloc (.cells #[.int .i64 0, .int .i64 0, .int .i64 0, .int .i64 0] 64)).alloc (.cells #[.slice (some ⟨g,o,none⟩) f.length c] 25);obtain ⟨W0,hW0⟩:∃ W0,(w1.alloc (.cells #[.int .i64 0, .int .i64 0, .int .i64 0, .int .i64 0] 64)).alloc (.cells #[.slice (some ⟨g,o,none⟩) f.length c] 25) = W0:=⟨_,rfl⟩;rw [hW0] at bA hB0 hsz hBk2 hR0 ⊢;have hl4:f.length < 1000000000000:=by rw [HFL.out];omega
     clear hW0 hBk hBk1;refine wpIn_rangeFunc_ownH rfl (by omega) (gf:=73) (lb:=#[.pointer (some ⟨w1.heap.size + 1,0,none⟩)]) rfl trivial (enters_of Tryz.func73 (by kernel_rfl) rfl)
      (Ko Fence.wide _ trivial rfl (by omega) (w1.heap.size + 1) w1.heap.size g o c f hs W0 (by omega) (by omega) bA.cell hl4 HP.out hBk2 hlow) belowK_t (belowK_b (by omega)) (Below.refl _ _) (fun _=>rfl)
      (fun pre W=>Row W (some ⟨w1.heap.size,0,none⟩) (lrOf a pre).vs∧Below w1.heap.size w1 W)
      (fun _ _ _=>False)
      (OwnFrom.and (fun pre X Y row h hg hr=>zgz _ _ _ () X Y row h hg hr) (ownFrom_below nl (by omega)))
      (fun _ _ _ _ _ hs _ _=>hs)
      ⟨hR0,hB0⟩
      (fun x a' W=>∃ Bx,w1.heap.size < Bx∧Laid W Bx 76 (pgv x.2.2)∧a' = { tmps:=#[.slice (some ⟨g,o,none⟩) f.length c, .int .i64 a,undef, .pointer (some ⟨w.heap.size,0,none⟩), .pointer (some ⟨w.heap.size + 1,0,none⟩), .bool false, .pointer (some ⟨w1.heap.size,0,none⟩),undef, .pointer (some ⟨Bx,0,none⟩), .int .i64 a, .bool true, .bool false, .bool false, .slice (some ⟨g,o,none⟩) f.length c, .bool true, .bool false, .bool false,undef, .slice (some ⟨g,o,none⟩) f.length c, .func (.func 73) #[] #[.pointer (some ⟨w1.heap.size + 1,0,none⟩)], .agg #[.int .i64 (x.1:Int), .int .i64 (x.2.1:Int)], .agg (pgv x.2.2),undef,undef,undef,undef,undef,undef,undef,undef,undef,undef,undef,undef,undef,undef,undef,undef,undef,undef,undef,undef,undef,undef,undef,undef],defers:=[] })
      (fun x a' _ X Y row hs hg hr=>by obtain ⟨Bx,h1,h2,h3⟩:=hs;exact ⟨Bx,h1,Jm Bx _ _ _ () X Y row h2 hg hr,h3⟩)
      ?assign ?body ?done ?stop
     case assign =>
      rintro l pre x W K ⟨hR1,hB2⟩ hK;dsimp only [encP]
      gi_wp2
      have hlt:=hR1.lt (by simp [Rc.vs]) (zf.2 rfl);exact hK _ _ ((KeepsOthers.alloc _ _).from _) ((Below.refl _ W).alloc hB2.size _) ⟨hR1.alloc _,hB2.alloc hB2.size _⟩ ⟨W.heap.size,hlt,World.alloc_heap_new W _,rfl⟩
     case body =>
      rintro l pre x a' W hl ⟨r,hr⟩ ⟨hR1,hB2⟩ ⟨Bx,hBx,bX,rfl⟩ hlt;have x0:W.cell? ⟨Bx,0,none⟩ = some (.int .i64 x.2.2.state):=bX.cell 0 rfl;have x1:W.cell? ⟨Bx,1,none⟩ = some (.int .i64 x.2.2.rc.kind):=bX.cell 1 rfl;have x2:W.cell? ⟨Bx,2,none⟩ = some (.int .i64 x.2.2.rc.seq):=bX.cell 2 rfl;have x3:W.cell? ⟨Bx,3,none⟩ = some (.int .i64 x.2.2.rc.addr):=bX.cell 3 rfl;have x4:W.cell? ⟨Bx,4,none⟩ = some (.int .i64 x.2.2.rc.val):=bX.cell 4 rfl;have bB:=(hB2.cell (p:=⟨w.heap.size,0,none⟩) (by show w.heap.size < _;omega)).trans b0;have hst:Hid (lrOf a (pre ++ [x]) = zai a (lrOf a pre) x):=zlr a pre x;generalize lrOf a pre = q at *;obtain ⟨l0,f0⟩:=hR1.at0 (j:=0) rfl;obtain ⟨l1,f1⟩:=hR1.at0 (j:=1) rfl;obtain ⟨l2,f2⟩:=hR1.at0 (j:=2) rfl;obtain ⟨l3,f3⟩:=hR1.at0 (j:=3) rfl;have hW:Hid (xt W ((((W.setCell ⟨w1.heap.size,0,none⟩ (.int .i64 x.2.2.rc.kind)).setCell ⟨w1.heap.size,1,none⟩ (.int .i64 x.2.2.rc.seq)).setCell ⟨w1.heap.size,2,none⟩ (.int .i64 x.2.2.rc.addr)).setCell ⟨w1.heap.size,3,none⟩ (.int .i64 x.2.2.rc.val)) w1.heap.size 0 x.2.2.rc.vs):=Qv hR1 x.2.2.rc;have hbad:∀ P:Prop,(P->False)->(x.2.2.state = 1∧x.2.2.rc.addr = a∧q.seq < x.2.2.rc.seq->P)->Hid (lrOf a (pre ++ [x]) = q):=fun P h1 h2=>by
       rw [Hid,hst.out];unfold zai zz;rw [if_neg (fun e=>h1 (h2 e))]
      by_cases h1:x.2.2.state = 1
      . by_cases h2:x.2.2.rc.addr = a
        . by_cases hc:q.seq < x.2.2.rc.seq
          . have hs2:Hid (lrOf a (pre ++ [x]) = x.2.2.rc):=by rw [Hid,hst.out];unfold zai zz;rw [if_pos ⟨h1,h2,hc⟩]
            rw [h1] at x0;rw [h2] at x3 hW;clear hst hbad h1
            gi_wp2
            refine ⟨((((KeepsOthers.setCell _ _ _).trans (KeepsOthers.setCell _ _ _)).trans (KeepsOthers.setCell _ _ _)).trans (KeepsOthers.setCell _ _ _)).from _,((((Below.refl _ W).setCell (p:=⟨w1.heap.size,0,none⟩) nl _).setCell (p:=⟨w1.heap.size,1,none⟩) nl _).setCell (p:=⟨w1.heap.size,2,none⟩) nl _).setCell (p:=⟨w1.heap.size,3,none⟩) nl _,by rw [hs2.out];exact hW.out.rec_ hR1,(((hB2.setCell (p:=⟨w1.heap.size,0,none⟩) nl _).setCell (p:=⟨w1.heap.size,1,none⟩) nl _).setCell (p:=⟨w1.heap.size,2,none⟩) nl _).setCell (p:=⟨w1.heap.size,3,none⟩) nl _⟩
          have hs2:=hbad _ hc (fun e=>e.2.2);rw [h1] at x0;rw [h2] at x3;clear hst hbad h1 hW
          gi_wp2
          exact ⟨KeepsFrom.refl _ _,Below.refl _ _,by rw [hs2.out];exact hR1,hB2⟩
        have hs2:=hbad _ h2 (fun e=>e.2.1);have h2':(x.2.2.rc.addr == a) = false:=by simpa using h2
        rw [h1] at x0;clear hst hbad h1 hW
        gi_wp2
        exact ⟨KeepsFrom.refl _ _,Below.refl _ _,by rw [hs2.out];exact hR1,hB2⟩
      have hs2:=hbad _ h1 (fun e=>e.1);have h1':(x.2.2.state == 1) = false:=by simpa using h1
      clear hst hbad hW
      gi_wp2
      exact ⟨KeepsFrom.refl _ _,Below.refl _ _,by rw [hs2.out];exact hR1,hB2⟩
     case done =>
      rintro D ys W hD rfl ⟨hR1,hB2⟩ hK;rw [zls] at hR1;generalize last f a = q at *;obtain ⟨l0,f0⟩:=hR1.at0 (j:=0) rfl;obtain ⟨l1,f1⟩:=hR1.at0 (j:=1) rfl;obtain ⟨l2,f2⟩:=hR1.at0 (j:=2) rfl;obtain ⟨l3,f3⟩:=hR1.at0 (j:=3) rfl;have rr0:=(hB2.cell (p:=⟨w.heap.size + 1,0,none⟩) (by show w.heap.size + 1 < _;omega)).trans r0;have rr1:=(hB2.cell (p:=⟨w.heap.size + 1,1,none⟩) (by show w.heap.size + 1 < _;omega)).trans r1;have rr2:=(hB2.cell (p:=⟨w.heap.size + 1,2,none⟩) (by show w.heap.size + 1 < _;omega)).trans r2;have rr3:=(hB2.cell (p:=⟨w.heap.size + 1,3,none⟩) (by show w.heap.size + 1 < _;omega)).trans r3;have qq0:=(hB2.frozen (p:=⟨w.heap.size + 1,0,none⟩) (by show w.heap.size + 1 < _;omega)).trans q0;have qq1:=(hB2.frozen (p:=⟨w.heap.size + 1,1,none⟩) (by show w.heap.size + 1 < _;omega)).trans q1;have qq2:=(hB2.frozen (p:=⟨w.heap.size + 1,2,none⟩) (by show w.heap.size + 1 < _;omega)).trans q2;have qq3:=(hB2.frozen (p:=⟨w.heap.size + 1,3,none⟩) (by show w.heap.size + 1 < _;omega)).trans q3
      gi_wp2
      gi_region
      gi_wp2
      have hK':((((W.setCell ⟨w.heap.size + 1,0,none⟩ (.int .i64 q.kind)).setCell ⟨w.heap.size + 1,1,none⟩ (.int .i64 q.seq)).setCell ⟨w.heap.size + 1,2,none⟩ (.int .i64 q.addr)).setCell ⟨w.heap.size + 1,3,none⟩ (.int .i64 q.val)).drew.heap[D]? = some (.deferred (some [])):=by
       show ((((W.setCell ⟨w.heap.size + 1,0,none⟩ (.int .i64 q.kind)).setCell ⟨w.heap.size + 1,1,none⟩ (.int .i64 q.seq)).setCell ⟨w.heap.size + 1,2,none⟩ (.int .i64 q.addr)).setCell ⟨w.heap.size + 1,3,none⟩ (.int .i64 q.val)).heap[D]? = _;rw [Below.heap_setCell _ _ _ _ (by simp;omega),Below.heap_setCell _ _ _ _ (by simp;omega),Below.heap_setCell _ _ _ _ (by simp;omega),Below.heap_setCell _ _ _ _ (by simp;omega)];exact hK
      have hBW:Below w.heap.size w ((((W.setCell ⟨w.heap.size + 1,0,none⟩ (.int .i64 q.kind)).setCell ⟨w.heap.size + 1,1,none⟩ (.int .i64 q.seq)).setCell ⟨w.heap.size + 1,2,none⟩ (.int .i64 q.addr)).setCell ⟨w.heap.size + 1,3,none⟩ (.int .i64 q.val)).drew:=(((((hB1.trans (hB2.mono hB1.size)).setCell (p:=⟨w.heap.size + 1,0,none⟩) (by show w.heap.size ≤ w.heap.size + 1;omega) _).setCell (p:=⟨w.heap.size + 1,1,none⟩) (by show w.heap.size ≤ w.heap.size + 1;omega) _).setCell (p:=⟨w.heap.size + 1,2,none⟩) (by show w.heap.size ≤ w.heap.size + 1;omega) _).setCell (p:=⟨w.heap.size + 1,3,none⟩) (by show w.heap.size ≤ w.heap.size + 1;omega) _).drew;have hRow:Row W (some ⟨w.heap.size + 1,0,none⟩) rc0.vs:=fun _=>⟨_,_,rfl,fun j u hj=>by
       match j,hj with
       | 0,hj=>simp [Rc.vs,rc0] at hj;subst hj;exact ⟨rr0,qq0⟩
       | 1,hj=>simp [Rc.vs,rc0] at hj;subst hj;exact ⟨rr1,qq1⟩
       | 2,hj=>simp [Rc.vs,rc0] at hj;subst hj;exact ⟨rr2,qq2⟩
       | 3,hj=>simp [Rc.vs,rc0] at hj;subst hj;exact ⟨rr3,qq3⟩
       | n + 4,hj=>simp [Rc.vs] at hj⟩
      have hWr:xt W ((((W.setCell ⟨w.heap.size + 1,0,none⟩ (.int .i64 q.kind)).setCell ⟨w.heap.size + 1,1,none⟩ (.int .i64 q.seq)).setCell ⟨w.heap.size + 1,2,none⟩ (.int .i64 q.addr)).setCell ⟨w.heap.size + 1,3,none⟩ (.int .i64 q.val)) (w.heap.size + 1) 0 q.vs:=Qv hRow q;have v0:((((W.setCell ⟨w.heap.size + 1,0,none⟩ (.int .i64 q.kind)).setCell ⟨w.heap.size + 1,1,none⟩ (.int .i64 q.seq)).setCell ⟨w.heap.size + 1,2,none⟩ (.int .i64 q.addr)).setCell ⟨w.heap.size + 1,3,none⟩ (.int .i64 q.val)).drew.cell? ⟨w.heap.size + 1,0,none⟩ = some (.int .i64 q.kind):=hWr.new_ 0 _ rfl;have v1:((((W.setCell ⟨w.heap.size + 1,0,none⟩ (.int .i64 q.kind)).setCell ⟨w.heap.size + 1,1,none⟩ (.int .i64 q.seq)).setCell ⟨w.heap.size + 1,2,none⟩ (.int .i64 q.addr)).setCell ⟨w.heap.size + 1,3,none⟩ (.int .i64 q.val)).drew.cell? ⟨w.heap.size + 1,1,none⟩ = some (.int .i64 q.seq):=hWr.new_ 1 _ rfl;have v2:((((W.setCell ⟨w.heap.size + 1,0,none⟩ (.int .i64 q.kind)).setCell ⟨w.heap.size + 1,1,none⟩ (.int .i64 q.seq)).setCell ⟨w.heap.size + 1,2,none⟩ (.int .i64 q.addr)).setCell ⟨w.heap.size + 1,3,none⟩ (.int .i64 q.val)).drew.cell? ⟨w.heap.size + 1,2,none⟩ = some (.int .i64 q.addr):=hWr.new_ 2 _ rfl;have v3:((((W.setCell ⟨w.heap.size + 1,0,none⟩ (.int .i64 q.kind)).setCell ⟨w.heap.size + 1,1,none⟩ (.int .i64 q.seq)).setCell ⟨w.heap.size + 1,2,none⟩ (.int .i64 q.addr)).setCell ⟨w.heap.size + 1,3,none⟩ (.int .i64 q.val)).drew.cell? ⟨w.heap.size + 1,3,none⟩ = some (.int .i64 q.val):=hWr.new_ 3 _ rfl;have hzV:w.heap.size + 1 < ((((W.setCell ⟨w.heap.size + 1,0,none⟩ (.int .i64 q.kind)).setCell ⟨w.heap.size + 1,1,none⟩ (.int .i64 q.seq)).setCell ⟨w.heap.size + 1,2,none⟩ (.int .i64 q.addr)).setCell ⟨w.heap.size + 1,3,none⟩ (.int .i64 q.val)).drew.heap.size:=by have:=hB2.size;simp;omega
      refine ⟨by simp, .inl ⟨_,_,rfl,run_takeDeferred hK', ?_⟩⟩;obtain ⟨V,hV⟩:∃ V,((((W.setCell ⟨w.heap.size + 1,0,none⟩ (.int .i64 q.kind)).setCell ⟨w.heap.size + 1,1,none⟩ (.int .i64 q.seq)).setCell ⟨w.heap.size + 1,2,none⟩ (.int .i64 q.addr)).setCell ⟨w.heap.size + 1,3,none⟩ (.int .i64 q.val)).drew = V:=⟨_,rfl⟩;clear hWr;rw [hV] at hK' hBW v0 v1 v2 v3 hzV ⊢;have cX:∀ o,(V.putObj D (.deferred none)).cell? ⟨w.heap.size + 1,o,none⟩ = V.cell? ⟨w.heap.size + 1,o,none⟩:=fun o=>World.cell?_of_block (a:=⟨w.heap.size + 1,o,none⟩) (World.putObj_heap_other (by show w.heap.size + 1 ≠ D;omega));replace v0:=(cX 0).trans v0;replace v1:=(cX 1).trans v1;replace v2:=(cX 2).trans v2;replace v3:=(cX 3).trans v3;have hBX:=hBW.trans (belowK_b (w:=w) nl V D _ (.deferred none) (by omega) hK' rfl rfl);have hzX:w.heap.size + 1 < (V.putObj D (.deferred none)).heap.size:=by simpa using hzV
      generalize V.putObj D (.deferred none) = X at *;exact ⟨.tuple #[rcA q, .bool (decide (0 < q.seq))],by simp [results,Tryz.results110,go_sem,hzX,v0,v1,v2,v3,rcA],by rw [hfin.out],hBX⟩
     case stop =>
      rintro D c pre W _ _ h _;exact h.elim
   have hok':ze f = false:=by simpa using hok
   have hfin:Hid (jy f a = (rc0,false)):=by unfold Hid jy;rw [if_neg (fun e=>hok e.2)]
   have hFc:∀ w,Fl w A f->Hid (Calls Tryz.prog 29 #[.slice A f.length c] w fun e w'=>e = .returned (.bool false)∧Below w.heap.size w w'):=fun w h=>by have:=xh f A c w h;rw [hok'] at this;exact this
   clear ha hok hok'
   gi_wp2_with (first | (refine ⟨trivial, ?_⟩;gi_at_call 74;refine (callsIn_wide.2 (hAc _).out).mono ?_;rintro e w0 ⟨rfl,rfl⟩) | (refine ⟨trivial, ?_⟩;gi_at_call 29;refine (callsIn_wide.2 (hFc _ ((hF.alloc _).alloc _)).out).mono ?_;rintro e w1 ⟨rfl,hb1⟩;obtain ⟨hc1,hf1⟩:=qv hb1;have r0:w1.cell? ⟨w.heap.size + 1,0,none⟩ = some (.int .i64 0):=(hc1 _ _ (by simp)).trans (by simp);have q0:w1.frozen? ⟨w.heap.size + 1,0,none⟩ = false:=(hf1 _ _ (by simp)).trans (by simp);have r1:w1.cell? ⟨w.heap.size + 1,1,none⟩ = some (.int .i64 0):=(hc1 _ _ (by simp)).trans (by simp);have q1:w1.frozen? ⟨w.heap.size + 1,1,none⟩ = false:=(hf1 _ _ (by simp)).trans (by simp);have r2:w1.cell? ⟨w.heap.size + 1,2,none⟩ = some (.int .i64 0):=(hc1 _ _ (by simp)).trans (by simp);have q2:w1.frozen? ⟨w.heap.size + 1,2,none⟩ = false:=(hf1 _ _ (by simp)).trans (by simp);have r3:w1.cell? ⟨w.heap.size + 1,3,none⟩ = some (.int .i64 0):=(hc1 _ _ (by simp)).trans (by simp);have q3:w1.frozen? ⟨w.heap.size + 1,3,none⟩ = false:=(hf1 _ _ (by simp)).trans (by simp);have b0:w1.cell? ⟨w.heap.size,0,none⟩ = some (.int .i64 a):=(hc1 _ _ (by simp <;> omega)).trans (by simp);have hs1:w.heap.size + 2 ≤ w1.heap.size:=(by have:=hb1.size;simp at this;omega);clear hc1 hf1))
   have hz:w.heap.size + 1 < w1.heap.size:=by omega
   have hB1:Below w.heap.size w w1:=Below.trans bw (hb1.mono (by simp;omega));clear hb1;refine ⟨.tuple #[rcA rc0, .bool false],by simp [results,Tryz.results110,go_sem,hz,r0,r1,r2,r3,rcA,rc0],by rw [hfin.out], ?_⟩;exact bw
 have ha':jk a = false:=by simpa using ha
 have hfin:Hid (jy f a = (rc0,false)):=by unfold Hid jy;rw [if_neg (fun e=>ha e.1)]
 have hAc:∀ w,Hid (Calls Tryz.prog 74 #[.int .i64 a] w fun e w'=>e = .returned (.bool false)∧w = w'):=fun w=>by have:=Xb a w;rw [ha'] at this;exact this
 clear ha ha'
 gi_wp2_with (first | (refine ⟨trivial, ?_⟩;gi_at_call 74;refine (callsIn_wide.2 (hAc _).out).mono ?_;rintro e w1 ⟨rfl,rfl⟩) | (refine ⟨trivial, ?_⟩))
 refine ⟨.tuple #[rcA rc0, .bool false],by simp [results,Tryz.results110,go_sem,rcA,rc0],by rw [hfin.out], ?_⟩;exact bw
end
end Go.Proofs.YtclnogfmmekooaaGreat
open Go.RowKit Go.IntWalk Go.Maps
namespace Go.Proofs.YtclnogfmmekooaaGreat
section
theorem zjv {f:List Bk} (hok:ze f = true) {b:Bk} (hb:b ∈ f) {p:Pg} (hp:p ∈ b.pages) (h1:p.state = 1):jy f p.rc.addr = (last f p.rc.addr,true):=by
 have hr:=xk ((xi hok hb).2.2.2 p hp) h1;have ha:=xx hr;have hm:=Xa (f:=f) (r:=p.rc) ⟨b,hb,p,hp,h1,rfl⟩;unfold jy;rw [if_pos ⟨Ka.2 ⟨ha.1,ha.2.1⟩,hok⟩];congr 1;simp;omega
theorem zdw (f:List Bk) (i j:Nat) (b:Bk) (p:Pg) (A:Option Addr) (n c:Nat) (w:World) (hn:n = f.length) (hok:ze f = true) (hb:f[i]? = some b) (hp:b.pages[j]? = some p) (hF:Fl w A f) :
 Calls Tryz.prog 65 #[.slice A n c, .int .i64 i, .int .i64 j] w fun e w'=>e = .returned (.bool (live f p))∧Below w.heap.size w w':=by
 subst hn;have hl:=zh hok;have hl4:=(zo hok b (List.mem_of_getElem? hb)).1;have hi:i < 4:=by rw [← hl];exact (List.getElem?_eq_some_iff.1 hb).1
 have hj:j < 4:=by rw [← hl4];exact (List.getElem?_eq_some_iff.1 hp).1
 have hbo:j9 i = true:=Kk.2 (by omega);have hFc:∀ w,Fl w A f->Hid (Calls Tryz.prog 29 #[.slice A f.length c] w fun e w'=>e = .returned (.bool true)∧Below w.heap.size w w'):=fun w h=>by have:=xh f A c w h;rw [hok] at this;exact this
 have hBc:∀ w,Hid (Calls Tryz.prog 75 #[.int .i64 i] w fun e w'=>e = .returned (.bool true)∧w = w'):=fun w=>by have:=yf i w;rw [hbo] at this;exact this
 have hFL:p.state = 1->Hid (jy f p.rc.addr = (last f p.rc.addr,true)):=fun h=>zjv hok (List.mem_of_getElem? hb) (List.mem_of_getElem? hp) h;have hil:(i:Int) < f.length:=by omega
 have hj4:(j:Int) < 4:=by omega
 have hjl:(j:Int) < b.pages.length:=by omega
 have HL:=Lib.hid hl;clear hok hbo hl hl4
 go_enter Tryz.func65,Tryz.ntmps65
 go_wp2_with fail
 refine (hFc _ hF).out.mono ?_;rintro e w1 ⟨rfl,hb1⟩;have hF1:=hF.below hb1 nl;obtain ⟨hs,hBk⟩:=hF1;obtain ⟨g,o,rfl⟩:=hBk.addr (by rintro rfl;simp at hb);obtain ⟨⟨Z,cz⟩,_,z0,z1,_,_,hR,_⟩:=hBk.at_ hb;dsimp only at z0 hR;obtain ⟨pb,po,rfl⟩:=hR.addr (ky (by intro e;rw [e] at hp;simp at hp));obtain ⟨c0,c1,c2,c3,c4⟩:=hR.pg hp;have HB:=Lib.hid hb;have HP:=Lib.hid hp;clear hb hp;by_cases h1:p.state = 1
 . have hfl:=hFL h1;have hfin:Hid (live f p = decide (last f p.rc.addr = p.rc)):=by unfold Hid live;simp [h1]
   rw [h1] at c0;clear h1 hFL;go_wp2_with (go_at_call 75;refine (hBc _).out.mono ?_;rintro e w2 ⟨rfl,rfl⟩)
   have hFx:Fl (w1.alloc (.cells #[.int .i64 1, .int .i64 p.rc.kind, .int .i64 p.rc.seq, .int .i64 p.rc.addr, .int .i64 p.rc.val] 76)) (some ⟨g,o,none⟩) f:=Fl.alloc ⟨hs,hBk⟩ _;refine (zdx f p.rc.addr _ _ c _ rfl hFx).mono ?_;rintro e w3 ⟨rfl,hb3⟩;rw [hfl.out];have hB3:Below w.heap.size w w3:=(hb1.alloc hb1.size _).trans (hb3.mono (by have:=hb1.size;simp;omega));obtain ⟨hc,hfz⟩:=qv hb3;have hs3:w1.heap.size + 1 ≤ w3.heap.size:=by have:=hb3.size;simpa using this
   have x1:w3.cell? ⟨w1.heap.size,1,none⟩ = some (.int .i64 p.rc.kind):=(hc _ _ (by simp)).trans (by simp);have x2:w3.cell? ⟨w1.heap.size,2,none⟩ = some (.int .i64 p.rc.seq):=(hc _ _ (by simp)).trans (by simp);have x3:w3.cell? ⟨w1.heap.size,3,none⟩ = some (.int .i64 p.rc.addr):=(hc _ _ (by simp)).trans (by simp);have x4:w3.cell? ⟨w1.heap.size,4,none⟩ = some (.int .i64 p.rc.val):=(hc _ _ (by simp)).trans (by simp);have hle:Hid (decide (last f p.rc.addr = p.rc) = (decide ((last f p.rc.addr).kind = p.rc.kind) && (decide ((last f p.rc.addr).seq = p.rc.seq) && (decide ((last f p.rc.addr).addr = p.rc.addr) && decide ((last f p.rc.addr).val = p.rc.val))))):=by
    unfold Hid;generalize last f p.rc.addr = x;obtain ⟨a,b,c,d⟩:=x;obtain ⟨st,e,g,h,i⟩:=p;simp [Bool.and_assoc]
   generalize last f p.rc.addr = x at *;have hne:w1.heap.size < w3.heap.size:=by omega
   unfold rcA;clear hb3 hc hfz hBk hR z0 z1 c0 c1 c2 c3 c4 hFx hFc hBc;go_wp2;all_goals go_ret
   all_goals exact ⟨zg (by rw [hfin.out,hle.out];simp [*]),hB3.alloc hB3.size _⟩
 have hfin:Hid (live f p = false):=by unfold Hid live;simp [h1]
 have h1':(p.state == 1) = false:=by simpa using h1
 clear hFL;go_wp2_with (go_at_call 75;refine (hBc _).out.mono ?_;rintro e w2 ⟨rfl,rfl⟩)
 go_ret;exact ⟨zg hfin.out.symm,hb1.alloc hb1.size _⟩
theorem OwnS.nul (w:World) (base:Nat):OwnS w base (.slice none 0 0) []:=World.ownsRow_nil w base _ _
theorem OwnS.one (w:World) (base:Nat) (hb:base ≤ w.heap.size) (x:Sp):OwnS (w.alloc (.cells #[.int .i64 x.kind, .int .i64 x.addr, .int .i64 x.val, .int .i64 x.block, .int .i64 x.rc.kind, .int .i64 x.rc.seq, .int .i64 x.rc.addr, .int .i64 x.rc.val] 81)) base (.slice (some ⟨w.heap.size,0,none⟩) 1 1) [x]:=World.ownsRow_lit w #[.int .i64 x.kind, .int .i64 x.addr, .int .i64 x.val, .int .i64 x.block, .int .i64 x.rc.kind, .int .i64 x.rc.seq, .int .i64 x.rc.addr, .int .i64 x.rc.val] 1 hb (by unfold maxLen;omega) rfl
theorem zao (f:List Bk) (kind addr val:Int) (A:Option Addr) (n c:Nat) (w:World) (hn:n = f.length) (hok:ze f = true) (hF:Fl w A f) :
 Calls Tryz.prog 36 #[.slice A n c, .int .i64 kind, .int .i64 addr, .int .i64 val] w fun e w'=>∃ v,e = .returned v∧OwnS w' w.heap.size v (wr f kind addr val)∧Below w.heap.size w w':=by
 subst hn;obtain ⟨ib,hib,hbz0,hbz1,hbz2⟩:=info_parts Tryz.info3_step;have HL:=Lib.hid (zh hok);have HOK:=Lib.hid hok;have hFN:∀ w,Fl w A f->Hid (Calls Tryz.prog 15 #[.slice A f.length c] w fun e w'=>e = .returned (.int .i64 (next f))∧Below w.heap.size w w'):=fun w h=>by have:=Jo f A _ c w rfl h;rw [za1 hok] at this;exact this
 have hFO:∀ w,Fl w A f->Hid (Calls Tryz.prog 63 #[.slice A f.length c] w fun e w'=>e = .returned (.tuple #[.int .i64 (jd f).1, .bool (jd f).2])∧Below w.heap.size w w'):=fun w h=>by have:=zdv f A _ c w rfl h;unfold Xf at this;rw [if_pos hok] at this;exact this
 have hFD:∀ w,Fl w A f->Hid (Calls Tryz.prog 64 #[.slice A f.length c] w fun e w'=>e = .returned (.int .i64 (old f:Nat))∧Below w.heap.size w w'):=fun w h=>by have:=zfm f A _ c w rfl h;rw [za0 hok] at this;exact this
 have hfin:Hid (wr f kind addr val = if (room f).2.2 = false∨xj ⟨kind,next f,addr,val⟩ = false then [] else (room f).1 ++ [⟨3,0,0,(room f).2.1,⟨kind,next f,addr,val⟩⟩]):=rfl;have hroom:Hid (room f = if (jd f).2 then ([],(jd f).1,true) else (tells f (f.getD (old f) zbk).pages ++ [⟨2,0,0,old f,rc0⟩],(old f:Int),decide ((f.getD (old f) zbk).worn < 200))):=rfl;have hol:=zad (zh hok);have hwl:∀ b ∈ f,b.worn ≤ 200:=fun b hb=>(xi hok hb).2.1.2;have hpl:∀ b ∈ f,b.pages.length = 4:=fun b hb=>(xi hok hb).1;clear hok
 go_enter Tryz.func36,Tryz.ntmps36
 go_wp2_with fail
 refine (hFN _ hF).out.mono ?_;rintro e w1 ⟨rfl,hb1⟩;generalize next f = nx at *;clear hFN;go_wp2_with fail
 refine (Ke ⟨kind,nx,addr,val⟩ _).mono ?_;rintro e w2 ⟨rfl,hb2⟩;obtain ⟨hc,hfz⟩:=qv hb2;have r0:w2.cell? ⟨w1.heap.size,0,none⟩ = some (.int .i64 kind):=(hc _ _ (by simp)).trans (by simp);have r1:w2.cell? ⟨w1.heap.size,1,none⟩ = some (.int .i64 nx):=(hc _ _ (by simp)).trans (by simp);have r2:w2.cell? ⟨w1.heap.size,2,none⟩ = some (.int .i64 addr):=(hc _ _ (by simp)).trans (by simp);have r3:w2.cell? ⟨w1.heap.size,3,none⟩ = some (.int .i64 val):=(hc _ _ (by simp)).trans (by simp);have hB2:Below w.heap.size w w2:=(hb1.alloc hb1.size _).trans (hb2.mono (by have:=hb1.size;simp;omega));have hs1:=hb1.size;have hs2:w1.heap.size + 1 ≤ w2.heap.size:=by have:=hb2.size;simpa using this
 clear hc hfz hb2 hb1;by_cases hr:xj ⟨kind,nx,addr,val⟩ = true
 . have hfin2:Hid (wr f kind addr val = if (room f).2.2 = false then [] else (room f).1 ++ [⟨3,0,0,(room f).2.1,⟨kind,nx,addr,val⟩⟩]):=by
    rw [Hid,hfin.out,hr];simp
   rw [hr];clear hr hfin;go_wp2_with fail
   refine (hFO _ (hF.below hB2 nl)).out.mono ?_;rintro e w3 ⟨rfl,hb3⟩;replace r0:=(hb3.cell (p:=⟨w1.heap.size,0,none⟩) (by show w1.heap.size < _;omega)).trans r0;replace r1:=(hb3.cell (p:=⟨w1.heap.size,1,none⟩) (by show w1.heap.size < _;omega)).trans r1;replace r2:=(hb3.cell (p:=⟨w1.heap.size,2,none⟩) (by show w1.heap.size < _;omega)).trans r2;replace r3:=(hb3.cell (p:=⟨w1.heap.size,3,none⟩) (by show w1.heap.size < _;omega)).trans r3;have hs3:=hb3.size;have hB3:=hB2.trans (hb3.mono hB2.size);clear hb3 hB2 hFO;generalize jd f = ob at *;obtain ⟨bi,bo⟩:=ob;dsimp only at *;cases bo
   . rw [if_neg (by decide)] at hroom;go_wp2_with fail
     refine (hFD _ (hF.below hB3 nl)).out.mono ?_;rintro e w4 ⟨rfl,hb4⟩;replace r0:=(hb4.cell (p:=⟨w1.heap.size,0,none⟩) (by show w1.heap.size < _;omega)).trans r0;replace r1:=(hb4.cell (p:=⟨w1.heap.size,1,none⟩) (by show w1.heap.size < _;omega)).trans r1;replace r2:=(hb4.cell (p:=⟨w1.heap.size,2,none⟩) (by show w1.heap.size < _;omega)).trans r2;replace r3:=(hb4.cell (p:=⟨w1.heap.size,3,none⟩) (by show w1.heap.size < _;omega)).trans r3;have hs4:=hb4.size;have hB4:=hB3.trans (hb4.mono hB3.size);clear hb4 hB3 hFD;generalize old f = i at *;have h4:=HL.out;obtain ⟨B,hBf⟩:=zc (l:=f) (k:=i) (by omega);rw [Xd hBf] at hroom;have hbm:=List.mem_of_getElem? hBf;have hw2:=hwl B hbm;have HB4:=Lib.hid (hpl B hbm);have HB:=Lib.hid hBf;have hi4:(i:Int) < f.length:=by omega
     obtain ⟨hs,hBk⟩:=hF.below hB4 nl;obtain ⟨g,o,rfl⟩:=hBk.addr (by intro e;rw [e] at hBf;simp at hBf);obtain ⟨⟨Ap,cp⟩,_,z0,z1,_,_,hR,_⟩:=hBk.at_ hBf;dsimp only at z0 hR;clear hBf hbm h4 hol hwl hpl hBk;by_cases hw:B.worn = 200
     . have h3:Hid (wr f kind addr val = []):=by rw [Hid,hfin2.out,hroom.out,hw];rfl
       rw [hw] at z1;clear hw hw2;go_wp2;go_ret;rw [h3.out];exact ⟨_,rfl,OwnS.nul _ _,hB4⟩
     have h3:Hid (wr f kind addr val = (tells f B.pages ++ [⟨2,0,0,i,rc0⟩]) ++ [⟨3,0,0,i,⟨kind,nx,addr,val⟩⟩]):=by
      rw [Hid,hfin2.out,hroom.out];dsimp only;rw [if_neg (by simp;omega)]
     have hw':(B.worn == 200) = false:=by simpa using hw
     have hT:Hid (tells f B.pages = [] ++ tells f (B.pages.drop 0)):=rfl;clear hfin2 hroom hw hw2;rw [HB4.out] at z0;go_wp2
     go_loopw [13,49] (fun u q wr=>∃ (k:Nat) (xs:List Sp) (v:Value),k ≤ 4∧q = .int .i64 k∧v = u∧xs.length ≤ k∧OwnS wr w4.heap.size v xs∧Below w4.heap.size w4 wr∧Below w.heap.size w wr∧Hid (tells f B.pages = xs ++ tells f (B.pages.drop k))) (fun _ q _=>4 - (intOf q).toNat)
     case atStart=>exact ⟨0,[],_,by omega,rfl,rfl,by simp,OwnS.nul _ _,Below.refl _ _,hB4,hT⟩
     case round =>
      clear hT;obtain ⟨k,xs,v,hk,rfl,rfl,hxk,hO,hb,hB,hT⟩:=hrel;replace r0:=(hb.cell (p:=⟨w1.heap.size,0,none⟩) (by show w1.heap.size < _;omega)).trans r0;replace r1:=(hb.cell (p:=⟨w1.heap.size,1,none⟩) (by show w1.heap.size < _;omega)).trans r1;replace r2:=(hb.cell (p:=⟨w1.heap.size,2,none⟩) (by show w1.heap.size < _;omega)).trans r2;replace r3:=(hb.cell (p:=⟨w1.heap.size,3,none⟩) (by show w1.heap.size < _;omega)).trans r3;have hsr:=hb.size;have hRr:=hR.below hb nl;by_cases hlt:k < 4
      . obtain ⟨p,hq⟩:=zc (l:=B.pages) (k:=k) (by have:=HB4.out;omega);obtain ⟨pb,po,rfl⟩:=hRr.addr (ky (by intro e;rw [e] at hq;simp at hq));obtain ⟨c0,c1,c2,c3,c4⟩:=hRr.pg hq;have hT1:Hid (tells f B.pages = (if told f p then xs ++ [Zt p] else xs) ++ tells f (B.pages.drop (k + 1))):=by rw [Hid,hT.out,zr hq,zbt]
        have htd:Hid (told f p = (live f p && decide (p.rc.kind = 1))):=rfl;have hk4:(k:Int) < 4:=by omega
        have HQ:=Lib.hid hq;have hFL:∀ w,Fl w (some ⟨g,o,none⟩) f->Hid (Calls Tryz.prog 65 #[.slice (some ⟨g,o,none⟩) f.length c, .int .i64 i, .int .i64 k] w fun e w'=>e = .returned (.bool (live f p))∧Below w.heap.size w w'):=fun w h=>zdw f i k B p _ _ c w rfl HOK.out HB.out HQ.out h;have e1:IntKind.i64.wrap ((k:Int) + 1) = (k:Int) + 1:=IntWalk.i64_in _ (by omega);clear hq hT hR hRr;go_wp2_with fail
        refine (Y2 p.rc _).mono ?_;rintro e w5 ⟨rfl,hb5⟩;have hBa:=(Below.refl wr.heap.size wr).alloc nl (.cells #[.int .i64 p.state, .int .i64 p.rc.kind, .int .i64 p.rc.seq, .int .i64 p.rc.addr, .int .i64 p.rc.val] 76);obtain ⟨hc,hfz⟩:=qv hb5;have p1:w5.cell? ⟨wr.heap.size,1,none⟩ = some (.int .i64 p.rc.kind):=(hc _ _ (by simp)).trans (by simp);have p2:w5.cell? ⟨wr.heap.size,2,none⟩ = some (.int .i64 p.rc.seq):=(hc _ _ (by simp)).trans (by simp);have p3:w5.cell? ⟨wr.heap.size,3,none⟩ = some (.int .i64 p.rc.addr):=(hc _ _ (by simp)).trans (by simp);have p4:w5.cell? ⟨wr.heap.size,4,none⟩ = some (.int .i64 p.rc.val):=(hc _ _ (by simp)).trans (by simp);have hs5:wr.heap.size + 1 ≤ w5.heap.size:=by have:=hb5.size;simpa using this
        have hB5:Below wr.heap.size wr w5:=hBa.trans (hb5.mono (by simp));have hO5:=hO.below hB5 nl;clear hc hfz hb5 hBa hO c0 c1 c2 c3 c4;by_cases hk1:p.rc.kind = 1
        . rw [show decide (p.rc.kind = 1) = true by simpa using hk1];have hk1':=Lib.hid hk1;rw [hk1] at p1;clear hk1;go_wp2_with fail
          refine (hFL _ (hF.below (hB.trans (hB5.mono hB.size)) nl)).out.mono ?_;rintro e w6 ⟨rfl,hb6⟩;replace p1:=(hb6.cell (p:=⟨wr.heap.size,1,none⟩) (by show wr.heap.size < _;omega)).trans p1;replace p2:=(hb6.cell (p:=⟨wr.heap.size,2,none⟩) (by show wr.heap.size < _;omega)).trans p2;replace p3:=(hb6.cell (p:=⟨wr.heap.size,3,none⟩) (by show wr.heap.size < _;omega)).trans p3;replace p4:=(hb6.cell (p:=⟨wr.heap.size,4,none⟩) (by show wr.heap.size < _;omega)).trans p4;have hs6:=hb6.size;have hB6:=hB5.trans (hb6.mono hB5.size);have hO6:=hO5.below hb6 nl;clear hO5 hB5 hb6 hFL;generalize live f p = lv at *;cases lv
          . have hT2:Hid (tells f B.pages = xs ++ tells f (B.pages.drop (k + 1))):=by
             rw [Hid,hT1.out,if_neg (by rw [htd.out];simp)]
            clear hT1 htd;go_wp2;go_roundw
            case rel=>exact ⟨k + 1,xs,v,by omega,by go_num,rfl,by omega,hO6,hb.trans (hB6.mono hsr),hB.trans (hB6.mono hB.size),hT2⟩
            case measure=>simp [intOf];omega
          have hT2:Hid (tells f B.pages = (xs ++ [Zt p]) ++ tells f (B.pages.drop (k + 1))):=by rw [Hid,hT1.out,if_pos (by rw [htd.out,hk1'.out];simp)]
          clear hT1 htd;go_wp2_with fail
          refine (zds ⟨1,p.rc.seq,p.rc.addr,p.rc.val⟩ _).mono ?_;rintro e w7 ⟨rfl,hb7⟩;dsimp only;have hs7:=hb7.size;have hB7:=hB6.trans (hb7.mono hB6.size);have hO7:=(hO6.below hb7 nl).below ((Below.refl w7.heap.size _).alloc nl (.cells #[.int .i64 1, .int .i64 p.rc.addr, .int .i64 p.rc.val, .int .i64 0, .int .i64 0, .int .i64 0, .int .i64 0, .int .i64 0] 81)) nl;have hnb:∀ q,v.ownBlock = some q->w4.heap.size ≤ q:=fun q e=>(World.ownsRow.lt hO7 q e).1;have hBs:=hB.size;clear hO6 hb7 hB6;go_wp2_with (at_builtin;refine wpList_append_lies _ rfl (.tmp 63) (.tmp 67) _ rfl w4.heap.size 81 ib _ 8 64 Tryz.underlying39 hib hbz0 hbz1 hbz2 rfl (by omega) v xs.length (sps xs) rfl hO7 ⟨w7.heap.size,0,none⟩ 1 1 (Zt p).vs rfl rfl (World.news_of_block (cs:=#[.int .i64 1, .int .i64 p.rc.addr, .int .i64 p.rc.val, .int .i64 0, .int .i64 0, .int .i64 0, .int .i64 0, .int .i64 0]) (t:=81) (fr:=(0,0)) (heap_alloc_new w7 _)) (by simp [Value.oneCell',Zt,Sp.vs,rc0]) (by omega) (by unfold maxLen;omega) (by omega) (by simp;omega) (w7.heap.size + 1) (by simp) ?_;intro g2 c2 w8 hown2 hgrow2 hat2 hlt2)
          have hbb:Below w4.heap.size w7 w8:=((Below.refl _ _).alloc (by omega) _).grown hgrow2 (by simp;omega) hnb;have hB8:=(hB7.mono hsr).trans hbb;have hOS:=OwnS.snoc (x:=Zt p) rfl hown2;go_roundw
          case rel=>exact ⟨k + 1,xs ++ [Zt p],_,by omega,by go_num,rfl,by simp;omega,hOS,hb.trans hB8,hB.trans (hB8.mono (by omega)),hT2⟩
          case measure=>simp [intOf];omega
        rw [show decide (p.rc.kind = 1) = false by simpa using hk1];have hT2:Hid (tells f B.pages = xs ++ tells f (B.pages.drop (k + 1))):=by
         rw [Hid,hT1.out,if_neg (by rw [htd.out];simp [hk1])]
        clear hT1 htd hk1;go_wp2;go_roundw
        case rel=>exact ⟨k + 1,xs,v,by omega,by go_num,rfl,by omega,hO5,hb.trans (hB5.mono hsr),hB.trans (hB5.mono hB.size),hT2⟩
        case measure=>simp [intOf];omega
      obtain rfl:k = 4:=by omega
      have hT2:Hid (tells f B.pages = xs):=by
       rw [Hid,hT.out,List.drop_of_length_le (by rw [HB4.out];exact Nat.le_refl _)];simp [tells]
      rw [hT2.out] at h3;have hO1:=hO.below ((Below.refl wr.heap.size _).alloc nl (.cells #[.int .i64 2, .int .i64 0, .int .i64 0, .int .i64 i, .int .i64 0, .int .i64 0, .int .i64 0, .int .i64 0] 81)) nl;have hnb:∀ q,v.ownBlock = some q->w4.heap.size ≤ q:=fun q e=>(World.ownsRow.lt hO q e).1;have hBs:=hB.size;clear hT hR hRr z0 hO;go_wp2_with (first | (at_builtin;refine wpList_append_lies _ rfl (.tmp 70) (.tmp 73) _ rfl w4.heap.size 81 ib _ 8 64 Tryz.underlying39 hib hbz0 hbz1 hbz2 rfl (by omega) v xs.length (sps xs) rfl hO1 ⟨wr.heap.size,0,none⟩ 1 1 (⟨2,0,0,i,rc0⟩:Sp).vs rfl rfl (World.news_of_block (cs:=#[.int .i64 2, .int .i64 0, .int .i64 0, .int .i64 i, .int .i64 0, .int .i64 0, .int .i64 0, .int .i64 0]) (t:=81) (fr:=(0,0)) (heap_alloc_new wr _)) (by simp [Value.oneCell',Sp.vs,rc0]) (by omega) (by unfold maxLen;omega) (by omega) (by simp;omega) (wr.heap.size + 1) (by simp) ?_;intro g2 c2 w8 hown2 hgrow2 hat2 hlt2;have hbb:Below w4.heap.size wr w8:=((Below.refl _ _).alloc (by omega) _).grown hgrow2 (by simp;omega) hnb;have y0:=(hbb.cell (p:=⟨w1.heap.size,0,none⟩) (by show w1.heap.size < _;omega)).trans r0;have y1:=(hbb.cell (p:=⟨w1.heap.size,1,none⟩) (by show w1.heap.size < _;omega)).trans r1;have y2:=(hbb.cell (p:=⟨w1.heap.size,2,none⟩) (by show w1.heap.size < _;omega)).trans r2;have y3:=(hbb.cell (p:=⟨w1.heap.size,3,none⟩) (by show w1.heap.size < _;omega)).trans r3;have hOS:=OwnS.snoc (x:=⟨2,0,0,i,rc0⟩) rfl hown2;have hs8:=hbb.size;have hO2:=hOS.below ((Below.refl w8.heap.size _).alloc nl (.cells #[.int .i64 3, .int .i64 0, .int .i64 0, .int .i64 i, .int .i64 kind, .int .i64 nx, .int .i64 addr, .int .i64 val] 81)) nl;have hnb2:∀ q,(Value.slice (some ⟨g2,0,none⟩) (xs.length + 1) c2).ownBlock = some q->w4.heap.size ≤ q:=fun q e=>(World.ownsRow.lt hOS q e).1;have hlx:(xs ++ [(⟨2,0,0,i,rc0⟩:Sp)]).length = xs.length + 1:=(by simp);unfold OwnS at hO2;rw [hlx] at hO2;clear hown2 hgrow2 hOS hO1) | (at_builtin;refine wpList_append_lies _ rfl (.tmp 75) (.tmp 79) _ rfl w4.heap.size 81 ib _ 8 64 Tryz.underlying39 hib hbz0 hbz1 hbz2 rfl (by omega) (.slice (some ⟨g2,0,none⟩) (xs.length + 1) c2) (xs.length + 1) (sps (xs ++ [⟨2,0,0,i,rc0⟩])) rfl hO2 ⟨w8.heap.size,0,none⟩ 1 1 (⟨3,0,0,i,⟨kind,nx,addr,val⟩⟩:Sp).vs rfl rfl (World.news_of_block (cs:=#[.int .i64 3, .int .i64 0, .int .i64 0, .int .i64 i, .int .i64 kind, .int .i64 nx, .int .i64 addr, .int .i64 val]) (t:=81) (fr:=(0,0)) (heap_alloc_new w8 _)) (by simp [Value.oneCell',Sp.vs]) (by omega) (by unfold maxLen;omega) (by omega) (by simp;omega) (w8.heap.size + 1) (by simp) ?_;intro g3 c3 w9 hown3 hgrow3 hat3 hlt3))
      have hbb2:Below w4.heap.size w8 w9:=((Below.refl _ _).alloc (by omega) _).grown hgrow3 (by simp;omega) hnb2;have hOS:=OwnS.snoc (xs:=xs ++ [⟨2,0,0,i,rc0⟩]) (x:=⟨3,0,0,i,⟨kind,nx,addr,val⟩⟩) rfl (by rw [hlx];exact hown3);rw [hlx] at hOS;go_ret;rw [h3.out];exact ⟨_,rfl,hOS.mono (by omega),hB.trans ((hbb.trans hbb2).mono (by omega))⟩
   rw [if_pos rfl] at hroom;have h3:Hid (wr f kind addr val = [⟨3,0,0,bi,⟨kind,nx,addr,val⟩⟩]):=by rw [Hid,hfin2.out,hroom.out];rfl
   clear hfin2 hroom;go_wp2;go_ret;rw [h3.out];exact ⟨_,rfl,OwnS.one w3 w.heap.size (by omega) ⟨3,0,0,bi,⟨kind,nx,addr,val⟩⟩,hB3.alloc hB3.size _⟩
 have hr':xj ⟨kind,nx,addr,val⟩ = false:=by simpa using hr
 have h3:Hid (wr f kind addr val = []):=by rw [Hid,hfin.out,if_pos (.inr hr')]
 rw [hr'];go_wp2;go_ret;rw [h3.out];exact ⟨_,rfl,OwnS.nul _ _,hB2⟩
end
end Go.Proofs.YtclnogfmmekooaaGreat
open Go.RowKit Go.IntWalk Go.Maps
namespace Go.Proofs.YtclnogfmmekooaaGreat
section
theorem zib {s:St} (h:z8 s = true):s.flash.length = 4∧s.disk.length = 6∧ze s.flash = true∧(∀ b ∈ s.flash,b.pages.length = 4)∧(∀ b ∈ s.flash,most b < 1000000000000):=by
 have k:=xy.1 h;exact ⟨zh k.flash,k.len,k.flash,fun b hb=>(xi k.flash hb).1,J2 (Jr k.flash)⟩
def kt (s:St) (xs:List Sp):List Sp:=if z8 s = true then xs else []
def qf (w:World) (xs:List Sp) (e:Ending) (w':World):Prop:=∃ v,e = .returned v∧OwnS w' w.heap.size v xs∧Below w.heap.size w w'
theorem zdu (s:St) (a v:Int) (A D:Option Addr) (n m c d:Nat) (w:World) (hn:n = s.flash.length) (hm:m = s.disk.length) (hF:Fl w A s.flash) (hD:Row w D (ints s.disk)) :
 Calls Tryz.prog 13 #[.agg #[.slice A n c, .slice D m d], .int .i64 a, .int .i64 v] w (qf w (kt s (wr s.flash 1 a v))):=by
 have hF0:Fl (w.alloc (.cells #[.slice A n c, .slice D m d] 28)) A s.flash:=hF.alloc _;have hD0:Row (w.alloc (.cells #[.slice A n c, .slice D m d] 28)) D (ints s.disk):=hD.alloc _;have hSO:Hid (Calls Tryz.prog 11 #[.agg #[.slice A n c, .slice D m d]] (w.alloc (.cells #[.slice A n c, .slice D m d] 28)) fun e w'=>e = .returned (.bool (z8 s))∧Below (w.alloc (.cells #[.slice A n c, .slice D m d] 28)).heap.size (w.alloc (.cells #[.slice A n c, .slice D m d] 28)) w'):=Zn s A D n m c d _ hn hm hF0 hD0;by_cases hok:z8 s = true
 . have hfin:Hid (kt s (wr s.flash 1 a v) = wr s.flash 1 a v):=by unfold Hid kt;rw [if_pos hok]
   obtain ⟨h4,h6,hfl,hp4,hms⟩:=zib hok;obtain rfl:n = 4:=by omega
   obtain rfl:m = 6:=by omega
   rw [hok] at hSO;have HFL:=Lib.hid hfl;have H4:=Lib.hid h4;have H6:=Lib.hid h6;have HP:=Lib.hid hp4;have HM:=Lib.hid hms;have HOK:=Lib.hid (xy.1 hok);clear hok h4 h6 hfl hp4 hms hm hn
   go_enter Tryz.func13,Tryz.ntmps13
   go_wp2_with fail
   with_reducible refine hSO.out.mono ?_
   rintro e w1 ⟨rfl,hb⟩;have hB:Below w.heap.size w w1:=((Below.refl _ _).alloc nl _).trans (hb.mono (by simp));have hz:w.heap.size < w1.heap.size:=by have:=hb.size;simp at this;omega
   obtain ⟨hc,hfz⟩:=qv hb;have x0:w1.cell? ⟨w.heap.size,0,none⟩ = some (.slice A 4 c):=(hc _ _ (by simp)).trans (by simp);have x1:w1.cell? ⟨w.heap.size,1,none⟩ = some (.slice D 6 d):=(hc _ _ (by simp)).trans (by simp);have hF1:=hF.below hB nl;have hD1:=hD.below hB nl;clear hb hc hfz hSO hF0 hD0;go_wp2_with fail
   refine (zao s.flash 1 a v A _ c _ H4.out.symm HFL.out hF1).mono ?_;rintro e w2 ⟨v,rfl,hO,hb2⟩;go_wp2;go_ret;exact ⟨_,rfl,by rw [hfin.out];exact hO.mono hB.size,hB.trans (hb2.mono hB.size)⟩
 have hfin:Hid (kt s (wr s.flash 1 a v) = []):=by unfold Hid kt;rw [if_neg hok]
 rw [show z8 s = false by simpa using hok] at hSO;clear hok hn hm
 go_enter Tryz.func13,Tryz.ntmps13
 go_wp2_with fail
 with_reducible refine hSO.out.mono ?_
 rintro e w1 ⟨rfl,hb⟩;have hB:Below w.heap.size w w1:=((Below.refl _ _).alloc nl _).trans (hb.mono (by simp));have hz:w.heap.size ≤ w1.heap.size:=hB.size;go_wp2;go_ret;rw [qf];exact ⟨_,rfl,by rw [hfin.out];exact OwnS.nul _ _,hB⟩
theorem zdb (s:St) (a v:Int) (A D:Option Addr) (n m c d:Nat) (w:World) (hn:n = s.flash.length) (hm:m = s.disk.length) (hl:s.flash.length < 1000000000000) (hF:Fl w A s.flash) (hD:Row w D (ints s.disk)) :
 Calls Tryz.prog 14 #[.agg #[.slice A n c, .slice D m d], .int .i64 a, .int .i64 v] w (qf w (kt s (wr s.flash 1 a v))):=by
 have hF0:Fl (w.alloc (.cells #[.slice A n c, .slice D m d] 28)) A s.flash:=hF.alloc _;have hD0:Row (w.alloc (.cells #[.slice A n c, .slice D m d] 28)) D (ints s.disk):=hD.alloc _;have hSO:Hid (Calls Tryz.prog 37 #[.agg #[.slice A n c, .slice D m d]] (w.alloc (.cells #[.slice A n c, .slice D m d] 28)) fun e w'=>e = .returned (.bool (z8 s))∧Below (w.alloc (.cells #[.slice A n c, .slice D m d] 28)).heap.size (w.alloc (.cells #[.slice A n c, .slice D m d] 28)) w'):=Yv s A D n m c d _ hn hm hl hF0 hD0;by_cases hok:z8 s = true
 . have hfin:Hid (kt s (wr s.flash 1 a v) = wr s.flash 1 a v):=by unfold Hid kt;rw [if_pos hok]
   obtain ⟨h4,h6,hfl,hp4,hms⟩:=zib hok;obtain rfl:n = 4:=by omega
   obtain rfl:m = 6:=by omega
   rw [hok] at hSO;have HFL:=Lib.hid hfl;have H4:=Lib.hid h4;have H6:=Lib.hid h6;have HP:=Lib.hid hp4;have HM:=Lib.hid hms;have HOK:=Lib.hid (xy.1 hok);clear hok h4 h6 hfl hp4 hms hm hn
   go_enter Tryz.func14,Tryz.ntmps14
   go_wp2_with fail
   with_reducible refine hSO.out.mono ?_
   rintro e w1 ⟨rfl,hb⟩;have hB:Below w.heap.size w w1:=((Below.refl _ _).alloc nl _).trans (hb.mono (by simp));have hz:w.heap.size < w1.heap.size:=by have:=hb.size;simp at this;omega
   obtain ⟨hc,hfz⟩:=qv hb;have x0:w1.cell? ⟨w.heap.size,0,none⟩ = some (.slice A 4 c):=(hc _ _ (by simp)).trans (by simp);have x1:w1.cell? ⟨w.heap.size,1,none⟩ = some (.slice D 6 d):=(hc _ _ (by simp)).trans (by simp);have hF1:=hF.below hB nl;have hD1:=hD.below hB nl;clear hb hc hfz hSO hF0 hD0;go_wp2_with fail
   refine (qn s.flash 1 a v A D c 6 d _ H4.out HP.out HM.out hF1).mono ?_;rintro e w2 ⟨v,rfl,hO,hb2⟩;go_wp2;go_ret;exact ⟨_,rfl,by rw [hfin.out];exact hO.mono hB.size,hB.trans (hb2.mono hB.size)⟩
 have hfin:Hid (kt s (wr s.flash 1 a v) = []):=by unfold Hid kt;rw [if_neg hok]
 rw [show z8 s = false by simpa using hok] at hSO;clear hok hn hm
 go_enter Tryz.func14,Tryz.ntmps14
 go_wp2_with fail
 with_reducible refine hSO.out.mono ?_
 rintro e w1 ⟨rfl,hb⟩;have hB:Below w.heap.size w w1:=((Below.refl _ _).alloc nl _).trans (hb.mono (by simp));have hz:w.heap.size ≤ w1.heap.size:=hB.size;go_wp2;go_ret;rw [qf];exact ⟨_,rfl,by rw [hfin.out];exact OwnS.nil _ _ (by omega),hB.alloc hB.size _⟩
theorem OwnS.shape' {w:World} {base:Nat} {v:Value} {xs:List Sp} (h:OwnS w base v xs):∃ A c,v = .slice A xs.length c∧xs.length ≤ c∧Row w A (sps xs)∧∀ b,blk A b->base ≤ b∧b < w.heap.size:=h.shape
end
end Go.Proofs.YtclnogfmmekooaaGreat
open Go.RowKit Go.IntWalk Go.Maps
namespace Go.Proofs.YtclnogfmmekooaaGreat
section
end
end Go.Proofs.YtclnogfmmekooaaGreat
open Go.RowKit Go.IntWalk Go.Maps
namespace Go.Proofs.YtclnogfmmekooaaGreat
section
end
end Go.Proofs.YtclnogfmmekooaaGreat
open Go.RowKit Go.IntWalk Go.Maps
namespace Go.Proofs.YtclnogfmmekooaaGreat
section
def Ym (w:World) (lo ob:Nat) (t:St):Prop :=
 ∃ A c D d hs,w.cell? ⟨ob,0,none⟩ = some (.slice A 4 c)∧w.cell? ⟨ob,1,none⟩ = some (.slice D 6 d)∧w.frozen? ⟨ob,0,none⟩ = false∧w.frozen? ⟨ob,1,none⟩ = false∧(∃ h,Apt lo h A hs∧h ≤ w.heap.size)∧Bks w A t.flash hs∧(∀ b,fblk A hs b->lo ≤ b∧b ≠ ob)∧Row w D (ints t.disk)∧∀ b,blk D b->lo ≤ b∧b ≠ ob∧¬ fblk A hs b
theorem Ym.below {w w':World} {lo ob B:Nat} {t:St} (h:Ym w lo ob t) (hb:Below B w w') (hB:w.heap.size ≤ B):Ym w' lo ob t:=by
 obtain ⟨A,c,D,d,hs,o0,o1,f0,f1,⟨hi,ha,hle⟩,hBk,h1,hD,h2⟩:=h;have hob:=zd o0;exact ⟨A,c,D,d,hs,(hb.cell (p:=⟨ob,0,none⟩) (by show ob < B;omega)).trans o0,(hb.cell (p:=⟨ob,1,none⟩) (by show ob < B;omega)).trans o1,(hb.frozen (p:=⟨ob,0,none⟩) (by show ob < B;omega)).trans f0,(hb.frozen (p:=⟨ob,1,none⟩) (by show ob < B;omega)).trans f1,⟨hi,ha,Nat.le_trans hle hb.size⟩,hBk.below hb hB,h1,hD.below hb hB,h2⟩
theorem Ym.alloc {w:World} {lo ob:Nat} {t:St} (h:Ym w lo ob t) (o:Obj):Ym (w.alloc o) lo ob t:=h.below (B:=w.heap.size) ((Below.refl _ _).alloc nl _) nl
theorem OSt.flAt0 {w:World} {lo hi:Nat} {A D:Option Addr} {f:List Bk} {xs:List Int} (h:OSt w lo hi A f D xs):FlAt w lo A f:=by obtain ⟨hs,h1,h2,_⟩:=h;exact ⟨hs,h1,fun b hb=>(h2.fblk hb).1⟩
theorem OSt.dlo {w:World} {lo hi:Nat} {A D:Option Addr} {f:List Bk} {xs:List Int} (h:OSt w lo hi A f D xs):∀ b,blk D b->lo ≤ b:=by obtain ⟨hs,_,_,_,h4⟩:=h;exact fun b hb=>(h4 b hb).1
theorem Ym.put {w w':World} {lo ob:Nat} {t t':St} {A D:Option Addr} {c d:Nat} (h:Ym w lo ob t) (hO:OSt w (ob + 1) w.heap.size A t'.flash D t'.disk) (hl:lo ≤ ob) (hw:w' = (w.setCell ⟨ob,0,none⟩ (.slice A 4 c)).setCell ⟨ob,1,none⟩ (.slice D 6 d)):Ym w' lo ob t':=by
 obtain ⟨_,_,_,_,_,o0,o1,f0,f1,_⟩:=h;obtain ⟨hs,hBk,hApt,hD,hdb⟩:=hO;have hlo:∀ b,fblk A hs b->ob + 1 ≤ b:=fun b hb=>(hApt.fblk hb).1;have hd:∀ b,blk D b->ob + 1 ≤ b:=fun b hb=>(hdb b hb).1;have hW:xt w w' ob 0 [.slice A 4 c, .slice D 6 d]:=by
  rw [hw];exact zp ob [.slice A 4 c, .slice D 6 d] 0 w (fun j hj=>by
   match j,hj with
   | 0,_=>exact ⟨_,o0⟩
   | 1,_=>exact ⟨_,o1⟩)
 refine ⟨A,c,D,d,hs,hW.new_ 0 _ rfl,hW.new_ 1 _ rfl,(hW.frozen _).trans f0,(hW.frozen _).trans f1,⟨_,hApt.mono (by omega) nl,by rw [hW.size];exact Nat.le_refl _⟩,hBk.keep fun b hb hl=>hW.block b ?_,fun b hb=>(by have:=hlo b hb;exact ⟨by omega,by omega⟩),hD.keep fun b hb hl=>hW.block b (by have:=hd b hb;omega),fun b hb=>(by have:=hd b hb;exact ⟨by omega,by omega,fun hf=>hf.elim (fun e=>(hdb b hb).2.2.1 e) (fun ⟨i,x,hx,e⟩=>(hdb b hb).2.2.2 i x hx e)⟩)⟩;have hf:fblk A hs b:=by
  rcases hb with hy | ⟨z,hz,hy⟩
  . exact .inl hy
  obtain ⟨j,hj⟩:=List.getElem?_of_mem hz;exact .inr ⟨j,z,hj,hy⟩
 have:=hlo b hf;omega
theorem Ym.of {w:World} {lo ob:Nat} {t:St} {A D:Option Addr} {c d:Nat} (o0:w.cell? ⟨ob,0,none⟩ = some (.slice A 4 c)) (o1:w.cell? ⟨ob,1,none⟩ = some (.slice D 6 d)) (f0:w.frozen? ⟨ob,0,none⟩ = false) (f1:w.frozen? ⟨ob,1,none⟩ = false) (hO:OSt w (ob + 1) w.heap.size A t.flash D t.disk) (hl:lo ≤ ob):Ym w lo ob t:=by
 obtain ⟨hs,hBk,hApt,hD,hdb⟩:=hO;exact ⟨A,c,D,d,hs,o0,o1,f0,f1,⟨_,hApt.mono (by omega) nl,Nat.le_refl _⟩,hBk,fun b hb=>(by have:=(hApt.fblk hb).1;exact ⟨by omega,by omega⟩),hD,fun b hb=>(by have:=(hdb b hb).1;exact ⟨by omega,by omega,fun hf=>hf.elim (fun e=>(hdb b hb).2.2.1 e) (fun ⟨i,x,hx,e⟩=>(hdb b hb).2.2.2 i x hx e)⟩)⟩
theorem FlAt.keep {w w':World} {lo:Nat} {A:Option Addr} {f:List Bk} (h:FlAt w lo A f) (hk:∀ b,lo ≤ b->b < w.heap.size->w'.heap[b]? = w.heap[b]?):FlAt w' lo A f:=by
 obtain ⟨hs,hBk,hlo⟩:=h;refine ⟨hs,hBk.keep fun b hb hl=>hk b (hlo b ?_) hl,hlo⟩;rcases hb with hy | ⟨z,hz,hy⟩
 . exact .inl hy
 obtain ⟨j,hj⟩:=List.getElem?_of_mem hz;exact .inr ⟨j,z,hj,hy⟩
theorem Ym.new {w:World} {lo c d:Nat} {A D:Option Addr} {t:St} (hO:OSt w lo w.heap.size A t.flash D t.disk):Ym (w.alloc (.cells #[.slice A 4 c, .slice D 6 d] 28)) lo w.heap.size t:=by
 obtain ⟨hs,hBk,hApt,hD,hdb⟩:=hO;exact ⟨A,c,D,d,hs,by simp,by simp,by simp,by simp,⟨_,hApt,by simp⟩,hBk.alloc _,fun b hb=>(by have:=hApt.fblk hb;exact ⟨by omega,by omega⟩),hD.alloc _,fun b hb=>(by have:=hdb b hb;exact ⟨this.1,by omega,fun hf=>hf.elim (fun e=>(hdb b hb).2.2.1 e) (fun ⟨i,x,hx,e⟩=>(hdb b hb).2.2.2 i x hx e)⟩)⟩
def zm6 (t:St) (w:World) (e:Ending) (w':World):Prop :=
 ∃ A c D d v,e = .returned (.tuple #[.agg #[.slice A 4 c, .slice D 6 d],v])∧FlAt w' w.heap.size A t.flash∧Row w' D (ints t.disk)∧(∀ b,blk D b->w.heap.size ≤ b)∧Below w.heap.size w w'
def Jt (t:St) (w:World) (e:Ending) (w':World):Prop :=
 ∃ A c D d v,e = .returned (.tuple #[.agg #[.slice A 4 c, .slice D 6 d],v])∧OSt w' w.heap.size w'.heap.size A t.flash D t.disk∧Below w.heap.size w w'
theorem Jt.post {t:St} {w w':World} {e:Ending} (h:Jt t w e w'):zm6 t w e w':=by
 obtain ⟨A,c,D,d,v,rfl,hO,hb⟩:=h;exact ⟨A,c,D,d,v,rfl,hO.flAt0,hO.disk,hO.dlo,hb⟩
theorem FlAt.below {w w':World} {lo lo' B:Nat} {A:Option Addr} {f:List Bk} (h:FlAt w lo A f) (hb:Below B w w') (hB:w.heap.size ≤ B) (hl:lo' ≤ lo):FlAt w' lo' A f:=by
 obtain ⟨hs,h1,h2⟩:=h;exact ⟨hs,h1.below hb hB,fun b hb=>Nat.le_trans hl (h2 b hb)⟩
theorem Row.lo {w:World} {A:Option Addr} {vs:List Value} (h:Row w A vs) (hn:vs ≠ []):∀ b,blk A b->b < w.heap.size:=fun b hb=>h.lt hn hb
end
end Go.Proofs.YtclnogfmmekooaaGreat
open Go.RowKit Go.IntWalk Go.Maps
namespace Go.Proofs.YtclnogfmmekooaaGreat
section
theorem Jt.more {t:St} {w w' w'':World} {e:Ending} (h:Jt t w e w') (hb:Below w'.heap.size w' w''):Jt t w e w'':=by
 obtain ⟨A,c,D,d,v,he,h1,h4⟩:=h;exact ⟨A,c,D,d,v,he,(h1.below hb nl).mono nl hb.size,h4.trans (hb.mono h4.size)⟩
end
end Go.Proofs.YtclnogfmmekooaaGreat
open Go.RowKit Go.IntWalk Go.Maps
namespace Go.Proofs.YtclnogfmmekooaaGreat
section
def zq3 (t:St) (w:World) (e:Ending) (w':World):Prop :=
 ∃ A c D d,e = .returned (.agg #[.slice A t.flash.length c, .slice D t.disk.length d])∧FlAt w' w.heap.size A t.flash∧Row w' D (ints t.disk)∧(∀ b,blk D b->w.heap.size ≤ b)∧Below w.heap.size w w'
def zq4 (t:St) (w:World) (e:Ending) (w':World):Prop :=
 ∃ A c D d,e = .returned (.agg #[.slice A t.flash.length c, .slice D t.disk.length d])∧OSt w' w.heap.size w'.heap.size A t.flash D t.disk∧Below w.heap.size w w'
theorem zq4.post {t:St} {w w':World} {e:Ending} (h:zq4 t w e w'):zq3 t w e w':=by
 obtain ⟨A,c,D,d,rfl,hO,hb⟩:=h;exact ⟨A,c,D,d,rfl,hO.flAt0,hO.disk,hO.dlo,hb⟩
theorem OSt.nil (w:World) (lo hi:Nat):OSt w lo hi none st0.flash none st0.disk :=
 ⟨[],⟨rfl,Row.nil _ _,fun i b x h=>absurd h (by simp [st0])⟩,⟨fun b hb=>(by cases hb),fun i x b h=>by simp at h,fun i j x y b h=>by simp at h⟩,Row.nil _ _,fun b hb=>(by cases hb)⟩
end
end Go.Proofs.YtclnogfmmekooaaGreat
open Go.RowKit Go.IntWalk Go.Maps
namespace Go.Proofs.YtclnogfmmekooaaGreat
section
theorem Row.ev {w:World} {b o k:Nat} {xs:List Ev} {x:Ev} (h:Row w (some ⟨b,o,none⟩) (evs xs)) (hk:xs[k]? = some x) :
 w.cell? ⟨b,o + k * 5,none⟩ = some (.int .i64 x.kind)∧w.cell? ⟨b,o + k * 5 + 1,none⟩ = some (.int .i64 x.a)∧w.cell? ⟨b,o + k * 5 + 2,none⟩ = some (.int .i64 x.b)∧w.cell? ⟨b,o + k * 5 + 3,none⟩ = some (.int .i64 x.c)∧w.cell? ⟨b,o + k * 5 + 4,none⟩ = some (.bool x.torn):=by
 have hlt:=(List.getElem?_eq_some_iff.1 hk).1;obtain ⟨b',o',he,hc⟩:=h (by intro e;have:=zpv xs;rw [e] at this;simp at this;omega);cases he;have hg:∀ j u,x.vs[j]? = some u->j < 5->w.cell? ⟨b,o + (k * 5 + j),none⟩ = some u:=fun j u hj hl=>(hc (k * 5 + j) u (by rw [evs,yn _ 5 (fun _=>rfl) xs k j x hk hl];exact hj)).1;exact ⟨hg 0 _ rfl (by omega),hg 1 _ rfl (by omega),hg 2 _ rfl (by omega),hg 3 _ rfl (by omega),hg 4 _ rfl (by omega)⟩
end
end Go.Proofs.YtclnogfmmekooaaGreat
open Go.RowKit Go.IntWalk Go.Maps
namespace Go.Proofs.YtclnogfmmekooaaGreat
section
end
section
open Go.RowKit Go.Maps
theorem OwnE.out {w:World} {base:Nat} {v:Value} {xs:List Ev} (h:OwnE w base v xs):∃ A c,v = .slice A xs.length c∧Row w A (evs xs)∧(∀ b,blk A b->base ≤ b∧b < w.heap.size)∧xs.length ≤ c:=by
 have h':=h;obtain ⟨hl,⟨hv,hz⟩ | ⟨g,cap,cur,hv,hb,hh,hnc,hm,hs,ht⟩⟩:=h
 . have hxs:xs = []:=List.eq_nil_of_length_eq_zero hz;subst hxs;exact ⟨none,0,hv,Row.nil _ _,(fun b hb=>by cases hb),Nat.le_refl _⟩
 refine ⟨some ⟨g,0,none⟩,cap,hv, ?_,fun b hb'=>?_,hnc⟩
 . unfold OwnE at h';rw [hv] at h';exact Row.of_own h'
 rw [zf] at hb';subst hb';exact ⟨hb,(Array.getElem?_eq_some_iff.1 hh).1⟩
end
section
def zqn (a v:Int) (e:Ev):Bool:=decide (e.kind = 1) && (decide (e.a = a) && decide (e.b = v))
def zkl (es:List Ev) (a v:Int):Prop:=v = 0∨es.any (zqn a v) = true
theorem zkl.more {es:List Ev} {a v:Int} (h:zkl es a v) (e:Ev):zkl (es ++ [e]) a v:=by
 rcases h with h | h
 . exact .inl h
 exact .inr (by rw [List.any_append,h];rfl)
theorem zec (s:St):allV s = [xe s 1,xe s 2,xe s 3,xe s 4,xe s 5,xe s 6]:=rfl
theorem zm2 {s t:St} (h:Same s t):allV t = allV s:=by
 rw [zec,zec,h 1 (by decide) (by decide),h 2 (by decide) (by decide),h 3 (by decide) (by decide),h 4 (by decide) (by decide),h 5 (by decide) (by decide),h 6 (by decide) (by decide)]
end
section
open Go.RowKit Go.Maps
def RunP (t:St) (w:World) (e:Ending) (w':World):Prop :=
 ∃ A c D d,e = .returned (.tuple #[.agg #[.slice A 4 c, .slice D 6 d], .bool true])∧FlAt w' w.heap.size A t.flash∧Row w' D (ints t.disk)∧(∀ b,blk D b->w.heap.size ≤ b)∧Below w.heap.size w w'
def NoP (w:World) (e:Ending) (w':World):Prop :=
 ∃ A c D d,e = .returned (.tuple #[.agg #[.slice A 0 c, .slice D 0 d], .bool false])∧Below w.heap.size w w'
theorem Z4.run {t:St} {w w':World} {e:Ending} (ht:Okay t) (h:Z4 (t,true) w e w'):RunP t w e w':=by
 obtain ⟨A,c,D,d,rfl,h1,h2,h3,h4⟩:=h;exact ⟨A,c,D,d,by dsimp only;rw [zh ht.flash,ht.len],h1,h2,h3,h4⟩
theorem Z4.no {w w':World} {e:Ending} (h:Z4 (st0,false) w e w'):NoP w e w':=by
 obtain ⟨A,c,D,d,rfl,h1,h2,h3,h4⟩:=h;exact ⟨A,c,D,d,rfl,h4⟩
theorem Qd {s:St} (hs:Okay s) (A D:Option Addr) (c d:Nat) (w:World) (hF:Fl w A s.flash) (hD:Row w D (ints s.disk)) :
 Calls Tryz.prog 18 #[.agg #[.slice A 4 c, .slice D 6 d]] w fun e w'=>∃ A' c',e = .returned (.slice A' 6 c')∧Row w' A' (ints (allV s))∧Below w.heap.size w w' :=
 (zbn s A D 4 6 c d w (zh hs.flash).symm hs.len.symm hF hD).mono fun e w' q=>by
  rw [show zgd s = allV s by unfold zgd;rw [if_pos (xy.2 hs)]] at q;exact q
theorem zaq {s:St} (hs:Okay s) (A D:Option Addr) (c d:Nat) (w:World) (hF:Fl w A s.flash) (hD:Row w D (ints s.disk)) :
 Calls Tryz.prog 11 #[.agg #[.slice A 4 c, .slice D 6 d]] w fun e w'=>e = .returned (.bool true)∧Below w.heap.size w w' :=
 (Zn s A D 4 6 c d w (zh hs.flash).symm hs.len.symm hF hD).mono fun e w' q=>by rw [xy.2 hs] at q;exact q
theorem Held.no (w:World) (A D:Option Addr) (c d:Nat):Held (w.alloc (.cells #[.slice A 0 c, .slice D 0 d] 28)) w.heap.size A D 0 c 0 d st0 :=
 Held.new w (s:=st0) ⟨[],rfl,Row.nil _ _,fun i b x h=>by simp [st0] at h⟩ (Row.nil _ _) rfl rfl
theorem Held.ok {w:World} {t:St} (ht:Okay t) {A D:Option Addr} (c d:Nat) (hF:Fl w A t.flash) (hD:Row w D (ints t.disk)):Held (w.alloc (.cells #[.slice A 4 c, .slice D 6 d] 28)) w.heap.size A D 4 c 6 d t :=
 Held.new w hF hD (zh ht.flash).symm ht.len.symm
theorem zdp {xs ys:List Int} (h:xs = ys) (h6:xs.length = 6) (A A':Option Addr) (c c':Nat) (w:World) (hR:Row w A (ints xs)) (hR':Row w A' (ints ys)) :
 Calls Tryz.prog 19 #[.slice A 6 c, .slice A' 6 c'] w fun e w'=>e = .returned (.bool true)∧Below w.heap.size w w' :=
 (zhf A A' 6 6 c c' xs ys w h6.symm (by rw [← h,h6]) (by omega) hR hR').mono fun e w' q=>by rw [decide_eq_true h] at q;exact q
theorem Held.put {W:World} {bx n c m d n' c' m' d':Nat} {A D A' D':Option Addr} {s t:St} (h:Held W bx A D n c m d s) (hF:FlAt W (bx + 1) A' t.flash) (hD:Row W D' (ints t.disk)) (hd:∀ b,blk D' b->bx + 1 ≤ b) (hn:n' = t.flash.length) (hm:m' = t.disk.length) :
 Held ((W.setCell ⟨bx,0,none⟩ (.slice A' n' c')).setCell ⟨bx,1,none⟩ (.slice D' m' d')) bx A' D' n' c' m' d' t:=by
 have hW:xt W ((W.setCell ⟨bx,0,none⟩ (.slice A' n' c')).setCell ⟨bx,1,none⟩ (.slice D' m' d')) bx 0 [.slice A' n' c', .slice D' m' d']:=zp bx [.slice A' n' c', .slice D' m' d'] 0 W (fun j hj=>by
  match j,hj with
  | 0,_=>exact ⟨_,h.x0⟩
  | 1,_=>exact ⟨_,h.x1⟩)
 refine ⟨?_,hD.keep fun b hb hl=>hW.block b (by have:=hd b hb;omega),hW.new_ 0 _ rfl,hW.new_ 1 _ rfl,hn,hm⟩;exact (hF.keep (w':=(W.setCell ⟨bx,0,none⟩ (.slice A' n' c')).setCell ⟨bx,1,none⟩ (.slice D' m' d')) fun b hb hl=>hW.block b (by omega)).fl
theorem FlAt.mono {w:World} {lo lo':Nat} {A:Option Addr} {f:List Bk} (h:FlAt w lo A f) (hl:lo' ≤ lo):FlAt w lo' A f:=by
 obtain ⟨hs,h1,h2⟩:=h;exact ⟨hs,h1,fun b hb=>Nat.le_trans hl (h2 b hb)⟩
end
section
open Go.RowKit Go.Maps
theorem OwnI.one (w:World) (base:Nat) (x:Int) (hb:base ≤ w.heap.size):OwnI (w.alloc (.cells #[.int .i64 x] 3)) base (.slice (some ⟨w.heap.size,0,none⟩) 1 1) [x]:=World.ownsRow_lit w #[.int .i64 x] 1 hb (by unfold maxLen;omega) rfl
end
section
open Go.RowKit Go.Maps
theorem Row.part {w:World} {V:Option Addr} {xs ys:List Value} (h:Row w V (xs ++ ys)):Row w V xs:=fun hn=>by
 obtain ⟨b,o,hV,hc⟩:=h (by intro e;exact hn (List.append_eq_nil_iff.1 e).1);refine ⟨b,o,hV,fun j u hj=>hc j u ?_⟩;rw [List.getElem?_append_left (List.getElem?_eq_some_iff.1 hj).1];exact hj
structure zbd (W:World) (bx:Nat) (A D:Option Addr) (c d:Nat) (s:St):Prop where
 held:Held W bx A D 4 c 6 d s
 f0:W.frozen? ⟨bx,0,none⟩ = false
 f1:W.frozen? ⟨bx,1,none⟩ = false
theorem zbd.below {W X:World} {bx c d B:Nat} {A D:Option Addr} {s:St} (h:zbd W bx A D c d s) (hb:Below B W X) (hB:W.heap.size ≤ B):zbd X bx A D c d s :=
 ⟨h.held.below hb hB,(hb.frozen (p:=⟨bx,0,none⟩) (Nat.lt_of_lt_of_le (zd h.held.x0) hB)).trans h.f0,(hb.frozen (p:=⟨bx,1,none⟩) (Nat.lt_of_lt_of_le (zd h.held.x1) hB)).trans h.f1⟩
theorem zbd.drew {W:World} {bx c d:Nat} {A D:Option Addr} {s:St} (h:zbd W bx A D c d s):zbd W.drew bx A D c d s:=⟨h.held.drew,h.f0,h.f1⟩
theorem zbd.new {w:World} {t:St} (ht:Okay t) {A D:Option Addr} (c d:Nat) (hF:Fl w A t.flash) (hD:Row w D (ints t.disk)):zbd (w.alloc (.cells #[.slice A 4 c, .slice D 6 d] 28)) w.heap.size A D c d t :=
 ⟨Held.ok ht c d hF hD,by simp,by simp⟩
theorem zbd.put {W:World} {bx c d c' d' lo:Nat} {A D A' D':Option Addr} {s t:St} (h:zbd W bx A D c d s) (ht:Okay t) (hF:FlAt W lo A' t.flash) (hlo:bx < lo) (hD:Row W D' (ints t.disk)) (hd:∀ b,blk D' b->lo ≤ b) :
 zbd ((W.setCell ⟨bx,0,none⟩ (.slice A' 4 c')).setCell ⟨bx,1,none⟩ (.slice D' 6 d')) bx A' D' c' d' t:=by
 have hW:xt W ((W.setCell ⟨bx,0,none⟩ (.slice A' 4 c')).setCell ⟨bx,1,none⟩ (.slice D' 6 d')) bx 0 [.slice A' 4 c', .slice D' 6 d']:=zp bx [.slice A' 4 c', .slice D' 6 d'] 0 W (fun j hj=>by
  match j,hj with
  | 0,_=>exact ⟨_,h.held.x0⟩
  | 1,_=>exact ⟨_,h.held.x1⟩)
 exact ⟨h.held.put (hF.mono (by omega)) hD (fun b hb=>by have:=hd b hb;omega) (zh ht.flash).symm ht.len.symm,(hW.frozen _).trans h.f0,(hW.frozen _).trans h.f1⟩
end
section
def Thru (Q:St->Prop):St->List Sp->Prop
 | s,[]=>Q s
 | s,x :: xs=>Q s∧Thru Q (z5 s x false) xs
theorem Thru.take {Q:St->Prop}:∀ {xs:List Sp} {s:St},Thru Q s xs->∀ n,Q (zx s (xs.take n))
 | [],s,h,n=>by simpa [zx] using (show Q s from h)
 | x :: xs,s,h,0=>h.1
 | x :: xs, s, h, n + 1 => by
   have:=Thru.take h.2 n;rw [List.take_succ_cons];exact this
theorem Thru.to {Q:St->Prop} {xs:List Sp} {s:St} (h:Thru Q s xs) (cut:Int):Q (doTo s xs cut false):=by
 unfold doTo;rw [if_neg (by rintro ⟨e,_⟩;cases e)];exact h.take _
theorem zje {s:St} {x:Sp} (h:x.kind = 1):(z5 s x false).flash = s.flash:=by unfold z5;rw [if_pos h];rfl
theorem Thru.tells {Q:List Bk->Prop} {ys:List Sp} {f:List Bk} (hQ:Q f) (hy:∀ t:St,t.flash = f->Thru (fun t=>Q t.flash) t ys):∀ (xs:List Sp) (s:St),(∀ x ∈ xs,x.kind = 1)->s.flash = f->Thru (fun t=>Q t.flash) s (xs ++ ys)
 | [],s,_,hs=>hy s hs
 | x :: xs,s,hx,hs=>⟨by dsimp only;rw [hs];exact hQ,Thru.tells hQ hy xs _ (fun y hy=>hx y (List.mem_cons_of_mem _ hy)) ((zje (hx x (List.mem_cons_self ..))).trans hs)⟩
end
section
open Go.RowKit Go.Maps
structure BelN (n:Nat) (w w':World):Prop where
 os:w'.os = w.os
 output:w'.output = w.output
 size:w.heap.size ≤ w'.heap.size
 block:∀ b,b < n->w'.heap[b]? = w.heap[b]?
def zo5 (Q:Act->World->Prop) (n:Nat) (w:World) (e:Exit) (a:Act) (w':World):Prop:=e = .normal∧a.defers = []∧Q a w'∧BelN n w w'
theorem zo5.mk' {Q:Act->World->Prop} {n:Nat} {a0 w':World} {a:Act} (hd:a.defers = []) (h:Q a w') (hb:BelN n a0 w'):zo5 Q n a0 .normal a w':=⟨rfl,hd,h,hb⟩
theorem Held.same {w w':World} {bx n c m d:Nat} {A D:Option Addr} {s:St} (h:Held w bx A D n c m d s) (hh:w'.heap = w.heap):Held w' bx A D n c m d s:=by
 obtain ⟨hp,ta,dr,os,ou⟩:=w;obtain ⟨hp',ta',dr',os',ou'⟩:=w';dsimp only at hh;subst hh;obtain ⟨⟨hs,f1⟩,h2,h3,h4,h5,h6⟩:=h;exact ⟨⟨hs,⟨f1.len,f1.row,f1.pg⟩⟩,h2,h3,h4,h5,h6⟩
theorem Z4.fl {r:St × Bool} {w w':World} {e:Ending} (h:Z4 r w e w'):∃ A c D d,e = .returned (.tuple #[.agg #[.slice A r.1.flash.length c, .slice D r.1.disk.length d], .bool r.2])∧FlAt w' w.heap.size A r.1.flash∧Row w' D (ints r.1.disk)∧(∀ b,blk D b->w.heap.size ≤ b)∧Below w.heap.size w w':=h
end
section
open Go.RowKit Go.Maps
end
end Go.Proofs.YtclnogfmmekooaaGreat
open Go.RowKit Go.IntWalk Go.Maps
namespace Go.Proofs.YtclnogfmmekooaaGreat
section
theorem zpc {s:St} {xs:List Sp} {cut:Int} {torn:Bool} (h1:0 ≤ cut) (h2:z8 s = true) (h3:allB xs = true):toR s xs cut torn = (doTo s xs cut torn,true):=by
 unfold toR;rw [if_neg (by rintro (e | e | e);omega;rw [h2] at e;cases e;rw [h3] at e;cases e)]
end
section
theorem zfa {s:St} {xs:List Sp} (h:kt s xs ≠ []):Okay s∧kt s xs = xs:=by
 unfold kt at h ⊢;split
 . rename_i hs;exact ⟨xy.1 hs,rfl⟩
 rename_i hs;rw [if_neg hs] at h;exact absurd rfl h
theorem Xn (s:St) (a v c:Int) (t:Bool):z9 s ⟨1,a,v,c,t⟩ = wr s.flash 1 a v:=by unfold z9;rw [if_pos rfl]
theorem zen {s:St} (h:Okay s) (e:Ev) {cut:Int} (hc:0 ≤ cut) (torn:Bool):toR s (z9 s e) cut torn = (doTo s (z9 s e) cut torn,true) :=
 zpc hc (xy.2 h) (zjf h e)
theorem zpx {s:St} (h:Okay s) (e:Ev) {cut:Int} (hc:0 ≤ cut) (hl:cut < (z9 s e).length) (torn:Bool):Mid s (doTo s (z9 s e) cut torn):=by
 have hne:z9 s e ≠ []:=by intro e';rw [e'] at hl;simp at hl;omega
 exact ((Jv h hne).to cut torn).2 (by omega)
theorem zit {s:St} (h:Okay s) (e:Ev) (hne:z9 s e ≠ []) {cut:Int} (hl:((z9 s e).length:Int) ≤ cut) (torn:Bool):Done s e (doTo s (z9 s e) cut torn) :=
 ((Jv h hne).to cut torn).1 (by omega)
structure zq2 (s:St) (a v:Int) (t:St):Prop where
 ok:Okay t
 addr:1 ≤ a∧a ≤ 6
 all:(allV s).set (a - 1).toNat v = allV t
 last:jy t.flash a = (⟨1,next s.flash,a,v⟩,true)
theorem zdk {s:St} {a v:Int} (hne:wr s.flash 1 a v ≠ []):(1 ≤ a∧a ≤ 6)∧0 ≤ v∧v ≤ 9:=(zdh.1 (zh1.1 hne).2).2.2
theorem zoo {s t:St} {a v:Int} (ha:1 ≤ a∧a ≤ 6) (h:∀ b:Int,1 ≤ b->b ≤ 6->xe t b = if b = a then v else xe s b):(allV s).set (a - 1).toNat v = allV t:=by
 rw [zec,zec,h 1 (by decide) (by decide),h 2 (by decide) (by decide),h 3 (by decide) (by decide),h 4 (by decide) (by decide),h 5 (by decide) (by decide),h 6 (by decide) (by decide)];have:a = 1∨a = 2∨a = 3∨a = 4∨a = 5∨a = 6:=by omega
 rcases this with rfl | rfl | rfl | rfl | rfl | rfl <;> simp
theorem zlb {s:St} (h:Okay s) {a v:Int} (hne:wr s.flash 1 a v ≠ []) {cut:Int} (hl:((wr s.flash 1 a v).length:Int) ≤ cut) (torn:Bool):zq2 s a v (doTo s (wr s.flash 1 a v) cut torn):=by
 have k:=zit h ⟨1,a,v,cut,torn⟩ (by rw [Xn];exact hne) (cut:=cut) (by rw [Xn];exact hl) torn;rw [Xn] at k;obtain ⟨ha,hv⟩:=zdk hne;refine ⟨k.fin.ok,ha,zoo ha k.fin.read, ?_⟩;have hr:last (doTo s (wr s.flash 1 a v) cut torn).flash a = ⟨1,next s.flash,a,v⟩:=k.fin.rec_;unfold jy;rw [if_pos ⟨Ka.2 ha,k.fin.ok.flash⟩,hr];have:=Z8 s.flash;simp;omega
end
end Go.Proofs.YtclnogfmmekooaaGreat
open Go.RowKit Go.IntWalk Go.Maps
namespace Go.Proofs.YtclnogfmmekooaaGreat
section
end
section
open Go.RowKit Go.Maps
def zp3 (xs:List Sp) (w:World) (e:Ending) (w':World):Prop :=
 ∃ V cs,e = .returned (.slice V xs.length cs)∧Row w' V (sps xs)∧(∀ b,blk V b->w.heap.size ≤ b∧b < w'.heap.size)∧xs.length ≤ cs∧Below w.heap.size w w'
theorem qf.list {xs ys:List Sp} {w w':World} {e:Ending} (hx:xs = ys) (h:qf w xs e w'):zp3 ys w e w':=by
 subst hx;obtain ⟨v,rfl,hO,hb⟩:=h;obtain ⟨V,cs,rfl,hc,hR,hV⟩:=hO.shape';exact ⟨V,cs,rfl,hR,hV,hc,hb⟩
theorem Z4.runF {t:St} {w w':World} {e:Ending} (ht:xq t) (h:Z4 (t,true) w e w'):RunP t w e w':=by
 obtain ⟨A,c,D,d,rfl,h1,h2,h3,h4⟩:=h;exact ⟨A,c,D,d,by dsimp only;rw [ht.1.1,ht.2.1],h1,h2,h3,h4⟩
theorem Zv {s t:St} {xs:List Sp} {cut:Int} {torn:Bool} (ht:toR s xs cut torn = (t,true)) (hf:xq t) (hl:xs.length < 1000000000000) (A D V:Option Addr) (n m c d cs k:Nat) (w:World) (hn:n = s.flash.length) (hm:m = s.disk.length) (hk:k = xs.length) (hF:Fl w A s.flash) (hD:Row w D (ints s.disk)) (hX:Row w V (sps xs)) :
 Calls Tryz.prog 17 #[.agg #[.slice A n c, .slice D m d], .slice V k cs, .int .i64 cut, .bool torn] w (RunP t w):=by
 subst hk;exact (zfl s xs cut torn A D V n m c d cs w hn hm hl hF hD hX).mono fun _ _ q=>Z4.runF hf (by rw [ht] at q;exact q)
theorem Held.fine {w:World} {t:St} (ht:xq t) {A D:Option Addr} (c d:Nat) (hF:Fl w A t.flash) (hD:Row w D (ints t.disk)):Held (w.alloc (.cells #[.slice A 4 c, .slice D 6 d] 28)) w.heap.size A D 4 c 6 d t :=
 Held.new w hF hD ht.1.1.symm ht.2.1.symm
theorem X1 {s:St} {a v:Int} {xs:List Sp} (hx:kt s (wr s.flash 1 a v) = xs) (A D:Option Addr) (n m c d:Nat) (w:World) (hn:n = s.flash.length) (hm:m = s.disk.length) (hF:Fl w A s.flash) (hD:Row w D (ints s.disk)) :
 Calls Tryz.prog 13 #[.agg #[.slice A n c, .slice D m d], .int .i64 a, .int .i64 v] w (zp3 xs w):=(zdu s a v A D n m c d w hn hm hF hD).mono fun _ _ q=>qf.list hx q
theorem Xt {s:St} {a v:Int} {xs:List Sp} (hx:kt s (wr s.flash 1 a v) = xs) (A D:Option Addr) (n m c d:Nat) (w:World) (hn:n = s.flash.length) (hm:m = s.disk.length) (hl:s.flash.length < 1000000000000) (hF:Fl w A s.flash) (hD:Row w D (ints s.disk)) :
 Calls Tryz.prog 14 #[.agg #[.slice A n c, .slice D m d], .int .i64 a, .int .i64 v] w (zp3 xs w):=(zdb s a v A D n m c d w hn hm hl hF hD).mono fun _ _ q=>qf.list hx q
end
section
theorem zjb (f:List Bk):wSum f = kq f:=by
 have key:∀ (f:List Bk) (a:Int),f.foldl (fun a b=>a + b.worn) a = a + kq f:=by
  intro f
  induction f with
  | nil=>intro a;simp [kq]
  | cons b f ih =>
    intro a;rw [List.foldl_cons,ih];show a + b.worn + kq f = a + (b.worn + kq f);omega
 have:=key f 0;unfold wSum;omega
theorem zlc {s:St} (h:Okay s) {a v:Int} (hne:wr s.flash 1 a v ≠ []) {cut:Int} (hc:0 ≤ cut) (hn:next s.flash ≤ 596) (hw:kq s.flash ≤ 100) (torn:Bool) :
 Okay (doTo s (wr s.flash 1 a v) cut torn)∧wr (doTo s (wr s.flash 1 a v) cut torn).flash 1 a v ≠ []∧(allV s).set (a - 1).toNat v = (allV (doTo s (wr s.flash 1 a v) cut torn)).set (a - 1).toNat v:=by
 obtain ⟨ha,hv⟩:=zdk hne;by_cases hl:cut < (wr s.flash 1 a v).length
 . have k:=zpx h ⟨1,a,v,cut,torn⟩ hc (by rw [Xn];exact hl) torn;rw [Xn] at k;have h1:=k.nx;have h2:=k.wear;exact ⟨k.ok,zh2 k.ok (by omega) (by omega) (.inl rfl) ha hv,by rw [zm2 k.same]⟩
 have hl':((wr s.flash 1 a v).length:Int) ≤ cut:=by omega
 have k:=zit h ⟨1,a,v,cut,torn⟩ (by rw [Xn];exact hne) (cut:=cut) (by rw [Xn];exact hl') torn;rw [Xn] at k;have h1:=k.fin.nx;have h2:=k.fin.wear;exact ⟨k.fin.ok,zh2 k.fin.ok (by omega) (by omega) (.inl rfl) ha hv,by rw [← (zlb h hne hl' torn).all,List.set_set]⟩
end
end Go.Proofs.YtclnogfmmekooaaGreat
