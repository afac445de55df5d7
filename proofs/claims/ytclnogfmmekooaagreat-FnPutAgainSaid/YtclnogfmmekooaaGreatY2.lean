/- What the laws' walks share: words, plain laws, and the walks of functions, part 2. -/
import Derived.DuoClaim
import Derived.Conc.CrowdRun
import Derived.Conc.WgGenW
import Derived.Test.YtclnogfmmekooaaGreatY1
set_option linter.unusedVariables false
set_option linter.unusedSimpArgs false
set_option maxHeartbeats 16000000
set_option maxRecDepth 100000
namespace Go.Proofs.YtclnogfmmekooaaGreat
section
open Go.Conc
section
variable {P:Program} {G:Cfg} {b:Bool}
def okK (b:Bool) (k:List Item):Prop:=if b then ∀ id,exitTo id k = none else k = []
theorem zic {b:Bool} {k:List Item} (h:okK b k):∀ id,exitTo id k = none:=by
 cases b
 . have:k = []:=h;subst this;exact fun _=>rfl
 exact h
theorem zg7 (b:Bool):okK b (kOf b):=by cases b;exact rfl;exact zjd
def zo4 (P:Program) (G:Cfg) (b:Bool) (A:Nat->Prop) (fr:Frame) (inner:List Frame):Prop :=
 ∃ s : Sem (Frame × List Frame), Sem.Fr P G s A (fun A' x => (∀ b, A b -> A' b) ∧ St2 P G A' x.1 x.2) ∧ (∀ k cs w, HIn P G A w -> okK b k ->
   match s.run P w with
   | .ok x w'=>∃ es',stepG P true (xo k cs fr inner) w = .go (xo k cs x.1 x.2) w' es'∧SbE (s.runT P w #[]).2 es'
   | .halt h w'=>zee P G A k cs inner w' (stepG P true (xo k cs fr inner) w)∨∃ o w'' es',stepG P true (xo k cs fr inner) w = .ended o w'' es') ∧
   ∀ k cs,okK b k->zi2 P G A s k cs fr inner
theorem Yk.toB {b:Bool} {A:Nat->Prop} {fr:Frame} {inner:List Frame} (h:Yk P G A fr inner):zo4 P G b A fr inner:=by
 obtain ⟨s,h1,h2,h3⟩:=h;exact ⟨s,h1,fun k cs w hw hk=>h2 k cs w hw (zic hk),fun k cs hk=>h3 k cs (zic hk)⟩
theorem zks (hP:jc P G) {b:Bool} {A:Nat->Prop} {fr:Frame} {inner:List Frame} (h:St2 P G A fr inner) (hns:¬ (inner = []∧yp b fr)) (hm:∀ ch,fr.mode ≠ .panicking ch):zo4 P G b A fr inner:=by
 cases hmo:fr.mode with
 | run =>
   by_cases hi:inner = []
   . by_cases ht:fr.todo = []
     . cases b with
       | true=>exact absurd ⟨hi, .inr ⟨rfl,hmo,ht⟩⟩ hns
       | false =>
         -- a function that falls off its end
         subst hi;have hr:fr.roundOf = none:=h.last fr (by simp);refine ⟨pure ({ fr with mode:=.returning },[]),zb ⟨fun _ z=>z,h.top' ⟨h.st.top.tmps,h.st.top.todo,h.st.top.defers,h.st.top.kind,h.st.top.round⟩ rfl⟩,fun k cs w _ hk=>?_,fun k cs hk w x w1 _ hr=>?_⟩
         rotate_left
         . have hk0:k = []:=hk;subst hk0;cases hr;refine ⟨w,#[],⟨rfl, .refl G w⟩, ?_,fun e he=>by simp at he⟩;obtain ⟨fn,tmps,todo,defers,mode,kind,ro⟩:=fr;simp only at hmo ht hr;subst hmo;subst ht;subst hr;rfl
         have hk0:k = []:=hk;subst hk0;refine ⟨#[], ?_,fun e he=>by simp at he⟩;obtain ⟨fn,tmps,todo,defers,mode,kind,ro⟩:=fr;simp only at hmo ht hr;subst hmo;subst ht;subst hr;rfl
     exact (zek hP h hmo (.inl ht)).toB
   exact (zek hP h hmo (.inr hi)).toB
 | returning =>
   refine (zkr h hmo ?_).toB;by_cases hi:inner = []
   . exact .inl fun e=>hns ⟨hi, .inl ⟨hmo,e⟩⟩
   exact .inr hi
 | panicking ch=>exact absurd hmo (hm ch)
theorem zep {fr:Frame} (h:yp b fr):∀ ch,fr.mode ≠ .panicking ch:=by
 intro ch e;rcases h with ⟨h1,_⟩ | ⟨_,h1,_⟩ <;> rw [h1] at e <;> cases e
theorem zfb {A:Nat->Prop} {n:Nat} {fr fr':Frame} {inner:List Frame} {w w':World} (h:St2 P G A fr inner) (hw:HIn P G A w) (hr:runN P n (LM b fr inner w) = .next (LM b fr' [] w')) (hs:yp b fr'):∀ ch,fr.mode ≠ .panicking ch:=by
 intro ch hm;obtain ⟨f,c,w1,ch',e,hf⟩:=Z0 n h hw hm hr;have hg:=congrArg (fun m:Machine=>(m.gs[0]?).map fun g=>g.frame.mode) e;simp only [LM,Xv,xo,gor,List.getElem?_toArray,List.getElem?_cons_zero,Option.map_some,Option.some.injEq] at hg;rw [hf] at hg;exact zep hs _ hg
theorem zkt (hP:jc P G) {A:Nat->Prop} {fr fr':Frame} {inner:List Frame} {w w':World} {n:Nat} (h:St2 P G A fr inner) (hw:HIn P G A w) (hns:¬ (inner = []∧yp b fr)) (hr:runN P n (LM b fr inner w) = .next (LM b fr' [] w')) (hs:yp b fr') :
 ∃ (n' : Nat) (x : Frame × List Frame) (w1 : World) (A' : Nat -> Prop) (c : Nat), n = n' + 1 ∧ Kept A A' w w1 ∧ HIn P G A' w1 ∧ St2 P G A' x.1 x.2 ∧ w1.drawn = w.drawn + c ∧ runN P n' (LM b x.1 x.2 w1) = .next (LM b fr' [] w') ∧
   (∀ k cs wR,okK b k->cutW G wR = w->∃ wR' es',(cutW G wR' = w1∧Tail G wR wR')∧stepG P true (xo k cs fr inner) wR = .go (xo k cs x.1 x.2) wR' es'∧∀ e ∈ es',EvIn A' e) ∧
   ∀ T d,(∀ j q,j < c->T (d + j) q = w.tape (w.drawn + j) q)->step P (LM b fr inner (tp0 w T d)) = .next (LM b x.1 x.2 (tp0 w1 T (d + c))):=by
 cases n with
 | zero =>
   simp only [runN,Stepped.next.injEq] at hr;obtain ⟨h1,h2,_⟩:=zi3 hr;exact absurd ⟨h1,h2 ▸ hs⟩ hns
 | succ n =>
   obtain ⟨s,hfr,hst,hreal⟩:=zks hP h hns (zfb h hw hr hs);have hrun:=Sem.Fr.run (es:=#[]) hfr hw;have hloc:=Sem.Fr.local hfr hw;rw [Sem.runT_eq] at hrun;cases hsr:s.run P w with
   | ok x w1 =>
     rw [hsr] at hrun hloc;obtain ⟨A',hk,hw1,⟨_,hst2⟩,hev⟩:=hrun;obtain ⟨hle,hl⟩:=hloc;simp only [Zl] at hle hl;have hgo:∀ k cs wR,okK b k->cutW G wR = w->∃ wR' es',(cutW G wR' = w1∧Tail G wR wR')∧stepG P true (xo k cs fr inner) wR = .go (xo k cs x.1 x.2) wR' es'∧∀ e ∈ es',EvIn A' e:=by
      intro k cs wR hc hwR;subst hwR;obtain ⟨wR',es',e0,e1,e2⟩:=hreal k cs hc wR x w1 hw hsr;refine ⟨wR',es',e0,e1,fun e he=>?_⟩;have h3:=e2 e he;rw [Sem.runT_eq] at h3;rcases hev e h3 with h4 | h4
      . simp at h4
      exact h4
     have hstep:∀ T d,(∀ j q,j < w1.drawn - w.drawn->T (d + j) q = w.tape (w.drawn + j) q)->step P (LM b fr inner (tp0 w T d)) = .next (LM b x.1 x.2 (tp0 w1 T (d + (w1.drawn - w.drawn)))):=by
      intro T d hT;have e1:=hl T d hT;have:=hst (kOf b) [trap] (tp0 w T d) (hw.tp T d) (zg7 b);rw [e1] at this;obtain ⟨es',e2,_⟩:=this;exact zke e2
     refine ⟨n,x,w1,A',w1.drawn - w.drawn,rfl,hk,hw1,hst2,by omega, ?_,hgo,hstep⟩;have h0:=hstep w.tape w.drawn (fun _ _ _=>rfl);have ht:w1.tape = w.tape:=hk.tape;rw [Xs,show w.drawn + (w1.drawn - w.drawn) = w1.drawn by omega,← ht,Xs] at h0;exact j4 h0 hr
   | halt y w1 =>
     exfalso;have:=hst (kOf b) [trap] w hw (zg7 b);rw [hsr] at this;rcases this with ⟨A',f,ch,es',e1,e2,_,e4,e5⟩ | ⟨o,w2,es',e1⟩
     . exact zfb e5 e4 (j4 (zke e1) hr) hs ch e2
     exact jg (Qu e1) hr
theorem ze6 (hP:jc P G):∀ (n:Nat) {A:Nat->Prop} {fr fr':Frame} {inner:List Frame} {w w':World},St2 P G A fr inner->HIn P G A w->runN P n (LM b fr inner w) = .next (LM b fr' [] w')->yp b fr' ->
 ∀ T d,(∀ j q,T (d + j) q = w.tape (w.drawn + j) q)->∃ d',runN P n (LM b fr inner (tp0 w T d)) = .next (LM b fr' [] (tp0 w' T d'))
 | n, A, fr, fr', inner, w, w', h, hw, hr, hs, T, d, hT => by
   by_cases hns:inner = []∧yp b fr
   . obtain ⟨rfl,hsf⟩:=hns;have hkind:fr.kind = .normal:=h.st.top.kind;have hro:fr.roundOf = none:=h.last fr (by simp);obtain ⟨rfl,rfl,rfl⟩:=Yp hsf hkind hro hr;exact ⟨d,rfl⟩
   obtain ⟨n',x,w1,A',c,rfl,hk,hw1,hst,hd,hr',_,hstep⟩:=zkt hP h hw hns hr hs;have e:=hstep T d fun j q _=>hT j q;obtain ⟨d',hd'⟩:=ze6 hP n' hst hw1 hr' hs T (d + c) (fun j q=>by
    rw [Nat.add_assoc,hT,hk.tape,hd,Nat.add_assoc])
   refine ⟨d', ?_⟩;simp only [runN,e];exact hd'
def Win (P:Program) (b:Bool) (R:Frame->World->Prop) (fr:Frame) (inner:List Frame) (w:World):Prop :=
 ∀ T d,∃ n fr' w',runN P n (LM b fr inner (tp0 w T d)) = .next (LM b fr' [] w')∧yp b fr'∧R fr' w'
inductive Sure (P:Program) (G:Cfg) (b:Bool) (R:Frame->World->Prop):(Nat->Prop)->Frame->List Frame->World->Prop
 | stop {A:Nat->Prop} {fr:Frame} {w:World}:yp b fr->R fr w->Sure P G b R A fr [] w
 | step {A:Nat->Prop} {fr:Frame} {inner:List Frame} {w:World} (x:(Nat->Question->Nat)->Nat->Frame × List Frame) (w1:(Nat->Question->Nat)->Nat->World) (A':(Nat->Question->Nat)->Nat->Nat->Prop)
  (hk:∀ T d,Kept A (A' T d) (tp0 w T d) (w1 T d)) (hh:∀ T d,HIn P G (A' T d) (w1 T d)) (hst:∀ T d,St2 P G (A' T d) (x T d).1 (x T d).2)
  (hgo:∀ T d k cs wR,okK b k->cutW G wR = tp0 w T d->∃ wR' es',(cutW G wR' = w1 T d∧Tail G wR wR')∧stepG P true (xo k cs fr inner) wR = .go (xo k cs (x T d).1 (x T d).2) wR' es'∧∀ e ∈ es',EvIn (A' T d) e)
  (h:∀ T d,Sure P G b R (A' T d) (x T d).1 (x T d).2 (w1 T d)):Sure P G b R A fr inner w
theorem Sure.of {R:Frame->World->Prop} {A:Nat->Prop} {fr:Frame} {inner:List Frame} {w:World}
 (h:∀ T d,∃ (x:Frame × List Frame) (w1:World) (A':Nat->Prop),Kept A A' (tp0 w T d) w1∧HIn P G A' w1∧St2 P G A' x.1 x.2 ∧
  (∀ k cs wR,okK b k->cutW G wR = tp0 w T d->∃ wR' es',(cutW G wR' = w1∧Tail G wR wR')∧stepG P true (xo k cs fr inner) wR = .go (xo k cs x.1 x.2) wR' es'∧∀ e ∈ es',EvIn A' e)∧Sure P G b R A' x.1 x.2 w1):Sure P G b R A fr inner w :=
 .step (fun T d=>Classical.choose (h T d)) (fun T d=>Classical.choose (Classical.choose_spec (h T d))) (fun T d=>Classical.choose (Classical.choose_spec (Classical.choose_spec (h T d))))
  (fun T d=>(Classical.choose_spec (Classical.choose_spec (Classical.choose_spec (h T d)))).1) (fun T d=>(Classical.choose_spec (Classical.choose_spec (Classical.choose_spec (h T d)))).2.1)
  (fun T d=>(Classical.choose_spec (Classical.choose_spec (Classical.choose_spec (h T d)))).2.2.1) (fun T d=>(Classical.choose_spec (Classical.choose_spec (Classical.choose_spec (h T d)))).2.2.2.1)
  (fun T d=>(Classical.choose_spec (Classical.choose_spec (Classical.choose_spec (h T d)))).2.2.2.2)
structure Nd (P:Program) (G:Cfg) (b:Bool) (R:Frame->World->Prop) where
 A:Nat->Prop
 fr:Frame
 inner:List Frame
 w:World
 st:St2 P G A fr inner
 hin:HIn P G A w
 win:Win P b R fr inner w
 non:¬ Sure P G b R A fr inner w
variable {R:Frame->World->Prop}
theorem Nd.live (hR:∀ fr w T d,R fr (tp0 w T d)->R fr w) (n:Nd P G b R):¬ (n.inner = []∧yp b n.fr):=by
 rintro ⟨hi,hs⟩;obtain ⟨A,fr,inner,w,st,hin,win,non⟩:=n;simp only at hi hs;subst hi;obtain ⟨k,fr',w',hr,_,hrr⟩:=win w.tape w.drawn;obtain ⟨_,rfl,rfl⟩:=Yp hs st.st.top.kind (st.last fr (by simp)) hr;exact non (.stop hs (hR _ _ _ _ hrr))
theorem Nd.next (hP:jc P G) (hR:∀ fr w T d,R fr (tp0 w T d)->R fr w) (n:Nd P G b R):∃ (T:Nat->Question->Nat) (d c:Nat) (n':Nd P G b R),
 ∀ T2 d2,(∀ j q,j < c->T2 (d2 + j) q = T (d + j) q)->step P (LM b n.fr n.inner (tp0 n.w T2 d2)) = .next (LM b n'.fr n'.inner (tp0 n'.w T2 (d2 + c))):=by
 have hlive:=n.live hR;obtain ⟨A,fr,inner,w,st,hin,win,non⟩:=n;simp only at hlive ⊢
 -- some tape leads to a child that is not sure
 have hbad:∃ T d,¬ ∃ (x:Frame × List Frame) (w1:World) (A':Nat->Prop),Kept A A' (tp0 w T d) w1∧HIn P G A' w1∧St2 P G A' x.1 x.2 ∧
  (∀ k cs wR,okK b k->cutW G wR = tp0 w T d->∃ wR' es',(cutW G wR' = w1∧Tail G wR wR')∧stepG P true (xo k cs fr inner) wR = .go (xo k cs x.1 x.2) wR' es'∧∀ e ∈ es',EvIn A' e)∧Sure P G b R A' x.1 x.2 w1:=by
  refine Classical.byContradiction fun hno=>non (.of fun T d=>?_);exact Classical.byContradiction fun h=>hno ⟨T,d,h⟩
 obtain ⟨T,d,hbad⟩:=hbad;obtain ⟨m,fr',w',hr,hs,_⟩:=win T d;obtain ⟨m',x,w1,A',c,rfl,hk,hw1,hst,hd,hr',hgo,hstep⟩:=zkt hP st (hin.tp T d) hlive hr hs;have hnon:¬ Sure P G b R A' x.1 x.2 w1:=fun h=>hbad ⟨x,w1,A',hk,hw1,hst,hgo,h⟩;have hfollow:∀ T2 d2,(∀ j q,j < c->T2 (d2 + j) q = T (d + j) q)->step P (LM b fr inner (tp0 w T2 d2)) = .next (LM b x.1 x.2 (tp0 w1 T2 (d2 + c))):=fun T2 d2 h2=>hstep T2 d2 h2;have hwin:Win P b R x.1 x.2 w1:=by
  intro T' d'
  -- the stretch, and then T'
  have ht:∃ T2:Nat->Question->Nat,(∀ j q,j < c->T2 j q = T (d + j) q)∧∀ j q,T2 (c + j) q = T' (d' + j) q :=
   ⟨fun p q=>if p < c then T (d + p) q else T' (d' + (p - c)) q,fun j q hj=>by simp [hj],fun j q=>(by show (if c + j < c then _ else _) = _;rw [if_neg (by omega),show c + j - c = j by omega])⟩
  obtain ⟨T2,h2,h3⟩:=ht;obtain ⟨m2,fr2,w2,hr2,hs2,hR2⟩:=win T2 0;have e:=hfollow T2 0 (fun j q hj=>by rw [Nat.zero_add];exact h2 j q hj);have hm2:∃ m3,m2 = m3 + 1:=by
   cases m2 with
   | zero =>
     simp only [runN,Stepped.next.injEq] at hr2;obtain ⟨g1,g2,_⟩:=zi3 hr2;exact absurd ⟨g1,g2 ▸ hs2⟩ hlive
   | succ m3=>exact ⟨m3,rfl⟩
  obtain ⟨m3,rfl⟩:=hm2;have hr3:=j4 e hr2;obtain ⟨d3,hd3⟩:=ze6 hP m3 hst (hw1.tp T2 (0 + c)) hr3 hs2 T' d' (fun j q=>by rw [← h3];simp [tp0]);exact ⟨m3,fr2,tp0 w2 T' d3,hd3,hs2,hR _ _ w2.tape w2.drawn (by rw [zqa,Xs];exact hR2)⟩
 exact ⟨T,d,c,⟨A',x.1,x.2,w1,hst,hw1,hwin,hnon⟩,hfollow⟩
theorem Q2 (hP:jc P G) (hR:∀ fr w T d,R fr (tp0 w T d)->R fr w) {A:Nat->Prop} {fr:Frame} {inner:List Frame} {w:World} (h:St2 P G A fr inner) (hw:HIn P G A w) (hwin:Win P b R fr inner w):Sure P G b R A fr inner w:=by
 refine Classical.byContradiction fun hno=>?_;have n0:Nd P G b R:=⟨A,fr,inner,w,h,hw,hwin,hno⟩;have hnx:=fun n:Nd P G b R=>n.next hP hR
 -- a path without end
 let nx:Nd P G b R->Nd P G b R:=fun n=>Classical.choose (Classical.choose_spec (Classical.choose_spec (Classical.choose_spec (hnx n))))
 let tN:Nd P G b R->(Nat->Question->Nat):=fun n=>Classical.choose (hnx n)
 let dN:Nd P G b R->Nat:=fun n=>Classical.choose (Classical.choose_spec (hnx n))
 let cN:Nd P G b R->Nat:=fun n=>Classical.choose (Classical.choose_spec (Classical.choose_spec (hnx n)))
 have hN:∀ n:Nd P G b R,∀ T2 d2,(∀ j q,j < cN n->T2 (d2 + j) q = tN n (dN n + j) q)->step P (LM b n.fr n.inner (tp0 n.w T2 d2)) = .next (LM b (nx n).fr (nx n).inner (tp0 (nx n).w T2 (d2 + cN n))) :=
  fun n=>Classical.choose_spec (Classical.choose_spec (Classical.choose_spec (Classical.choose_spec (hnx n))))
 let S:Nat->Nd P G b R:=fun i=>Nat.rec n0 (fun _ n=>nx n) i
 let s:Nat->Nat:=fun i=>Nat.rec 0 (fun j x=>x + cN (S j)) i
 have hs1:∀ i,s (i + 1) = s i + cN (S i):=fun _=>rfl;have hmono:∀ i j,i ≤ j->s i ≤ s j:=by
  intro i j hij
  induction hij with
  | refl=>exact Nat.le_refl _
  | step _ ih=>rw [hs1];omega
 -- the stretches, one behind the other
 have htape:∃ T:Nat->Question->Nat,∀ i j q,j < cN (S i)->T (s i + j) q = tN (S i) (dN (S i) + j) q:=by
  classical
  refine ⟨fun p q=>if hp:∃ i,s i ≤ p∧p < s (i + 1) then tN (S (Classical.choose hp)) (dN (S (Classical.choose hp)) + (p - s (Classical.choose hp))) q else 0,fun i j q hj=>?_⟩;have hp:∃ i',s i' ≤ s i + j∧s i + j < s (i' + 1):=⟨i,by omega,by rw [hs1];omega⟩;have hfind:Classical.choose hp = i:=by
   obtain ⟨h1,h2⟩:=Classical.choose_spec hp;rcases Nat.lt_trichotomy (Classical.choose hp) i with hlt | heq | hgt
   . have h3:=hmono (Classical.choose hp + 1) i hlt;omega
   . exact heq
   have h3:=hmono (i + 1) (Classical.choose hp) hgt;rw [hs1] at h3;omega
  simp only [hp,dite_true,hfind];rw [show s i + j - s i = j by omega]
 obtain ⟨T,hT⟩:=htape;have hrun:∀ i,runN P i (LM b (S 0).fr (S 0).inner (tp0 (S 0).w T 0)) = .next (LM b (S i).fr (S i).inner (tp0 (S i).w T (s i))):=by
  intro i
  induction i with
  | zero=>rfl
  | succ i ih =>
    rw [runN_add,ih];have:=hN (S i) T (s i) (fun j q hj=>hT i j q hj);simp only [runN,this];rfl
 obtain ⟨m,fr',w',hr,hst,_⟩:=(S 0).win T 0;rw [hrun m] at hr;simp only [Stepped.next.injEq] at hr;obtain ⟨g1,g2,_⟩:=zi3 hr;exact (S m).live hR ⟨g1,g2 ▸ hst⟩
end
end
section
open Go.Conc
open Go.ConcN (sumTo upd sumTo_upd upd_ne upd_same)
section
variable {P:Program} {G:Cfg} {Post:Value->World->Prop}
def Ends (P:Program) (Post:Value->World->Prop) (m:Machine) (t:Trace):Prop :=
 ∃ N last o w' t',runNT P (N + 1) m t = (.ended o w',t')∧runN P N m = .next last∧step P last = .ended o w'∧Go.Conc.Good P Post last o w' t'
theorem Ends.of_run {m m':Machine} {t t':Trace} {N:Nat} (h:runNT P N m t = (.next m',t')) (he:Ends P Post m' t'):Ends P Post m t:=by
 obtain ⟨K,last,o,w',t'',e1,e2,e3,e4⟩:=he;refine ⟨N + K,last,o,w',t'', ?_, ?_,e3,e4⟩
 . rw [Nat.add_assoc,runNT_add,h];exact e1
 rw [runN_add,← runNT_fst P N m t,h];exact e2
def k9 (P:Program) (Post:Value->World->Prop) (SB:Nat->Prop) (B:Nat) (g:Goroutine) (w:World):Prop :=
 ∀ (T : Nat -> Question -> Nat) (d : Nat) (gs : Array Goroutine) (sl : Option (Nat × Nat)) (t : Trace) (q : Nat -> Nat) (Shun : Loc -> Prop), (∀ l, Shun l -> ∃ a, l = .cell a ∧ SB a.block) ->
   gs[0]? = some g->Leavers P t gs q->Past Shun B t->Ends P Post (crowd gs (tp0 w T d) sl) t
def Fine (P:Program) (Post:Value->World->Prop) (SB:Nat->Prop) (g:Goroutine) (w:World):Prop:=k9 P Post SB w.heap.size g w
def EvF (SB:Nat->Prop) (n:Nat) (e:Event):Prop :=
 match e.loc with
 | .cell a=>¬ SB a.block∧a.block < n
 | .obj r=>r < n∧e.sync = false
 | .mark m=>m = .noRoom
 | _=>False
theorem EvF.evL {SB:Nat->Prop} {n:Nat} {e:Event} (h:EvF SB n e) {Shun:Loc->Prop} (hS:∀ l,Shun l->∃ a,l = .cell a∧SB a.block):EvL Shun n e:=by
 obtain ⟨loc,wr,sy⟩:=e;cases loc with
 | cell a =>
   obtain ⟨h1,h2⟩:¬ SB a.block∧a.block < n:=h;refine ⟨fun x hx hs=>?_,by simp,by simp,h2⟩;simp only [MemAct.ofEvent,MemAct.touch?,Option.some.injEq] at hx;subst hx;obtain ⟨a',e,hb⟩:=hS _ hs;cases e;exact absurd hb h1
 | obj r =>
   obtain ⟨h1,h2⟩:r < n∧sy = false:=h;subst h2;refine ⟨fun x hx hs=>?_,by simp,by simp, ?_⟩
   . have:x.loc = .obj r:=by cases wr <;> simp [MemAct.ofEvent,MemAct.touch?] at hx <;> subst hx <;> rfl
     rw [this] at hs;obtain ⟨a',e,_⟩:=hS _ hs;cases e
   cases wr <;> exact h1
 | mark m =>
   have:m = .noRoom:=h;subst this;exact ⟨fun x hx=>by simp [MemAct.ofEvent,MemAct.touch?] at hx,by simp,by simp,trivial⟩
 | output=>exact (h:False).elim
 | goroutines=>exact (h:False).elim
theorem EvIn.evF {A SB:Nat->Prop} {n:Nat} {e:Event} (h:EvIn A e) (h1:∀ b,A b->¬ SB b) (h2:∀ b,A b->b < n):EvF SB n e:=by
 obtain ⟨loc,wr,sy⟩:=e;cases loc with
 | cell a=>exact ⟨h1 _ h,h2 _ h⟩
 | obj r=>exact ⟨h2 _ h.1,h.2⟩
 | _=>exact h
theorem k9.step {SB:Nat->Prop} {B:Nat} {g:Goroutine} {w:World} (hg:g.status = .running)
 (h:∀ T d,∃ g' w' es B',stepG P true g (tp0 w T d) = .go g' w' es∧B ≤ B'∧(∀ e ∈ es,EvF SB B' e)∧k9 P Post SB B' g' w'):k9 P Post SB B g w:=by
 intro T d gs sl t q Shun hS h0 hL hP
 induction hM:sumTo gs.size q using Nat.strongRecOn generalizing d gs sl t q with
 | _ M ih =>
   have haw:∀ x ∈ gs,awake x:=by
    intro x hx;obtain ⟨i,hi,rfl⟩:=Array.mem_iff_getElem.1 hx;rcases Nat.eq_zero_or_pos i with rfl | hpos
    . have:gs[0] = g:=by simpa [Array.getElem?_eq_getElem hi] using h0
      rw [this];exact awake_of (.inl hg)
    exact awake_of ((hL.old i _ hpos (Array.getElem?_eq_getElem hi)).status.elim .inl fun x=>.inr (.inr x))
   obtain ⟨i,x,d',sl',hi,hx,hst⟩:=crowd_pick (P:=P) (w:=tp0 w T d) (sl:=sl) haw ⟨0,g,h0,hg⟩;rcases Nat.eq_zero_or_pos i with rfl | hpos
   . -- goroutine 0's step
     obtain rfl:x = g:=by rw [h0] at hi;exact (Option.some.inj hi).symm
     obtain ⟨g',w',es,B',hgo,hsz,hev,hfine⟩:=h T d';have hrunT:=runT_crowd_go (P:=P) (sl:=sl') (i:=0) (w:=(tp0 w T d).at d') hi (show stepG P (0 == 0) x (tp0 w T d') = _ from hgo);have hlt:0 < gs.size:=(Array.getElem?_eq_some_iff.1 h0).1;have hP':Past Shun B' (t ++ MemOp.ofEvents 0 x.frame.fn x.frame.place es):=(hP.mono hsz).own fun e he=>(hev e he).evL hS;have hL':Leavers P (t ++ MemOp.ofEvents 0 x.frame.fn x.frame.place es) ((gs.map (woken P x g' w')).setIfInBounds 0 g') q:=⟨fun j y hj hy=>by
      have hne:0 ≠ j:=by omega
      rw [Array.getElem?_setIfInBounds_ne hne,Array.getElem?_map] at hy;obtain ⟨z,hz,rfl⟩:=Option.map_eq_some_iff.1 hy;have hq:=hL.old j z hj hz;rw [woken_quitsD hq,Deaf_other t (by omega) _ (fun op hop=>by obtain ⟨e,_,rfl⟩:=Go.Conc.mem_ofEvents hop;rfl)];exact hq,fun j hj=>by
      rw [Deaf_other t (g':=0) (by simp at hj;omega) _ (fun op hop=>by obtain ⟨e,_,rfl⟩:=Go.Conc.mem_ofEvents hop;rfl)];exact hL.above j (by simpa using hj)⟩
     have hE:=hfine w'.tape w'.drawn _ sl' _ q Shun hS (by simp [hlt]) hL' hP';rw [Xs] at hE;refine Ends.of_run (N:=1) (m':=crowd ((gs.map (woken P x g' w')).setIfInBounds 0 g') w' sl') ?_ hE;simp only [runNT,hst,hrunT]
   -- a leaver's
   have hq:=hL.old i x hpos hi;have hi0:(i == 0) = false:=by simp;omega
   have hlt:i < gs.size:=(Array.getElem?_eq_some_iff.1 hi).1;cases hqi:q i with
   | zero=>rw [hqi] at hq;rw [hq.1] at hx;cases hx
   | succ k =>
     rw [hqi] at hq;rcases hq with ⟨hf,_⟩ | ⟨_,g',es,hm,hstp,hq'⟩
     . rw [hf] at hx;cases hx
     have hrunT:=runT_crowd_go (P:=P) (sl:=sl') (i:=i) (w:=(tp0 w T d).at d') hi (by rw [hi0];exact hstp _);have hsz:((gs.map (woken P x g' (tp0 w T d'))).setIfInBounds i g').size = gs.size:=by simp
     have hsum:sumTo gs.size (upd q i k) + (k + 1) = sumTo gs.size q + k:=by
      have:=sumTo_upd q k id hlt
      simpa [hqi] using this
     have h0':((gs.map (woken P x g' (tp0 w T d'))).setIfInBounds i g')[0]? = some g:=by
      have hne:i ≠ 0:=by omega
      rw [Array.getElem?_setIfInBounds_ne hne,Array.getElem?_map,h0];simp [woken_run hg]
     have hL':Leavers P (t ++ MemOp.ofEvents i x.frame.fn x.frame.place es) ((gs.map (woken P x g' (tp0 w T d'))).setIfInBounds i g') (upd q i k):=⟨fun j y hj hy=>by
      by_cases hji:i = j
      . subst hji;rw [Array.getElem?_setIfInBounds_self_of_lt (by simpa using hlt)] at hy;obtain rfl:=Option.some.inj hy;rw [upd_same,Deaf_own];exact hq'
      . rw [Array.getElem?_setIfInBounds_ne hji,Array.getElem?_map] at hy;obtain ⟨z,hz,rfl⟩:=Option.map_eq_some_iff.1 hy;have hqj:=hL.old j z hj hz;rw [woken_quitsD hqj,upd_ne q k (Ne.symm hji),Deaf_other t hji _ (fun op hop=>by obtain ⟨e,_,rfl⟩:=Go.Conc.mem_ofEvents hop;rfl)];exact hqj,fun j hj=>by
      rw [Deaf_other t (g':=i) (by simp at hj;omega) _ (fun op hop=>by obtain ⟨e,_,rfl⟩:=Go.Conc.mem_ofEvents hop;rfl)];exact hL.above j (by simpa using hj)⟩
     have hE:=ih (sumTo gs.size (upd q i k)) (by omega) d' _ sl' _ _ h0' hL' (hP.mute (g:=i) (fn:=x.frame.fn) (pos:=x.frame.place) (by omega) hm) (by rw [hsz]);refine Ends.of_run (N:=1) (m':=crowd ((gs.map (woken P x g' (tp0 w T d'))).setIfInBounds i g') (tp0 w T d') sl') ?_ hE;simp only [runNT,hst,hrunT];rfl
theorem Fine.step {SB:Nat->Prop} {g:Goroutine} {w:World} (hg:g.status = .running)
 (h:∀ T d,∃ g' w' es,stepG P true g (tp0 w T d) = .go g' w' es∧w.heap.size ≤ w'.heap.size∧(∀ e ∈ es,EvF SB w'.heap.size e)∧Fine P Post SB g' w'):Fine P Post SB g w :=
 k9.step hg fun T d=>let ⟨g',w',es,h1,h2,h3,h4⟩:=h T d;⟨g',w',es,w'.heap.size,h1,h2,h3,h4⟩
end
end
section
open Go.Conc Go.ConcN

structure TI (Shun Grp:Loc->Prop) (Own:Nat->Loc->Prop) (Ro:Loc->Prop) (o J:Nat) (t:Trace):Prop where
 quiet:Quiet Grp t
 own:∀ k,1 ≤ k->k ≤ J->∀ l,Own k l->Perm t k l
 ro:∀ k,o < k->k ≤ J->∀ l,Ro l->PermW t k l
 free:∀ l,l.isMemory = true->¬ Shun l->¬ Grp l->(∀ k,1 ≤ k->k ≤ J->¬ Own k l)->¬ Ro l->Perm t 0 l
 mine:∀ l,l.isMemory = true->¬ Shun l->¬ Grp l->(∀ k,1 ≤ k->k ≤ J->¬ Own k l)->PermW t 0 l
 atom:∀ i a,touchAt t i = some a->a.loc.isMemory = true->a.kind = .atomic->Knows t 0 i∨Shun a.loc∨Grp a.loc
 nr:∀ said,¬ Race said t
 newd:∀ k,J < k->Deaf t k = 0

structure zgg (Shun Grp:Loc->Prop) (Own:Nat->Loc->Prop) (Ro:Loc->Prop):Prop where
 own:∀ k k' l,Own k l->Own k' l->k = k'
 ownRo:∀ k l,Own k l->¬ Ro l
 ownGrp:∀ k l,Own k l->¬ Grp l
 roGrp:∀ l,Ro l->¬ Grp l
 ownShun:∀ k l,Own k l->¬ Shun l
 roShun:∀ l,Ro l->¬ Shun l
 ownMem:∀ k l,Own k l->l.isMemory = true
 roMem:∀ l,Ro l->l.isMemory = true

section
variable {Shun Grp:Loc->Prop} {Own Own':Nat->Loc->Prop} {Ro:Loc->Prop} {o J:Nat} {t u:Trace}

def May0 (Shun Grp:Loc->Prop) (Own:Nat->Loc->Prop) (Ro:Loc->Prop) (J:Nat) (op:MemOp):Prop :=
 op.g = 0∧∀ x,op.act.touch? = some x->(Grp x.loc∧x.kind ≠ .plain)∨(¬ Grp x.loc∧¬ Shun x.loc∧(∀ k,1 ≤ k->k ≤ J->¬ Own k x.loc)∧(x.write = true->¬ Ro x.loc))
def MayW (Grp:Loc->Prop) (Own:Nat->Loc->Prop) (Ro:Loc->Prop) (o k:Nat) (op:MemOp):Prop :=
 op.g = k∧∀ x,op.act.touch? = some x->(Grp x.loc∧x.kind = .atomic)∨(Own k x.loc∧x.kind = .plain)∨(o < k∧Ro x.loc∧x.write = false∧x.kind = .plain)

theorem TI.app0 (A:zgg Shun Grp Own Ro) (h:TI Shun Grp Own Ro o J t) (hu:∀ op ∈ u,May0 Shun Grp Own Ro J op):TI Shun Grp Own Ro o J (t ++ u):=by
 have g0:∀ op ∈ u,op.g = 0:=fun op hop=>(hu op hop).1;refine ⟨h.quiet.app fun op hop x hx hs=>?_,fun k k1 kJ l hl=>(h.own k k1 kJ l hl).app fun op hop b hb e=>?_,fun k k1 kJ l hl=>(h.ro k k1 kJ l hl).app fun op hop b hb e hw=>?_,
  fun l m a b c d=>(h.free l m a b c d).app fun op hop _ _ _=>g0 op hop,fun l m a b c=>(h.mine l m a b c).app fun op hop _ _ _ _=>g0 op hop,fun i a ha hm hk=>?_,fun said=>?_,fun k hk=>(Deaf_other t (by omega) u g0).trans (h.newd k hk)⟩
 . rcases (hu op hop).2 x hx with ⟨_,hk⟩ | ⟨hn,_⟩
   . exact ⟨hk,fun _=>g0 op hop⟩
   exact absurd hs hn
 . rcases (hu op hop).2 b hb with ⟨hs,_⟩ | ⟨_,_,hn,_⟩
   . exact absurd (e ▸ hs) (A.ownGrp k l hl)
   exact absurd (e ▸ hl) (hn k k1 kJ)
 . rcases (hu op hop).2 b hb with ⟨hs,_⟩ | ⟨_,_,_,hn⟩
   . exact absurd (e ▸ hs) (A.roGrp l hl)
   exact absurd (e ▸ hl) (hn hw)
 . obtain ⟨x,hx,hxa⟩:=touch_of ha;rcases getElem?_append_cases hx with ⟨_,hx'⟩ | ⟨_,hxu⟩
   . exact (h.atom i a (by rw [touchAt_of hx'];exact hxa) hm hk).imp (·.app u) id
   have:=knows_own hx;rw [g0 x hxu] at this;exact .inl this
 refine noRace_append (h.nr said) g0 (fun i a ha op hop b hb hc=>?_);rcases (hu op hop).2 b hb with ⟨hs,hk⟩ | ⟨hg,hs,hno,hnr⟩
 . exact h.quiet.known hs hk (fun _=>rfl) i a ha hc
 cases hbw:b.write with
 | true=>exact h.free b.loc (hc.1 ▸ hc.2.1) hs hg hno (hnr hbw) i a ha hc.1
 | false=>exact h.mine b.loc (hc.1 ▸ hc.2.1) hs hg hno i a ha hc.1 (hc.2.2.1.resolve_right (by simp [hbw]))

theorem TI.appW (A:zgg Shun Grp Own Ro) (h:TI Shun Grp Own Ro o J t) {k:Nat} (k1:1 ≤ k) (kJ:k ≤ J) (hu:∀ op ∈ u,MayW Grp Own Ro o k op):TI Shun Grp Own Ro o J (t ++ u):=by
 have gk:∀ op ∈ u,op.g = k:=fun op hop=>(hu op hop).1;refine ⟨h.quiet.app fun op hop x hx hs=>?_,fun k' k1' kJ' l hl=>(h.own k' k1' kJ' l hl).app fun op hop b hb e=>?_,fun k' k1' kJ' l hl=>(h.ro k' k1' kJ' l hl).app fun op hop b hb e hw=>?_,
  fun l m hs hg hl hr=>(h.free l m hs hg hl hr).app fun op hop b hb e=>?_,fun l m hs hg hl=>(h.mine l m hs hg hl).app fun op hop b hb e hw=>?_,fun i a ha hm hk=>?_,fun said=>?_,fun k' hk'=>(Deaf_other t (by omega) u gk).trans (h.newd k' hk')⟩
 . rcases (hu op hop).2 x hx with ⟨_,hk⟩ | ⟨ho,_⟩ | ⟨_,hr,_⟩
   . rw [hk];exact ⟨by simp,by simp⟩
   . exact absurd hs (A.ownGrp k _ ho)
   exact absurd hs (A.roGrp _ hr)
 . rcases (hu op hop).2 b hb with ⟨hs,_⟩ | ⟨ho,_⟩ | ⟨_,hr,_⟩
   . exact absurd (e ▸ hs) (A.ownGrp k' l hl)
   . rw [gk op hop];exact A.own k k' l (e ▸ ho) hl
   exact absurd (e ▸ hr) (A.ownRo k' l hl)
 . rcases (hu op hop).2 b hb with ⟨hs,_⟩ | ⟨ho,_⟩ | ⟨_,_,hr,_⟩
   . exact absurd (e ▸ hs) (A.roGrp l hl)
   . exact absurd hl (A.ownRo k l (e ▸ ho))
   rw [hr] at hw;cases hw
 . rcases (hu op hop).2 b hb with ⟨hs',_⟩ | ⟨ho,_⟩ | ⟨_,hr',_⟩
   . exact absurd (e ▸ hs') hg
   . exact absurd (e ▸ ho) (hl k k1 kJ)
   exact absurd (e ▸ hr') hr
 . rcases (hu op hop).2 b hb with ⟨hs',_⟩ | ⟨ho,_⟩ | ⟨_,_,hr,_⟩
   . exact absurd (e ▸ hs') hg
   . exact absurd (e ▸ ho) (hl k k1 kJ)
   rw [hr] at hw;cases hw
 . obtain ⟨x,hx,hxa⟩:=touch_of ha;rcases getElem?_append_cases hx with ⟨_,hx'⟩ | ⟨_,hxu⟩
   . exact (h.atom i a (by rw [touchAt_of hx'];exact hxa) hm hk).imp (·.app u) id
   rcases (hu x hxu).2 a hxa with ⟨hs,_⟩ | ⟨_,hp⟩ | ⟨_,_,_,hp⟩
   . exact .inr (.inr hs)
   . rw [hp] at hk;cases hk
   rw [hp] at hk;cases hk
 refine noRace_append (h.nr said) gk (fun i a ha op hop b hb hc=>?_);rcases (hu op hop).2 b hb with ⟨hs,hk⟩ | ⟨ho,_⟩ | ⟨hko,hr,hbw,_⟩
 . exact h.quiet.known hs (by rw [hk];simp) (fun e=>by rw [hk] at e;cases e) i a ha hc
 . exact h.own k k1 kJ b.loc ho i a ha hc.1
 exact h.ro k hko kJ b.loc hr i a ha hc.1 (hc.2.2.1.resolve_right (by simp [hbw]))

theorem TI.reown (h:TI Shun Grp Own Ro o J t) (h1:∀ k,1 ≤ k->k ≤ J->∀ l,Own' k l->Own k l∨∀ i a,touchAt t i = some a->a.loc ≠ l) (h2:∀ k,1 ≤ k->k ≤ J->∀ l,Own k l->Own' k l):TI Shun Grp Own' Ro o J t :=
 ⟨h.quiet,fun k k1 kJ l hl=>(h1 k k1 kJ l hl).elim (h.own k k1 kJ l) fun hn i a ha e=>absurd e (hn i a ha),h.ro,
  fun l m hs hg hl hr=>h.free l m hs hg (fun k k1 kJ x=>hl k k1 kJ (h2 k k1 kJ l x)) hr,fun l m hs hg hl=>h.mine l m hs hg (fun k k1 kJ x=>hl k k1 kJ (h2 k k1 kJ l x)),h.atom,h.nr,h.newd⟩

theorem TI.fork (A:zgg Shun Grp Own Ro) (ho:o ≤ J) (h:TI Shun Grp Own Ro o J t) {x y:MemOp} (hx:x.g = 0∧x.act = .go (J + 1)) (hy:y.g = J + 1∧y.act = .start) (h0:Deaf t 0 = 0):TI Shun Grp Own Ro o (J + 1) (t ++ #[x,y]):=by
 have hk:Deaf t (J + 1) = 0:=h.newd _ (Nat.lt_succ_self J);have hnt:∀ op ∈ #[x,y],∀ b,op.act.touch? = some b->False:=by
  intro op hop b hb;simp only [List.mem_toArray,List.mem_cons,List.not_mem_nil,or_false] at hop;rcases hop with rfl | rfl
  . rw [hx.2] at hb;cases hb
  rw [hy.2] at hb;cases hb
 have old:∀ {i:Nat} {a:Touch},touchAt (t ++ #[x,y]) i = some a->touchAt t i = some a:=by
  intro i a ha;obtain ⟨z,hz,hza⟩:=touch_of ha;rcases getElem?_append_cases hz with ⟨_,hz'⟩ | ⟨_,hzu⟩
  . rw [touchAt_of hz'];exact hza
  exact (hnt z hzu a hza).elim
 refine ⟨h.quiet.app fun op hop b hb _=>(hnt op hop b hb).elim,fun k k1 kJ l hl=>?_,fun k k1 kJ l hl=>?_,
  fun l m hs hg hl hr=>(h.free l m hs hg (fun k k1 kJ=>hl k k1 (by omega)) hr).app fun op hop b hb _=>(hnt op hop b hb).elim,fun l m hs hg hl=>(h.mine l m hs hg fun k k1 kJ=>hl k k1 (by omega)).app fun op hop b hb _ _=>(hnt op hop b hb).elim,
  fun i a ha hm hk=>(h.atom i a (old ha) hm hk).imp (·.app _) id,fun said=>?_,fun k hk'=>(Deaf_still t k _ fun op hop=>?_).trans (h.newd k (by omega))⟩
 . rcases Nat.lt_or_ge J k with hlt | hge
   . obtain rfl:k = J + 1:=by omega
     exact fun i a ha e=>fork_knows hx hy h0 hk (h.free l (A.ownMem _ l hl) (A.ownShun _ l hl) (A.ownGrp _ l hl) (fun k' _ k'J ho=>by have:=A.own _ _ l ho hl;omega) (A.ownRo _ l hl) i a (old ha) e)
   exact (h.own k k1 hge l hl).app fun op hop b hb _=>(hnt op hop b hb).elim
 . rcases Nat.lt_or_ge J k with hlt | hge
   . obtain rfl:k = J + 1:=by omega
     exact fun i a ha e hw=>fork_knows hx hy h0 hk (h.mine l (A.roMem l hl) (A.roShun l hl) (A.roGrp l hl) (fun k' _ _ ho=>A.ownRo _ l ho hl) i a (old ha) e hw)
   exact (h.ro k k1 hge l hl).app fun op hop b hb _ _=>(hnt op hop b hb).elim
 . have e:t ++ #[x,y] = (t ++ #[x]) ++ #[y]:=by apply Array.ext';simp
   rw [e];refine noRace_append (g:=J + 1) (noRace_append (g:=0) (h.nr said) (fun op hop=>by simp at hop;rw [hop];exact hx.1) (fun i a _ op hop b hb _=>(hnt op (by simp at hop ⊢;exact .inl hop) b hb).elim))
    (fun op hop=>by simp at hop;rw [hop];exact hy.1) (fun i a _ op hop b hb _=>(hnt op (by simp at hop ⊢;exact .inr hop) b hb).elim)
 simp only [List.mem_toArray,List.mem_cons,List.not_mem_nil,or_false] at hop;rcases hop with rfl | rfl
 . rw [hx.2];exact ⟨by simp,by simp⟩
 rw [hy.2];exact ⟨by simp,by simp⟩

theorem TI.begin {B:Nat} (hP:Past Shun B t) (hM:∀ l,Grp l->l.isMemory = true) (hG:∀ l,Grp l->¬ l.low B) (hO:∀ k,1 ≤ k->k ≤ o->∀ l,¬ Own k l) (hg:∀ k,o < k->Deaf t k = 0):TI Shun Grp Own Ro o o t:=by
 have low:∀ i a,touchAt t i = some a->¬ Grp a.loc:=by
  intro i a ha hgr;obtain ⟨x,hx,hxa⟩:=touch_of ha;refine hG _ hgr ?_;have:=hP.seen x (Array.mem_of_getElem? hx);revert this hxa;cases x.act with
  | access e=>intro hxa h;simp only [MemAct.touch?,Option.some.injEq] at hxa;subst hxa;exact h
  | mark m=>cases m <;> intro hxa h <;> simp only [MemAct.touch?,Option.some.injEq,reduceCtorEq] at hxa <;> subst hxa <;> exact h
  | _=>intro hxa;simp [MemAct.touch?] at hxa
 have kn:∀ l,l.isMemory = true->¬ Shun l->Perm t 0 l:=fun l hm hs i a ha e=>(hP.known i a ha (e ▸ hm)).elim id fun x=>absurd (e ▸ x.1) hs;exact ⟨fun i op x hi hx hs=>absurd hs (low i x (by rw [touchAt_of hi];exact hx)),fun k k1 kJ l hl=>absurd hl (hO k k1 kJ l),fun k k1 kJ=>by omega,
  fun l hm hs _ _ _=>kn l hm hs,fun l hm hs _ _=>.of (kn l hm hs),fun i a ha hm hk=>(hP.known i a ha hm).imp id fun x=>.inl x.1,hP.clean,hg⟩

def Hand (t:Trace) (g:Nat):Prop:=∀ i,t.g? i = some g->t.counts i->∃ j,t.g? j = some 0∧HappensBefore t i j
theorem Hand.app {g:Nat} (h:Hand t g) (hu:∀ op ∈ u,op.g = g->op.act.touch? = none):Hand (t ++ u) g:=by
 intro i hi hc;rcases Nat.lt_or_ge i t.size with hlt | hge
 . obtain ⟨j,h1,h2⟩:=h i (by rw [← g?_old (u:=u) hlt];exact hi) ((counts_old hlt).1 hc);have hj:j < t.size:=by
    unfold Trace.g? at h1;obtain ⟨z,hz,_⟩:=Option.map_eq_some_iff.1 h1;exact lt_size_of_getElem? hz
   exact ⟨j,by rw [g?_old hj];exact h1,hb_app u h2⟩
 obtain ⟨op,ho,hog⟩:=Option.map_eq_some_iff.1 hi;rcases getElem?_append_cases ho with ⟨hlt,_⟩ | ⟨_,hou⟩
 . omega
 obtain ⟨x,hx,_⟩:=hc;simp only [Trace.act?,ho,Option.map_some,Option.bind_some] at hx;rw [hu op hou hog] at hx;cases hx
theorem Hand.of_rel {a:Addr} {g r q:Nat} (h:RelBy a t g r) (hrq:r < q) (hn:NoRelease a t) (hq:t.act? q = some (.mark (.acquire a))) (hg:t.g? q = some 0) (hh:t.heard q):Hand t g:=by
 intro i hi hc;have edge:HappensBefore t r q:=.single (.inr ⟨.marked hrq (.inr h.act) hq (fun k _ _=>hn k),h.heard,hh⟩);have hle:i ≤ r:=Nat.le_of_not_lt fun hlt=>h.after i hlt hi hc;rcases Nat.lt_or_ge i r with hlt | hge
 . exact ⟨q,hg, .trans (.single (.inl ⟨hlt,g,hi,h.g⟩)) edge⟩
 obtain rfl:i = r:=by omega
 exact ⟨q,hg,edge⟩
theorem TI.finish {B:Nat} (h:TI Shun Grp Own Ro o J t) (hand:∀ g,g ≠ 0->Hand t g) (h0:Deaf t 0 = 0) (hs:∀ op ∈ t,op.act.low B):Past (fun l=>Shun l∨Grp l) B t:=by
 have hov:t.HandedOver:=fun i g hg hne hc=>hand g hne i hg hc;refine ⟨h.nr,fun i a ha hm=>?_,hov,h0,hs⟩;by_cases hk:a.kind = .atomic
 . exact (h.atom i a ha hm hk).imp id fun x=>⟨x,hk⟩
 obtain ⟨x,hx,hxa⟩:=touch_of ha;by_cases h0:x.g = 0
 . have:=knows_own hx;rw [h0] at this;exact .inl this
 obtain ⟨j,hj,hb⟩:=hov i x.g (by simp [Trace.g?,hx]) h0 ⟨a,ha,hm, .inl hk⟩;obtain ⟨z,hz,hzg⟩:=Option.map_eq_some_iff.1 hj;exact .inl ⟨j,z,hz,hzg, .inr hb⟩
end
end
section
open Go.Conc Go.ConcN
open Go.ConcR (KK WgAt stA smA rd wr mk DC0)

structure Ph where
 ty:TypeId
 Wg:Nat
 C:Nat
 n0:Nat
 ety:TypeId
 sz:Nat
 h0:Array Obj
 SB:Nat->Prop
 nw:Nat
 res:Nat->List (Nat × Value)
structure Ph.Ok (Φ:Ph):Prop where
 hC:Φ.C < Φ.n0
 hW:Φ.Wg < Φ.n0
 hCW:Φ.C ≠ Φ.Wg
 hSB:∀ b,Φ.SB b->b < Φ.n0∧b ≠ Φ.C∧b ≠ Φ.Wg
 hres:∀ i i' off v v',(off,v) ∈ Φ.res i->(off,v') ∈ Φ.res i'->i = i'
 few:Φ.nw < 1000000

def Ph.Ro (Φ:Ph) (b:Nat):Prop:=b < Φ.n0∧b ≠ Φ.C∧b ≠ Φ.Wg∧¬ Φ.SB b
def Ph.Pay (Φ:Ph) (w:World):Prop:=∃ cs:Array Value,w.heap[Φ.C]? = some (.cells cs Φ.ety)∧cs.size = Φ.sz
def Ph.Old (Φ:Ph) (w:World):Prop:=∀ b,b < Φ.n0->b ≠ Φ.C->b ≠ Φ.Wg->w.heap[b]? = Φ.h0[b]?
def Ph.mine (Φ:Ph) (i:Nat) (off:Nat):Prop:=∃ v,(off,v) ∈ Φ.res i
def Ph.Has (Φ:Ph) (i:Nat) (w:World):Prop:=∀ p ∈ Φ.res i,w.cell? ⟨Φ.C,p.1,none⟩ = some p.2

structure Ph.R (Φ:Ph) (S:Nat->Prop) (w w₁:World):Prop where
 own:∀ b,S b->w₁.heap[b]? = w.heap[b]?
 old:Φ.Old w->Φ.Old w₁
 pay:Φ.Pay w->Φ.Pay w₁
 live:WgLive Φ.ty Φ.Wg w->WgLive Φ.ty Φ.Wg w₁
 n0:Φ.n0 ≤ w.heap.size->Φ.n0 ≤ w₁.heap.size
theorem Ph.R.refl (Φ:Ph) (S:Nat->Prop) (w:World):Φ.R S w w:=⟨fun _ _=>rfl,id,id,id,id⟩
theorem Ph.R.trans {Φ:Ph} {S:Nat->Prop} (a b c:World) (h:Φ.R S a b) (k:Φ.R S b c):Φ.R S a c :=
 ⟨fun x hx=>(k.own x hx).trans (h.own x hx),k.old ∘ h.old,k.pay ∘ h.pay,k.live ∘ h.live,k.n0 ∘ h.n0⟩
theorem Ph.R.at (Φ:Ph) (S:Nat->Prop) (w:World) (d:Nat):Φ.R S w (w.at d):=⟨fun _ _=>rfl,id,id,id,id⟩

structure Ph.Turn (Φ:Ph) (S:Nat->Prop) (cs:Nat->Prop) (w w':World):Prop where
 size:w.heap.size ≤ w'.heap.size
 stand:∀ b,b < w.heap.size->¬ S b->b ≠ Φ.C->b ≠ Φ.Wg->w'.heap[b]? = w.heap[b]?
 pay:Φ.Pay w->Φ.Pay w'
 cells:∀ off,¬ cs off->w'.cell? ⟨Φ.C,off,none⟩ = w.cell? ⟨Φ.C,off,none⟩
 os:w'.os = w.os
 output:w'.output = w.output
theorem Ph.Turn.refl (Φ:Ph) (S:Nat->Prop) (cs:Nat->Prop) (w:World):Φ.Turn S cs w w:=⟨Nat.le_refl _,fun _ _ _ _ _=>rfl,id,fun _ _=>rfl,rfl,rfl⟩
theorem Ph.Turn.of_wg {Φ:Ph} (k:Φ.Ok) {S:Nat->Prop} {cs:Nat->Prop} {w w':World} (h:Go.Conc.Aside Φ.Wg w w'):Φ.Turn S cs w w' :=
 ⟨by rw [h.size];exact Nat.le_refl _,fun b _ _ _ hb=>h.block b hb,fun ⟨c,h1,h2⟩=>⟨c,(h.block _ k.hCW).trans h1,h2⟩,fun off _=>cell_of_block (h.block _ k.hCW) off,h.os,h.output⟩
theorem Ph.Turn.of_push {Φ:Ph} {S:Nat->Prop} {cs:Nat->Prop} {w:World} (hC:Φ.C < w.heap.size) (o:Obj):Φ.Turn S cs w { w with heap:=w.heap.push o }:=by
 have old:∀ b,b < w.heap.size->(w.heap.push o)[b]? = w.heap[b]?:=fun b hb=>by rw [Array.getElem?_push_lt hb,← Array.getElem?_eq_getElem]
 exact ⟨by simp,fun b hb _ _ _=>old b hb,fun ⟨c,h1,h2⟩=>⟨c,(old _ hC).trans h1,h2⟩,fun off _=>cell_of_block (w:=w) (w₁:={ w with heap:=w.heap.push o }) (old _ hC) off,rfl,rfl⟩
theorem Ph.Turn.rely {Φ:Ph} {S S':Nat->Prop} {cs:Nat->Prop} {w w':World} (h:Φ.Turn S cs w w') (hn:Φ.n0 ≤ w.heap.size) (hS:∀ b,S b->Φ.n0 ≤ b)
 (hS':∀ b,S' b->b < w.heap.size∧¬ S b∧b ≠ Φ.C∧b ≠ Φ.Wg) (hl:WgLive Φ.ty Φ.Wg w'):Φ.R S' w w' :=
 ⟨fun b hb=>let ⟨h1,h2,h3,h4⟩:=hS' b hb;h.stand b h1 h2 h3 h4,fun ho b hb h1 h2=>(h.stand b (by omega) (fun hs=>by have:=hS b hs;omega) h1 h2).trans (ho b hb h1 h2),h.pay,fun _=>hl,fun _=>Nat.le_trans hn h.size⟩

structure Ph.DB (Φ:Ph) (S:Nat->Prop) (w w':World) (es:Array Event):Prop where
 size:w'.heap.size = w.heap.size
 stand:∀ b,¬ S b->w'.heap[b]? = w.heap[b]?
 os:w'.os = w.os
 output:w'.output = w.output
 evs:∀ e ∈ es,∃ a wr,e = ⟨.cell a,wr,false⟩∧a.block < w.heap.size∧(S a.block∨(Φ.Ro a.block∧wr = false))
theorem Ph.DB.turn {Φ:Ph} {S:Nat->Prop} {cs:Nat->Prop} {w w':World} {es:Array Event} (h:Φ.DB S w w' es) (hC:¬ S Φ.C):Φ.Turn S cs w w' :=
 ⟨by rw [h.size];exact Nat.le_refl _,fun b _ hb _ _=>h.stand b hb,fun ⟨c,h1,h2⟩=>⟨c,(h.stand _ hC).trans h1,h2⟩,fun off _=>cell_of_block (h.stand _ hC) off,h.os,h.output⟩

def Act1 (P:Program) (main:Bool) (R:World->World->Prop) (pre:World->Prop) (f:World->World) (es:Array Event) (Nx:Goroutine->World->Prop) (g:Goroutine) (w:World):Prop :=
 g.status = .running∧(pre w->∃ g',stepG P main g w = .go g' (f w) es∧∃ m,Goes P main R DC0 Nx m g' (f w))

section
variable (P:Program) (ty:TypeId) (Wg:Nat) (R:World->World->Prop)
def V4 (g:Goroutine) (w:World):Prop :=
 g.status = .running∧mayWake P g = true∧(WgAt ty Wg w 0 0->∃ g',stepG P false g w = .go g' (w.setCell (smA Wg) (.int .u32 1)) (semEvents (smA Wg))∧∃ q,QuitsD P q 1 g')
def V3:Goroutine->World->Prop:=Act1 P false R (fun w=>WgAt ty Wg w 1 0) (fun w=>w.setCell (stA Wg) (.int .u64 0)) #[wr (stA Wg)] (V4 P ty Wg)
def V2:Goroutine->World->Prop:=Act1 P false R (fun w=>WgAt ty Wg w 1 0) id #[rd (stA Wg)] (V3 P ty Wg R)
def V1 (g:Goroutine) (w:World):Prop :=
 g.status = .running∧∀ v wt:Nat,wt ≤ 1->v < 2147483647->WgAt ty Wg w ((v + 1) * KK + wt) 0 ->
  ∃ g', stepG P false g w = .go g' (w.setCell (stA Wg) (.int .u64 (v * KK + wt))) #[rd (stA Wg), wr (stA Wg)] ∧
    ((v = 0∧wt = 1)->∃ m,Goes P false R DC0 (V2 P ty Wg R) m g' (w.setCell (stA Wg) (.int .u64 (v * KK + wt))))∧(¬ (v = 0∧wt = 1)->∃ q,QuitsD P q 1 g')
def VK:Goroutine->World->Prop:=Act1 P false R (fun _=>True) id #[mk .disable] (V1 P ty Wg R)
def VR:Goroutine->World->Prop:=Act1 P false R (fun _=>True) id #[mk (.releaseMerge (stA Wg))] (VK P ty Wg R)

variable (K:Goroutine->Prop) (An:Goroutine->World->Prop)
def S9 (g:Goroutine) (w:World):Prop:=g.status = .running∧∃ g',stepG P true g w = .go g' w #[mk (.acquire (stA Wg))]∧K g'
def S8:Goroutine->World->Prop:=Act1 P true R (fun _=>True) id #[mk .enable] (S9 P Wg K)
def S7:Goroutine->World->Prop:=Act1 P true R (fun w=>WgAt ty Wg w 0 0) id #[rd (stA Wg)] (S8 P Wg R K)
def S6 (g:Goroutine) (w:World):Prop :=
 g.status = .running∧g.offers = none∧((∃ st,WgAt ty Wg w st 0)->stepG P true g w = .go { g with status:=.blocked } w #[]) ∧
  (WgAt ty Wg w 0 1->∃ g',stepG P true g w = .go g' (w.setCell (smA Wg) (.int .u32 0)) (semEvents (smA Wg))∧∃ m,Goes P true R DC0 (S7 P ty Wg R K) m g' (w.setCell (smA Wg) (.int .u32 0)))
def S5:Goroutine->World->Prop:=Act1 P true R (fun _=>True) id #[mk (.write (smA Wg))] (S6 P ty Wg R K)
def S4 (vs:Nat) (g:Goroutine) (w:World):Prop :=
 g.status = .running∧∀ v:Nat,v < 2147483648->WgAt ty Wg w (v * KK) 0 ->
  (v = vs->∃ g',stepG P true g w = .go g' (w.setCell (stA Wg) (.int .u64 (v * KK + 1))) #[rd (stA Wg),wr (stA Wg)]∧∃ m,Goes P true R DC0 (S5 P ty Wg R K) m g' (w.setCell (stA Wg) (.int .u64 (v * KK + 1)))) ∧
  (v ≠ vs->∃ g',stepG P true g w = .go g' w #[rd (stA Wg)]∧∃ m,Goes P true R DC0 An m g' w)
def S3 (g:Goroutine) (w:World):Prop :=
 g.status = .running∧∀ v:Nat,v < 2147483648->WgAt ty Wg w (v * KK) 0->∃ g',stepG P true g w = .go g' w #[rd (stA Wg)] ∧
  (v = 0->∃ m,Goes P true R DC0 (S8 P Wg R K) m g' w)∧(v ≠ 0->∃ m,Goes P true R DC0 (S4 P ty Wg R K An v) m g' w)
def S1:Goroutine->World->Prop:=Act1 P true R (fun _=>True) id #[mk .disable] An

variable (Go':Goroutine->World->Prop)
def T2:Goroutine->World->Prop:=Act1 P true R (fun _=>True) id #[mk .enable] Go'
def T3:Goroutine->World->Prop:=Act1 P true R (fun _=>True) id #[mk (.read (smA Wg))] (T2 P R Go')
def T4 (g:Goroutine) (w:World):Prop :=
 g.status = .running∧∀ v:Nat,v < 2147483647->WgAt ty Wg w (v * KK) 0 ->
  ∃ g', stepG P true g w = .go g' (w.setCell (stA Wg) (.int .u64 ((v + 1) * KK))) #[rd (stA Wg), wr (stA Wg)] ∧
    (v = 0->∃ m,Goes P true R DC0 (T3 P Wg R Go') m g' (w.setCell (stA Wg) (.int .u64 ((v + 1) * KK)))) ∧
    (v ≠ 0->∃ m,Goes P true R DC0 (T2 P R Go') m g' (w.setCell (stA Wg) (.int .u64 ((v + 1) * KK))))
def T5:Goroutine->World->Prop:=Act1 P true R (fun _=>True) id #[mk .disable] (T4 P ty Wg R Go')
end

section
variable (Φ:Ph) (P:Program)
def Ph.Body (i:Nat):Nat->(Nat->Prop)->Goroutine->World->Prop
 | 0,S,g,w=>g.status = .running∧∃ g' w' es,stepG P false g w = .go g' w' es ∧
  (w'.heap.size = w.heap.size∧(∀ b,b ≠ Φ.C->w'.heap[b]? = w.heap[b]?)∧Φ.Pay w'∧(∀ off,¬ Φ.mine i off->w'.cell? ⟨Φ.C,off,none⟩ = w.cell? ⟨Φ.C,off,none⟩)∧Φ.Has i w'∧w'.os = w.os∧w'.output = w.output) ∧
  (∀ e ∈ es,∃ a,e = ⟨.cell a,true,false⟩∧a.block = Φ.C∧Φ.mine i a.off) ∧
  ∃ m,Goes P false (Φ.R S) DC0 (VR P Φ.ty Φ.Wg (Φ.R S)) m g' w'
 | k + 1, S, g, w => g.status = .running ∧ ∃ g' o, stepG P false g w = .go g' { w with heap := w.heap.push o } #[] ∧
     ∃ m,Goes P false (Φ.R fun b=>S b∨b = w.heap.size) (Φ.DB fun b=>S b∨b = w.heap.size) (Ph.Body i k fun b=>S b∨b = w.heap.size) m g' { w with heap:=w.heap.push o }

inductive Ph.WS (i:Nat) (S:Nat->Prop):Nat->Nat->Nat->Nat->Goroutine->World->Prop
 | body {k m:Nat} {g:Goroutine} {w:World}:Goes P false (Φ.R S) (Φ.DB S) (Φ.Body P i k S) m g w->Ph.WS i S 7 (k + 1) m 0 g w
 | r0 {m:Nat} {g:Goroutine} {w:World}:Goes P false (Φ.R S) DC0 (VR P Φ.ty Φ.Wg (Φ.R S)) m g w->Ph.WS i S 7 0 m 0 g w
 | k1 {m:Nat} {g:Goroutine} {w:World}:Goes P false (Φ.R S) DC0 (VK P Φ.ty Φ.Wg (Φ.R S)) m g w->Ph.WS i S 6 0 m 0 g w
 | d1 {m:Nat} {g:Goroutine} {w:World}:Goes P false (Φ.R S) DC0 (V1 P Φ.ty Φ.Wg (Φ.R S)) m g w->Ph.WS i S 5 0 m 1 g w
 | d2 {m:Nat} {g:Goroutine} {w:World}:Goes P false (Φ.R S) DC0 (V2 P Φ.ty Φ.Wg (Φ.R S)) m g w->Ph.WS i S 4 0 m 1 g w
 | d3 {m:Nat} {g:Goroutine} {w:World}:Goes P false (Φ.R S) DC0 (V3 P Φ.ty Φ.Wg (Φ.R S)) m g w->Ph.WS i S 3 0 m 1 g w
 | d4 {m:Nat} {g:Goroutine} {w:World}:Goes P false (Φ.R S) DC0 (V4 P Φ.ty Φ.Wg) m g w->Ph.WS i S 2 0 m 1 g w
 | quit {q d:Nat} {g:Goroutine} {w:World}:QuitsD P q d g->Ph.WS i S 1 0 q d g w

theorem Ph.Body.run {i k:Nat} {S:Nat->Prop} {g:Goroutine} {w:World} (h:Φ.Body P i k S g w):g.status = .running:=by cases k <;> exact h.1

variable {Φ P}
theorem Ph.WS.rely {i:Nat} {S:Nat->Prop} {s x m d:Nat} {g:Goroutine} {w w₁:World} (h:Φ.WS P i S s x m d g w) (hr:Φ.R S w w₁):Φ.WS P i S s x m d g w₁:=by
 cases h with
 | body h=>exact .body (Goes.rely Ph.R.trans h hr)
 | r0 h=>exact .r0 (Goes.rely Ph.R.trans h hr)
 | k1 h=>exact .k1 (Goes.rely Ph.R.trans h hr)
 | d1 h=>exact .d1 (Goes.rely Ph.R.trans h hr)
 | d2 h=>exact .d2 (Goes.rely Ph.R.trans h hr)
 | d3 h=>exact .d3 (Goes.rely Ph.R.trans h hr)
 | d4 h=>exact .d4 (Goes.rely Ph.R.trans h hr)
 | quit h=>exact .quit h
theorem Ph.WS.status {i:Nat} {S:Nat->Prop} {s x m d:Nat} {g:Goroutine} {w:World} (h:Φ.WS P i S s x m d g w):(g.status = .running∧s ≠ 1)∨(s = 1∧QuitsD P m d g):=by
 cases h with
 | body h=>exact .inl ⟨Goes.running (fun _ _ x=>x.run) w (.refl _ _ w) h,by simp⟩
 | r0 h=>exact .inl ⟨Goes.running (fun _ _ x=>x.1) w (.refl _ _ w) h,by simp⟩
 | k1 h=>exact .inl ⟨Goes.running (fun _ _ x=>x.1) w (.refl _ _ w) h,by simp⟩
 | d1 h=>exact .inl ⟨Goes.running (fun _ _ x=>x.1) w (.refl _ _ w) h,by simp⟩
 | d2 h=>exact .inl ⟨Goes.running (fun _ _ x=>x.1) w (.refl _ _ w) h,by simp⟩
 | d3 h=>exact .inl ⟨Goes.running (fun _ _ x=>x.1) w (.refl _ _ w) h,by simp⟩
 | d4 h=>exact .inl ⟨Goes.running (fun _ _ x=>x.1) w (.refl _ _ w) h,by simp⟩
 | quit h=>exact .inr ⟨rfl,h⟩
theorem Ph.WS.awake {i:Nat} {S:Nat->Prop} {s x m d:Nat} {g:Goroutine} {w:World} (h:Φ.WS P i S s x m d g w):g.status = .running∨g.status = .finished:=h.status.elim (fun x=>.inl x.1) fun x=>x.2.status
theorem Ph.WS.woken {i:Nat} {S:Nat->Prop} {s x m d:Nat} {g:Goroutine} {w:World} (h:Φ.WS P i S s x m d g w) (a a':Goroutine) (w':World):woken P a a' w' g = g:=by
 unfold Go.Conc.woken;split
 . exact again_running _ h.awake
 rfl
end

section
variable (Φ:Ph) (P:Program) (K:Goroutine->Prop) (An:Goroutine->World->Prop)
def Ph.AtGo (i:Nat) (S:Nat->Prop) (Nx:Goroutine->World->Prop) (g:Goroutine) (w:World):Prop :=
 g.status = .running∧∃ g' child,stepG P true g w = .spawn g' child w #[]∧(∃ m x,x < 30∧Goes P false (Φ.R S) (Φ.DB S) (Φ.Body P i x S) m child w)∧Nx g' w
def Ph.T6 (i:Nat) (S:Nat->Prop) (Nx:Goroutine->World->Prop) (g:Goroutine) (w:World):Prop :=
 g.status = .running∧∃ g' w' es,stepG P true g w = .go g' w' es∧Φ.DB S w w' es∧∃ m,Goes P true (Φ.R S) DC0 (T5 P Φ.ty Φ.Wg (Φ.R S) (Φ.AtGo P i S Nx)) m g' w'
def Ph.T7 (i:Nat) (Nx:Goroutine->World->Prop) (g:Goroutine) (w:World):Prop :=
 g.status = .running∧∃ g' o,stepG P true g w = .go g' { w with heap:=w.heap.push o } #[] ∧
  ∃ m,Goes P true (Φ.R fun b=>b = w.heap.size) DC0 (Φ.T6 P i (fun b=>b = w.heap.size) Nx) m g' { w with heap:=w.heap.push o }
abbrev xv:Nat->Prop:=fun _=>False
def Ph.Spawn:Nat->Goroutine->World->Prop
 | 0,g,w=>∃ m,Goes P true (Φ.R xv) DC0 (S1 P (Φ.R xv) An) m g w
 | r + 1,g,w=>∃ m,Goes P true (Φ.R xv) DC0 (Φ.T7 P (Φ.nw - (r + 1)) (Ph.Spawn r)) m g w

inductive Ph.CS:CTag->Nat->Nat->(Nat->Prop)->Nat->Nat->Goroutine->World->Prop
 | al {r m:Nat} {g:Goroutine} {w:World}:r < Φ.nw->Goes P true (Φ.R xv) DC0 (Φ.T7 P (Φ.nw - (r + 1)) (Φ.Spawn P An r)) m g w->Ph.CS (.sp r 7) 0 (Φ.nw - (r + 1)) xv m 0 g w
 | st {r m:Nat} {S:Nat->Prop} {g:Goroutine} {w:World}:r < Φ.nw->Goes P true (Φ.R S) DC0 (Φ.T6 P (Φ.nw - (r + 1)) S (Φ.Spawn P An r)) m g w->Ph.CS (.sp r 6) 0 (Φ.nw - (r + 1)) S m 0 g w
 | kd {r m:Nat} {S:Nat->Prop} {g:Goroutine} {w:World}:r < Φ.nw->Goes P true (Φ.R S) DC0 (T5 P Φ.ty Φ.Wg (Φ.R S) (Φ.AtGo P (Φ.nw - (r + 1)) S (Φ.Spawn P An r))) m g w->Ph.CS (.sp r 5) 0 (Φ.nw - (r + 1)) S m 0 g w
 | a1 {r m:Nat} {S:Nat->Prop} {g:Goroutine} {w:World}:r < Φ.nw->Goes P true (Φ.R S) DC0 (T4 P Φ.ty Φ.Wg (Φ.R S) (Φ.AtGo P (Φ.nw - (r + 1)) S (Φ.Spawn P An r))) m g w->Ph.CS (.sp r 4) 0 (Φ.nw - (r + 1)) S m 1 g w
 | rm {r m:Nat} {S:Nat->Prop} {g:Goroutine} {w:World}:r < Φ.nw->Goes P true (Φ.R S) DC0 (T3 P Φ.Wg (Φ.R S) (Φ.AtGo P (Φ.nw - (r + 1)) S (Φ.Spawn P An r))) m g w->Ph.CS (.sp r 3) 0 (Φ.nw - (r + 1)) S m 1 g w
 | ke {r m:Nat} {S:Nat->Prop} {g:Goroutine} {w:World}:r < Φ.nw->Goes P true (Φ.R S) DC0 (T2 P (Φ.R S) (Φ.AtGo P (Φ.nw - (r + 1)) S (Φ.Spawn P An r))) m g w->Ph.CS (.sp r 2) 0 (Φ.nw - (r + 1)) S m 1 g w
 | go {r m:Nat} {S:Nat->Prop} {g:Goroutine} {w:World}:r < Φ.nw->Goes P true (Φ.R S) DC0 (Φ.AtGo P (Φ.nw - (r + 1)) S (Φ.Spawn P An r)) m g w->Ph.CS (.sp r 1) 0 (Φ.nw - (r + 1)) S m 0 g w
 | wd {m:Nat} {g:Goroutine} {w:World}:Goes P true (Φ.R xv) DC0 (S1 P (Φ.R xv) An) m g w->Ph.CS .kd 0 Φ.nw xv m 0 g w
 | an {m:Nat} {g:Goroutine} {w:World}:Goes P true (Φ.R xv) DC0 An m g w->Ph.CS .anch 0 Φ.nw xv m 1 g w
 | s3 {m:Nat} {g:Goroutine} {w:World}:Goes P true (Φ.R xv) DC0 (S3 P Φ.ty Φ.Wg (Φ.R xv) K An) m g w->Ph.CS .w1 0 Φ.nw xv m 1 g w
 | s4 {vs m:Nat} {g:Goroutine} {w:World}:Goes P true (Φ.R xv) DC0 (S4 P Φ.ty Φ.Wg (Φ.R xv) K An vs) m g w->Ph.CS (.w2 vs) 0 Φ.nw xv m 1 g w
 | s5 {m:Nat} {g:Goroutine} {w:World}:Goes P true (Φ.R xv) DC0 (S5 P Φ.ty Φ.Wg (Φ.R xv) K) m g w->Ph.CS .w3 1 Φ.nw xv m 1 g w
 | s6 {m:Nat} {g:Goroutine} {w:World}:Goes P true (Φ.R xv) DC0 (S6 P Φ.ty Φ.Wg (Φ.R xv) K) m g w->Ph.CS .w3 0 Φ.nw xv (m + 1) 1 g w
 | blk {g:Goroutine} {w:World}:(∀ w₁,Φ.R xv w w₁->S6 P Φ.ty Φ.Wg (Φ.R xv) K g w₁)->Ph.CS .blk 0 Φ.nw xv 0 1 { g with status:=.blocked } w
 | s7 {m:Nat} {g:Goroutine} {w:World}:Goes P true (Φ.R xv) DC0 (S7 P Φ.ty Φ.Wg (Φ.R xv) K) m g w->Ph.CS .w4 0 Φ.nw xv m 1 g w
 | s8 {m:Nat} {g:Goroutine} {w:World}:Goes P true (Φ.R xv) DC0 (S8 P Φ.Wg (Φ.R xv) K) m g w->Ph.CS .ke 0 Φ.nw xv m 1 g w
 | s9 {m:Nat} {g:Goroutine} {w:World}:Goes P true (Φ.R xv) DC0 (S9 P Φ.Wg K) m g w->Ph.CS .acq 0 Φ.nw xv m 0 g w
end
end
section
open Go.Conc Go.ConcN
open Go.ConcR (KK WgAt stA smA rd wr mk DC0 g_of_ofEvents again_blocked)

theorem zku {t:Trace} {B:Nat} (hs:∀ op ∈ t,op.act.low B) {i:Nat} {a:Touch} (ha:touchAt t i = some a):a.loc.low B:=by
 obtain ⟨x,hx,hxa⟩:=touch_of ha;have:=hs x (Array.mem_of_getElem? hx);revert this hxa;cases x.act with
 | access e=>intro hxa h;simp only [MemAct.touch?,Option.some.injEq] at hxa;subst hxa;exact h
 | mark m=>cases m <;> intro hxa h <;> simp only [MemAct.touch?,Option.some.injEq,reduceCtorEq] at hxa <;> subst hxa <;> exact h
 | _=>intro hxa;simp [MemAct.touch?] at hxa

section
variable {Φ:Ph} {P:Program} {K:Goroutine->Prop} {An:Goroutine->World->Prop} {tag:CTag} {sub j f d:Nat} {S:Nat->Prop} {a:Goroutine} {w w':World}
theorem Ph.CS.rely (h:Φ.CS P K An tag sub j S f d a w) (hr:Φ.R S w w'):Φ.CS P K An tag sub j S f d a w':=by
 cases h with
 | al hn h=>exact .al hn (Goes.rely Ph.R.trans h hr)
 | st hn h=>exact .st hn (Goes.rely Ph.R.trans h hr)
 | kd hn h=>exact .kd hn (Goes.rely Ph.R.trans h hr)
 | a1 hn h=>exact .a1 hn (Goes.rely Ph.R.trans h hr)
 | rm hn h=>exact .rm hn (Goes.rely Ph.R.trans h hr)
 | ke hn h=>exact .ke hn (Goes.rely Ph.R.trans h hr)
 | go hn h=>exact .go hn (Goes.rely Ph.R.trans h hr)
 | wd h=>exact .wd (Goes.rely Ph.R.trans h hr)
 | an h=>exact .an (Goes.rely Ph.R.trans h hr)
 | s3 h=>exact .s3 (Goes.rely Ph.R.trans h hr)
 | s4 h=>exact .s4 (Goes.rely Ph.R.trans h hr)
 | s5 h=>exact .s5 (Goes.rely Ph.R.trans h hr)
 | s6 h=>exact .s6 (Goes.rely Ph.R.trans h hr)
 | blk h=>exact .blk (fun w₂ h₂=>h w₂ (hr.trans _ _ _ h₂))
 | s7 h=>exact .s7 (Goes.rely Ph.R.trans h hr)
 | s8 h=>exact .s8 (Goes.rely Ph.R.trans h hr)
 | s9 h=>exact .s9 (Goes.rely Ph.R.trans h hr)
theorem Ph.CS.status (hAr:∀ g w,An g w->g.status = .running) (h:Φ.CS P K An tag sub j S f d a w):(a.status = .running∧tag ≠ .blk)∨(a.status = .blocked∧tag = .blk):=by
 cases h with
 | al _ h=>exact .inl ⟨Goes.running (fun _ _ x=>x.1) w (.refl _ _ w) h,by simp⟩
 | st _ h=>exact .inl ⟨Goes.running (fun _ _ x=>x.1) w (.refl _ _ w) h,by simp⟩
 | kd _ h=>exact .inl ⟨Goes.running (fun _ _ x=>x.1) w (.refl _ _ w) h,by simp⟩
 | a1 _ h=>exact .inl ⟨Goes.running (fun _ _ x=>x.1) w (.refl _ _ w) h,by simp⟩
 | rm _ h=>exact .inl ⟨Goes.running (fun _ _ x=>x.1) w (.refl _ _ w) h,by simp⟩
 | ke _ h=>exact .inl ⟨Goes.running (fun _ _ x=>x.1) w (.refl _ _ w) h,by simp⟩
 | go _ h=>exact .inl ⟨Goes.running (fun _ _ x=>x.1) w (.refl _ _ w) h,by simp⟩
 | wd h=>exact .inl ⟨Goes.running (fun _ _ x=>x.1) w (.refl _ _ w) h,by simp⟩
 | an h=>exact .inl ⟨Goes.running hAr w (.refl _ _ w) h,by simp⟩
 | s3 h=>exact .inl ⟨Goes.running (fun _ _ x=>x.1) w (.refl _ _ w) h,by simp⟩
 | s4 h=>exact .inl ⟨Goes.running (fun _ _ x=>x.1) w (.refl _ _ w) h,by simp⟩
 | s5 h=>exact .inl ⟨Goes.running (fun _ _ x=>x.1) w (.refl _ _ w) h,by simp⟩
 | s6 h=>exact .inl ⟨Goes.running (fun _ _ x=>x.1) w (.refl _ _ w) h,by simp⟩
 | blk h=>exact .inr ⟨rfl,rfl⟩
 | s7 h=>exact .inl ⟨Goes.running (fun _ _ x=>x.1) w (.refl _ _ w) h,by simp⟩
 | s8 h=>exact .inl ⟨Goes.running (fun _ _ x=>x.1) w (.refl _ _ w) h,by simp⟩
 | s9 h=>exact .inl ⟨Goes.running (fun _ _ x=>x.1) w (.refl _ _ w) h,by simp⟩
theorem Ph.CS.wokenBy (hAr:∀ g w,An g w->g.status = .running) (h:Φ.CS P K An tag sub j S f d a w) (hr:Φ.R S w w') (g g':Goroutine) :
 ∃ tag' f',Φ.CS P K An tag' sub j S f' d (woken P g g' w' a) w'∧f' ≤ f + 1∧(tag' = tag∨(tag = .blk∧tag' = .w3))∧(mayWake P g = true->g'.status = .running->tag' ≠ .blk):=by
 have h':=h.rely hr;unfold Go.Conc.woken;split
 . rcases h'.status hAr with ⟨hs,hne⟩ | ⟨_,rfl⟩
   . exact ⟨tag,f,by rw [again_running _ (.inl hs)];exact h',by omega, .inl rfl,fun _ _=>hne⟩
   cases h' with
   | blk hb =>
     have h3:=hb w' (.refl _ _ w');exact ⟨.w3,0 + 1,by rw [again_blocked h3.1 h3.2.1];exact .s6 (Goes.stop hb),by omega, .inr ⟨rfl,rfl⟩,fun _ _=>by simp⟩
 rename_i hc;exact ⟨tag,f,h',by omega, .inl rfl,fun h1 h2=>absurd (by simp [h1,h2]) hc⟩
end

def Ph.OwnL (Φ:Ph) (o:Nat) (Sf:Nat->Nat->Prop) (k:Nat) (l:Loc):Prop:=1 ≤ k∧∃ a,l = .cell a∧(Sf (k - 1) a.block∨(o < k∧a.block = Φ.C∧Φ.mine (k - 1 - o) a.off))
def Ph.RoL (Φ:Ph) (l:Loc):Prop:=∃ a,l = .cell a∧Φ.Ro a.block

structure Ph.Com (Φ:Ph) (P:Program) (o J:Nat) (Shun:Loc->Prop) (w0:World) (gs:Array Goroutine) (w:World) (t:Trace) (D:Nat->WD) (X:Nat->Nat) (Sf:Nat->Nat->Prop) (S0:Nat->Prop) (d0:Nat):Prop where
 oJ:o ≤ J
 size:gs.size = J + 1
 wk:∀ i,i < J->∃ g,gs[i + 1]? = some g∧Φ.WS P (i - o) (Sf i) (D i).stage (X i) (D i).fuel (D i).deaf g w
 oldq:∀ i,i < o->(D i).stage = 1
 ti:TI Shun (ShN Φ.Wg) (Φ.OwnL o Sf) Φ.RoL o J t
 norel:NoRelease (stA Φ.Wg) t
 deaf0:Deaf t 0 = d0
 deafW:∀ i,i < J->Deaf t (i + 1) = (D i).deaf
 rel:∀ i,o ≤ i->i < J->(D i).stage ≤ 6->∃ r,RelBy (stA Φ.Wg) t (i + 1) r
 hand:∀ g,g ≠ 0->(g ≤ o∨J < g)->Hand t g
 has:∀ i,o ≤ i->i < J->((D i).stage ≤ 6∨X i = 0)->Φ.Has (i - o) w
 pay:Φ.Pay w
 old:Φ.Old w
 n0:Φ.n0 ≤ w.heap.size
 sep:∀ i b,Sf i b->i < J∧Φ.n0 ≤ b∧b < w.heap.size∧¬ S0 b
 disj:∀ i i' b,Sf i b->Sf i' b->i = i'
 sep0:∀ b,S0 b->Φ.n0 ≤ b∧b < w.heap.size
 shun:∀ l,Shun l->∃ a,l = .cell a∧Φ.SB a.block
 seen:∀ op ∈ t,op.act.low w.heap.size
 os:w.os = w0.os
 output:w.output = w0.output

theorem Ph.apt {Φ:Ph} (k:Φ.Ok) {o:Nat} {Shun:Loc->Prop} {Sf:Nat->Nat->Prop} (hs:∀ i b,Sf i b->Φ.n0 ≤ b) (hd:∀ i i' b,Sf i b->Sf i' b->i = i') (hS:∀ l,Shun l->∃ a,l = .cell a∧Φ.SB a.block) :
 zgg Shun (ShN Φ.Wg) (Φ.OwnL o Sf) Φ.RoL:=by
 have kC:=k.hC;have kW:=k.hW;refine ⟨?_, ?_, ?_, ?_, ?_, ?_, ?_, ?_⟩
 . rintro a b l ⟨ha,x,rfl,hx⟩ ⟨hb,y,e,hy⟩;cases e;rcases hx with hx | ⟨hx1,hx2,v,hx3⟩ <;> rcases hy with hy | ⟨hy1,hy2,v',hy3⟩
   . have:=hd _ _ _ hx hy;omega
   . have:=hs _ _ hx;omega
   . have:=hs _ _ hy;omega
   have:=k.hres _ _ _ _ _ hx3 hy3;omega
 . rintro a l ⟨ha,x,rfl,hx⟩ ⟨y,e,hy⟩;cases e;rcases hx with hx | ⟨_,hx,_⟩
   . have:=hs _ _ hx;have:=hy.1;omega
   exact hy.2.1 hx
 . rintro a l ⟨ha,x,rfl,hx⟩ ⟨y,e,hy⟩;cases e;rcases hx with hx | ⟨_,hx,_⟩
   . have:=hs _ _ hx;omega
   exact k.hCW (hx.symm.trans hy)
 . rintro l ⟨x,rfl,hx⟩ ⟨y,e,hy⟩;cases e;exact hx.2.2.1 hy
 . rintro a l ⟨ha,x,rfl,hx⟩ hl;obtain ⟨y,e,hy⟩:=hS _ hl;cases e;obtain ⟨h1,h2,h3⟩:=k.hSB _ hy;rcases hx with hx | ⟨_,hx,_⟩
   . have:=hs _ _ hx;omega
   exact h2 hx
 . rintro l ⟨x,rfl,hx⟩ hl;obtain ⟨y,e,hy⟩:=hS _ hl;cases e;exact hx.2.2.2 hy
 . rintro a l ⟨ha,x,rfl,hx⟩;rfl
 rintro l ⟨x,rfl,hx⟩;rfl

section
variable {Φ:Ph} {P:Program} {o J:Nat} {Shun:Loc->Prop} {w0:World} {gs:Array Goroutine} {w w':World} {t:Trace} {D:Nat->WD} {X:Nat->Nat} {Sf:Nat->Nat->Prop} {S0:Nat->Prop} {d0:Nat}

theorem Ph.Com.apt (k:Φ.Ok) (h:Φ.Com P o J Shun w0 gs w t D X Sf S0 d0):zgg Shun (ShN Φ.Wg) (Φ.OwnL o Sf) Φ.RoL:=Ph.apt k (fun i b hb=>(h.sep i b hb).2.1) h.disj h.shun
theorem Ph.Com.at (h:Φ.Com P o J Shun w0 gs w t D X Sf S0 d0) (d:Nat):Φ.Com P o J Shun w0 gs (w.at d) t D X Sf S0 d0 :=
 ⟨h.oJ,h.size,fun i hi=>let ⟨g,hg,hs⟩:=h.wk i hi;⟨g,hg,hs.rely (.at _ _ w d)⟩,h.oldq,h.ti,h.norel,h.deaf0,h.deafW,h.rel,h.hand,h.has,h.pay,h.old,h.n0,h.sep,h.disj,h.sep0,h.shun,h.seen,h.os,h.output⟩

theorem ze5 {t:Trace} {w w':World} (h:∀ op ∈ t,op.act.low w.heap.size) (hs:w.heap.size ≤ w'.heap.size) {g:Nat} {fn:FuncId} {pos:String} {es:Array Event} (he:∀ e ∈ es,(MemAct.ofEvent e).low w'.heap.size) :
 ∀ op ∈ t ++ MemOp.ofEvents g fn pos es,op.act.low w'.heap.size :=
 seen_app (fun op hop=>MemAct.low_mono hs (h op hop)) fun op hop=>by obtain ⟨e,h1,rfl⟩:=Go.Conc.mem_ofEvents hop;exact he e h1

theorem Ph.Com.stepW (k:Φ.Ok) (h:Φ.Com P o J Shun w0 gs w t D X Sf S0 d0) {i:Nat} (hi:i < J) {g g':Goroutine} {fn:FuncId} {pos:String} {es:Array Event} {s' x' m' dd':Nat} {S':Nat->Prop}
 (hT:Φ.Turn (Sf i) (fun off=>o ≤ i∧Φ.mine (i - o) off) w w') (hl:WgLive Φ.ty Φ.Wg w') (hS1:∀ b,Sf i b->S' b) (hS2:∀ b,S' b->Sf i b∨(w.heap.size ≤ b∧b < w'.heap.size))
 (hs':Φ.WS P (i - o) S' s' x' m' dd' g' w') (hold:i < o->s' = 1∧∀ e ∈ es,(MemAct.ofEvent e).touch? = none)
 (hok:∀ op ∈ MemOp.ofEvents (i + 1) fn pos es,MayW (ShN Φ.Wg) (Φ.OwnL o (upd Sf i S')) Φ.RoL o (i + 1) op) (hnr:∀ e ∈ es,e.loc ≠ .mark (.release (stA Φ.Wg))) (hlow:∀ e ∈ es,(MemAct.ofEvent e).low w'.heap.size)
 (hdeaf:deafBehind (D i).deaf es = dd')
 (hrel:o ≤ i->s' ≤ 6->∃ r,RelBy (stA Φ.Wg) (t ++ MemOp.ofEvents (i + 1) fn pos es) (i + 1) r)
 (hhas:o ≤ i->(s' ≤ 6∨x' = 0)->Φ.Has (i - o) w') :
 Φ.Com P o J Shun w0 ((gs.map (woken P g g' w')).setIfInBounds (i + 1) g') w' (t ++ MemOp.ofEvents (i + 1) fn pos es) (upd D i ⟨s',m',dd'⟩) (upd X i x') (upd Sf i S') S0 d0:=by
 have kC:=k.hC;have kW:=k.hW;have hn0:=h.n0;have hsep:∀ i' b,upd Sf i S' i' b->i' < J∧Φ.n0 ≤ b∧b < w'.heap.size∧¬ S0 b:=by
  intro i' b hb;have hsz:=hT.size;by_cases e:i' = i
  . subst e;rw [upd_same] at hb;rcases hS2 b hb with hb | ⟨h1,h2⟩
    . obtain ⟨a1,a2,a3,a4⟩:=h.sep _ b hb;exact ⟨a1,a2,by omega,a4⟩
    exact ⟨hi,by omega,h2,fun x=>by have:=(h.sep0 b x).2;omega⟩
  rw [upd_ne Sf _ e] at hb;obtain ⟨a1,a2,a3,a4⟩:=h.sep _ b hb;exact ⟨a1,a2,by omega,a4⟩
 have hdisj:∀ i1 i2 b,upd Sf i S' i1 b->upd Sf i S' i2 b->i1 = i2:=by
  have key:∀ i2 b,i2 ≠ i->S' b->Sf i2 b->False:=fun i2 b e hb hb2=>by
   rcases hS2 b hb with hb | ⟨h1,_⟩
   . exact e (h.disj _ _ b hb2 hb)
   have:=(h.sep i2 b hb2).2.2.1;omega
  intro i1 i2 b h1 h2;by_cases e1:i1 = i <;> by_cases e2:i2 = i
  . omega
  . subst e1;rw [upd_same] at h1;rw [upd_ne Sf _ e2] at h2;exact (key _ b e2 h1 h2).elim
  . subst e2;rw [upd_same] at h2;rw [upd_ne Sf _ e1] at h1;exact (key _ b e1 h2 h1).elim
  rw [upd_ne Sf _ e1] at h1;rw [upd_ne Sf _ e2] at h2;exact h.disj _ _ b h1 h2
 have hti:TI Shun (ShN Φ.Wg) (Φ.OwnL o (upd Sf i S')) Φ.RoL o J t:=by
  refine h.ti.reown (fun k' k1 kJ l hl=>?_) fun k' k1 kJ l hl=>?_
  . obtain ⟨_,a,rfl,ha⟩:=hl;rcases ha with ha | ha
    . by_cases e:k' - 1 = i
      . rw [e,upd_same] at ha;rcases hS2 _ ha with hb | ⟨h1,_⟩
        . exact .inl ⟨k1,a,rfl, .inl (e ▸ hb)⟩
        refine .inr fun p x hx e=>?_;have hlo:=zku h.seen hx;rw [e] at hlo;have:a.block < w.heap.size:=hlo;omega
      rw [upd_ne Sf _ e] at ha;exact .inl ⟨k1,a,rfl, .inl ha⟩
    exact .inl ⟨k1,a,rfl, .inr ha⟩
  obtain ⟨_,a,rfl,ha⟩:=hl;refine ⟨k1,a,rfl,ha.imp (fun hb=>?_) id⟩;by_cases e:k' - 1 = i
  . rw [e,upd_same];exact hS1 _ (e ▸ hb)
  rw [upd_ne Sf _ e];exact hb
 have hA:=Ph.apt (o:=o) (Shun:=Shun) k (fun i' b hb=>(hsep i' b hb).2.1) hdisj h.shun;have hrw:∀ (S'':Nat->Prop),(∀ b,S'' b->b < w.heap.size∧¬ Sf i b∧Φ.n0 ≤ b)->Φ.R S'' w w':=fun S'' hb =>
  hT.rely hn0 (fun b hb=>(h.sep i b hb).2.1) (fun b hb'=>by obtain ⟨h1,h2,h3⟩:=hb b hb';exact ⟨h1,h2,by omega,by omega⟩) hl
 refine ⟨h.oJ,by simp [h.size],fun i' hi'=>?_,fun i' hi'=>?_,hti.appW hA (by omega) (by omega) hok,h.norel.app (norel_of hnr),by rw [Deaf_other t (by omega) _ g_of_ofEvents,h.deaf0],fun i' hi'=>?_,fun i' ho' hi' hst=>?_,fun g1 hg0 hg1=>?_,fun i' ho' hi' hst=>?_,
  hT.pay h.pay,fun b hb h1 h2=>(hT.stand b (by omega) (fun hs=>by have:=(h.sep i b hs).2.1;omega) h1 h2).trans (h.old b hb h1 h2),Nat.le_trans hn0 hT.size,hsep,hdisj,fun b hb=>⟨(h.sep0 b hb).1,Nat.lt_of_lt_of_le (h.sep0 b hb).2 hT.size⟩,h.shun,ze5 h.seen hT.size hlow,hT.os.trans h.os,hT.output.trans h.output⟩
 . by_cases e:i' = i
   . subst e;exact ⟨g',get_map_set_same _ _ _ (by rw [h.size];omega),by rw [upd_same,upd_same,upd_same];exact hs'⟩
   obtain ⟨x,hx,hsx⟩:=h.wk i' hi';refine ⟨x,by rw [get_map_set _ _ _ _ (by omega),hx,Option.map_some,hsx.woken], ?_⟩;rw [upd_ne D _ e,upd_ne X _ e,upd_ne Sf _ e];exact hsx.rely (hrw _ fun b hb=>⟨(h.sep i' b hb).2.2.1,fun x=>e (h.disj _ _ b hb x),(h.sep i' b hb).2.1⟩)
 . by_cases e:i' = i
   . subst e;rw [upd_same];exact (hold hi').1
   rw [upd_ne D _ e];exact h.oldq i' hi'
 . by_cases e:i' = i
   . subst e;rw [Deaf_own,h.deafW i' hi',upd_same];exact hdeaf
   rw [Deaf_other t (by omega) _ g_of_ofEvents,h.deafW i' hi',upd_ne D _ e]
 . by_cases e:i' = i
   . subst e;rw [upd_same] at hst;exact hrel ho' hst
   rw [upd_ne D _ e] at hst;obtain ⟨r,hr⟩:=h.rel i' ho' hi' hst;exact ⟨r,hr.appOther g_of_ofEvents (by omega)⟩
 . refine (h.hand g1 hg0 hg1).app fun op hop e=>?_;obtain ⟨x,hx,rfl⟩:=Go.Conc.mem_ofEvents hop;simp only at e;exact (hold (by omega)).2 x hx
 by_cases e:i' = i
 . subst e;rw [upd_same,upd_same] at hst;exact hhas ho' hst
 rw [upd_ne D _ e,upd_ne X _ e] at hst;intro p hp;refine (hT.cells p.1 fun ⟨ho,v,hv⟩=>?_).trans (h.has i' ho' hi' hst p hp);have:=k.hres (i' - o) (i - o) p.1 p.2 v hp hv;omega

theorem Ph.Com.step0 (k:Φ.Ok) (h:Φ.Com P o J Shun w0 gs w t D X Sf S0 d0) {a a':Goroutine} {fn:FuncId} {pos:String} {es:Array Event} {S0':Nat->Prop}
 (hT:Φ.Turn S0 (fun _=>False) w w') (hl:WgLive Φ.ty Φ.Wg w') (hS2:∀ b,S0' b->S0 b∨(w.heap.size ≤ b∧b < w'.heap.size))
 (hok:∀ op ∈ MemOp.ofEvents 0 fn pos es,May0 Shun (ShN Φ.Wg) (Φ.OwnL o Sf) Φ.RoL J op) (hnr:∀ e ∈ es,e.loc ≠ .mark (.release (stA Φ.Wg))) (hlow:∀ e ∈ es,(MemAct.ofEvent e).low w'.heap.size) :
 Φ.Com P o J Shun w0 ((gs.map (woken P a a' w')).setIfInBounds 0 a') w' (t ++ MemOp.ofEvents 0 fn pos es) D X Sf S0' (deafBehind d0 es):=by
 have kC:=k.hC;have kW:=k.hW;have hn0:=h.n0;have hsz:=hT.size;have hrw:∀ i,i < J->Φ.R (Sf i) w w':=fun i hi=>hT.rely hn0 (fun b hb=>(h.sep0 b hb).1) (fun b hb=>by obtain ⟨_,h1,h2,h3⟩:=h.sep i b hb;exact ⟨h2,h3,by omega,by omega⟩) hl;refine ⟨h.oJ,by simp [h.size],fun i hi=>?_,h.oldq,h.ti.app0 (h.apt k) hok,h.norel.app (norel_of hnr),by rw [Deaf_own,h.deaf0],fun i hi=>by rw [Deaf_other t (by omega) _ g_of_ofEvents,h.deafW i hi],fun i ho hi hst=>?_,fun g1 hg0 hg1=>?_,fun i ho hi hst p hp=>?_,
  hT.pay h.pay,fun b hb h1 h2=>(hT.stand b (by omega) (fun hs=>by have:=(h.sep0 b hs).1;omega) h1 h2).trans (h.old b hb h1 h2),Nat.le_trans hn0 hsz,fun i b hb=>?_,h.disj,fun b hb=>?_,h.shun,ze5 h.seen hsz hlow,hT.os.trans h.os,hT.output.trans h.output⟩
 . obtain ⟨x,hx,hsx⟩:=h.wk i hi;exact ⟨x,by rw [get_map_set _ _ _ _ (by omega),hx,Option.map_some,hsx.woken],hsx.rely (hrw i hi)⟩
 . obtain ⟨r,hr⟩:=h.rel i ho hi hst;exact ⟨r,hr.appOther g_of_ofEvents (by omega)⟩
 . refine (h.hand g1 hg0 hg1).app fun op hop e=>?_;obtain ⟨x,hx,rfl⟩:=Go.Conc.mem_ofEvents hop;exact absurd e.symm hg0
 . exact (hT.cells p.1 (fun x=>x)).trans (h.has i ho hi hst p hp)
 . obtain ⟨a1,a2,a3,a4⟩:=h.sep i b hb;refine ⟨a1,a2,by omega,fun x=>?_⟩;rcases hS2 b x with x | ⟨x,_⟩
   . exact a4 x
   omega
 rcases hS2 b hb with x | ⟨x,y⟩
 . have:=h.sep0 b x;omega
 omega

theorem Ph.Com.spawn (k:Φ.Ok) (h:Φ.Com P o J Shun w0 gs w t D X Sf S0 0) {a' child:Goroutine} {x y:MemOp} {m q:Nat} (hx:x.g = 0∧x.act = .go (J + 1)) (hy:y.g = J + 1∧y.act = .start)
 (hc:Goes P false (Φ.R S0) (Φ.DB S0) (Φ.Body P (J - o) q S0) m child w) :
 Φ.Com P o (J + 1) Shun w0 ((gs.setIfInBounds 0 a').push child) w (t ++ #[x,y]) (upd D J ⟨7,m,0⟩) (upd X J (q + 1)) (upd Sf J S0) (fun _=>False) 0:=by
 have kC:=k.hC;have kW:=k.hW;have hn0:=h.n0;have hm:∀ op ∈ #[x,y],op = x∨op = y:=by intro op hop;simpa using hop
 have hst:∀ op ∈ #[x,y],op.act ≠ .mark .disable∧op.act ≠ .mark .enable:=by
  intro op hop;rcases hm op hop with rfl | rfl
  . rw [hx.2];exact ⟨by simp,by simp⟩
  rw [hy.2];exact ⟨by simp,by simp⟩
 have oJ:=h.oJ;have hsep:∀ i b,upd Sf J S0 i b->i < J + 1∧Φ.n0 ≤ b∧b < w.heap.size∧¬ (False:Prop):=by
  intro i b hb;by_cases e:i = J
  . subst e;rw [upd_same] at hb;have:=h.sep0 b hb;exact ⟨by omega,this.1,this.2,id⟩
  rw [upd_ne Sf _ e] at hb;obtain ⟨a1,a2,a3,_⟩:=h.sep i b hb;exact ⟨by omega,a2,a3,id⟩
 have hdisj:∀ i1 i2 b,upd Sf J S0 i1 b->upd Sf J S0 i2 b->i1 = i2:=by
  intro i1 i2 b h1 h2;by_cases e1:i1 = J <;> by_cases e2:i2 = J
  . omega
  . subst e1;rw [upd_same] at h1;rw [upd_ne Sf _ e2] at h2;exact absurd h1 (h.sep _ b h2).2.2.2
  . subst e2;rw [upd_same] at h2;rw [upd_ne Sf _ e1] at h1;exact absurd h2 (h.sep _ b h1).2.2.2
  rw [upd_ne Sf _ e1] at h1;rw [upd_ne Sf _ e2] at h2;exact h.disj _ _ b h1 h2
 have hA:=Ph.apt (o:=o) (Shun:=Shun) k (fun i' b hb=>(hsep i' b hb).2.1) hdisj h.shun;have hti:TI Shun (ShN Φ.Wg) (Φ.OwnL o (upd Sf J S0)) Φ.RoL o J t:=by
  refine h.ti.reown (fun k' k1 kJ l hl=>?_) fun k' k1 kJ l hl=>?_
  . obtain ⟨_,a,rfl,ha⟩:=hl;rw [upd_ne Sf _ (by omega)] at ha;exact .inl ⟨k1,a,rfl,ha⟩
  obtain ⟨_,a,rfl,ha⟩:=hl;exact ⟨k1,a,rfl,by rw [upd_ne Sf _ (by omega)];exact ha⟩
 have hlow:∀ op ∈ #[x,y],op.act.low w.heap.size:=by
  intro op hop;rcases hm op hop with rfl | rfl
  . rw [hx.2];trivial
  rw [hy.2];trivial
 refine ⟨by omega,by simp [h.size],fun i hi=>?_,fun i hi=>?_,hti.fork hA oJ hx hy h.deaf0,h.norel.app fun op hop=>?_,by rw [Deaf_still t 0 _ hst,h.deaf0],fun i hi=>?_,fun i ho hi hs=>?_,fun g1 hg0 hg1=>?_,fun i ho hi hs=>?_,h.pay,h.old,h.n0,fun i b hb=>?_,hdisj,fun b hb=>hb.elim,h.shun,seen_app h.seen hlow,h.os,h.output⟩
 . rcases Nat.lt_or_ge i J with hlt | hge
   . obtain ⟨g,hg,hsg⟩:=h.wk i hlt;refine ⟨g, ?_,by rw [upd_ne D _ (by omega),upd_ne X _ (by omega),upd_ne Sf _ (by omega)];exact hsg⟩;rw [Array.getElem?_push_lt (by simp [h.size];omega),← Array.getElem?_eq_getElem,Array.getElem?_setIfInBounds_ne (by omega)];exact hg
   obtain rfl:i = J:=by omega
   refine ⟨child, ?_,by rw [upd_same,upd_same,upd_same];exact .body hc⟩;rw [show i + 1 = (gs.setIfInBounds 0 a').size by simp [h.size],Array.getElem?_push_size]
 . rw [upd_ne D _ (by omega)];exact h.oldq i hi
 . rcases hm op hop with rfl | rfl
   . rw [hx.2];simp
   rw [hy.2];simp
 . rw [Deaf_still t _ _ hst];rcases Nat.lt_or_ge i J with hlt | hge
   . rw [h.deafW i hlt,upd_ne D _ (by omega)]
   obtain rfl:i = J:=by omega
   rw [upd_same];exact h.ti.newd _ (Nat.lt_succ_self _)
 . rcases Nat.lt_or_ge i J with hlt | hge
   . rw [upd_ne D _ (by omega)] at hs;obtain ⟨r,hr⟩:=h.rel i ho hlt hs;refine ⟨r,hr.appNot fun op hop=>?_⟩;rcases hm op hop with rfl | rfl
     . rw [hx.1];omega
     rw [hy.1];omega
   obtain rfl:i = J:=by omega
   rw [upd_same] at hs;simp at hs
 . refine (h.hand g1 hg0 (by omega)).app fun op hop e=>?_;rcases hm op hop with rfl | rfl
   . exact absurd (e.symm.trans hx.1) hg0
   rw [hy.2];rfl
 . rcases Nat.lt_or_ge i J with hlt | hge
   . rw [upd_ne D _ (by omega),upd_ne X _ (by omega)] at hs;exact h.has i ho hlt hs
   obtain rfl:i = J:=by omega
   rw [upd_same,upd_same] at hs;simp at hs
 obtain ⟨a1,a2,a3,_⟩:=hsep i b hb;exact ⟨a1,a2,a3,id⟩
end
end
section
open Go.Conc Go.ConcN
open Go.ConcR (KK WgAt stA smA rd wr mk DC0 g_of_ofEvents Bk bk_of_mute ofEvent_loc_mark ofEvent_cell ofEvent_mk)

def rho (n v:Nat) (tag:CTag) (sub:Nat):Nat:=100 * (2 * phi n v tag + sub)
def Xsum (J:Nat) (X:Nat->Nat):Nat:=sumTo J X
def Ph.Inv (Φ:Ph) (P:Program) (K:Goroutine->Prop) (An:Goroutine->World->Prop) (o:Nat) (Shun:Loc->Prop) (w0:World) (μ:Nat × Nat) (m:Machine) (t:Trace):Prop :=
 ∃ (gs : Array Goroutine) (w : World) (sl : Option (Nat × Nat)) (J : Nat) (D : Nat -> WD) (X : Nat -> Nat) (Sf : Nat -> Nat -> Prop) (S0 : Nat -> Prop) (tag : CTag) (sub f0 d0 : Nat) (a : Goroutine) (st sm : Int),
   m = crowd gs w sl∧gs[0]? = some a∧Φ.CS P K An tag sub (J - o) S0 f0 d0 a w∧Φ.Com P o J Shun w0 gs w t D X Sf S0 d0∧WgAt Φ.ty Φ.Wg w st sm∧ConcN.Mode J D tag st sm ∧
   μ = (rho (o + Φ.nw) (Vc J D) tag sub + Ssum J D + Xsum J X,f0 + 2 * Fsum J D)

section
variable {Φ:Ph} {P:Program} {K:Goroutine->Prop} {An:Goroutine->World->Prop} {o J:Nat} {Shun:Loc->Prop} {w0:World} {gs:Array Goroutine} {w w':World} {sl:Option (Nat × Nat)} {t:Trace} {D:Nat->WD} {X:Nat->Nat} {Sf:Nat->Nat->Prop} {S0:Nat->Prop}
 {tag:CTag} {sub f0 d0:Nat} {a:Goroutine} {st sm:Int}

theorem zno (n:Nat) {v v':Nat} (h:v' ≤ v) (tag:CTag) (sub:Nat):rho n v' tag sub ≤ rho n v tag sub:=by
 have:=phi_mono n h tag;unfold rho;omega

theorem Ph.stepWk (hAr:∀ g w,An g w->g.status = .running) (ha:gs[0]? = some a) (hcs:Φ.CS P K An tag sub (J - o) S0 f0 d0 a w) (hsz:gs.size = J + 1)
 {i:Nat} (hi:i < J) {g g':Goroutine} {es:Array Event} {s' x' m' dd':Nat} {S':Nat->Prop} {st' sm':Int} (hg:gs[i + 1]? = some g) (hgo:stepG P false g w = .go g' w' es) (hR:Φ.R S0 w w')
 (hcom:Φ.Com P o J Shun w0 ((gs.map (woken P g g' w')).setIfInBounds (i + 1) g') w' (t ++ MemOp.ofEvents (i + 1) g.frame.fn g.frame.place es) (upd D i ⟨s',m',dd'⟩) (upd X i x') (upd Sf i S') S0 d0) (hwg:WgAt Φ.ty Φ.Wg w' st' sm')
 (hmode:∀ tag',(tag' = tag∨(tag = .blk∧tag' = .w3))->(mayWake P g = true->g'.status = .running->tag' ≠ .blk)->ConcN.Mode J (upd D i ⟨s',m',dd'⟩) tag' st' sm')
 (hlt:(s' + x' < (D i).stage + X i∧cnt ⟨s',m',dd'⟩ ≤ cnt (D i))∨(s' = (D i).stage∧x' = X i∧m' + 1 = (D i).fuel)) :
 ∃ m₁ ops μ',runT P (crowd gs w sl) (i + 1) = (.next m₁,ops)∧Lt2 μ' (rho (o + Φ.nw) (Vc J D) tag sub + Ssum J D + Xsum J X,f0 + 2 * Fsum J D)∧Φ.Inv P K An o Shun w0 μ' m₁ (t ++ ops):=by
 obtain ⟨tag',f',hcs',hf',htag,hwk⟩:=hcs.wokenBy hAr hR g g';have hrun:=runT_crowd_go (P:=P) (sl:=sl) (i:=i + 1) hg (by simpa using hgo);have e1:=sumTo_upd D (⟨s',m',dd'⟩:WD) cnt hi;have e2:=sumTo_upd D (⟨s',m',dd'⟩:WD) WD.stage hi;have e3:=sumTo_upd D (⟨s',m',dd'⟩:WD) WD.fuel hi;have e4:sumTo J (upd X i x') + X i = sumTo J X + x':=sumTo_upd X x' (fun x=>x) hi;refine ⟨_,_,(rho (o + Φ.nw) (Vc J (upd D i ⟨s',m',dd'⟩)) tag' sub + Ssum J (upd D i ⟨s',m',dd'⟩) + Xsum J (upd X i x'),f' + 2 * Fsum J (upd D i ⟨s',m',dd'⟩)),hrun, ?_,
  _,w',sl,J,upd D i ⟨s',m',dd'⟩,upd X i x',upd Sf i S',S0,tag',sub,f',d0,woken P g g' w' a,st',sm',rfl,by rw [get_map_set _ _ _ _ (by omega),ha];rfl,hcs',hcom,hwg,hmode tag' htag hwk,rfl⟩
 have et:rho (o + Φ.nw) (Vc J (upd D i ⟨s',m',dd'⟩)) tag' sub = rho (o + Φ.nw) (Vc J (upd D i ⟨s',m',dd'⟩)) tag sub:=by unfold rho;rw [phi_retag _ _ htag]
 rw [et];simp only [Vc,Ssum,Fsum,Xsum] at *;rcases hlt with ⟨h1,h2⟩ | ⟨h1,h2,h3⟩
 . refine Prod.Lex.left _ _ ?_;have:=zno (o + Φ.nw) (v':=sumTo J fun a=>cnt (upd D i ⟨s',m',dd'⟩ a)) (v:=sumTo J fun a=>cnt (D a)) (by omega) tag sub;omega
 have ec:cnt (⟨s',m',dd'⟩:WD) = cnt (D i):=by simp only [cnt,h1]
 have ev:(sumTo J fun a=>cnt (upd D i ⟨s',m',dd'⟩ a)) = sumTo J fun a=>cnt (D a):=by omega
 have es':(sumTo J fun a=>(upd D i ⟨s',m',dd'⟩ a).stage) = sumTo J fun a=>(D a).stage:=by omega
 have ex:sumTo J (upd X i x') = sumTo J X:=by omega
 rw [ev,es',ex];refine Prod.Lex.right _ ?_;omega

theorem zlp {o k:Nat} {Own:Nat->Loc->Prop} {Grp Ro:Loc->Prop} {fn:FuncId} {pos:String} {es:Array Event} (h:∀ e ∈ es,(MemAct.ofEvent e).touch? = none):∀ op ∈ MemOp.ofEvents k fn pos es,MayW Grp Own Ro o k op:=by
 intro op hop;obtain ⟨e,he,rfl⟩:=Go.Conc.mem_ofEvents hop;exact ⟨rfl,fun x hx=>by simp only [h e he] at hx;cases hx⟩
theorem zpl {o k Wg:Nat} {Own:Nat->Loc->Prop} {Ro:Loc->Prop} {fn:FuncId} {pos:String} {es:Array Event} (h:∀ e ∈ es,Bk Wg e):∀ op ∈ MemOp.ofEvents k fn pos es,MayW (ShN Wg) Own Ro o k op:=by
 intro op hop;obtain ⟨e,he,rfl⟩:=Go.Conc.mem_ofEvents hop;refine ⟨rfl,fun x hx=>?_⟩;rcases h e he with h1 | h1 | ⟨a,wr,rfl,ha⟩
 . simp only [ofEvent_loc_mark h1] at hx;cases hx
 . simp only [ofEvent_loc_mark h1] at hx;cases hx
 simp only [ofEvent_cell,MemAct.touch?,Option.some.injEq] at hx;subst hx;exact .inl ⟨⟨a,rfl,ha⟩,rfl⟩
theorem zox {Wg B:Nat} (hB:Wg < B) {es:Array Event} (h:∀ e ∈ es,Bk Wg e):∀ e ∈ es,(MemAct.ofEvent e).low B:=by
 intro e he;rcases h e he with h1 | h1 | ⟨a,wr,rfl,ha⟩
 . simp only [ofEvent_loc_mark h1];trivial
 . simp only [ofEvent_loc_mark h1];trivial
 show a.block < B;omega
end
end
section
open Go.Conc Go.ConcN
open Go.ConcR (KK WgAt stA smA rd wr mk DC0 g_of_ofEvents Bk bk_of_mute ofEvent_loc_mark ofEvent_cell ofEvent_mk)

theorem zgf {D:Nat->WD} {o:Nat} (h:∀ i,i < o->(D i).stage = 1):∀ J,Vc J D ≤ J - o
 | 0=>by simp [Vc,sumTo]
 | J + 1 => by
   have ih:=zgf h J;simp only [Vc,sumTo] at ih ⊢;have hc:cnt (D J) ≤ 1:=by simp only [cnt];split <;> omega
   rcases Nat.lt_or_ge J o with hlt | hge
   . have:cnt (D J) = 0:=by simp [cnt,h J hlt]
     omega
   omega

section
variable {Φ:Ph} {P:Program} {K:Goroutine->Prop} {An:Goroutine->World->Prop} {o J:Nat} {Shun:Loc->Prop} {w0:World} {gs:Array Goroutine} {w w':World} {sl:Option (Nat × Nat)} {t:Trace} {D:Nat->WD} {X:Nat->Nat} {Sf:Nat->Nat->Prop} {S0:Nat->Prop}
 {tag:CTag} {sub f0 d0:Nat} {a:Goroutine} {st sm:Int}

theorem Ph.CS.bound (h:Φ.CS P K An tag sub (J - o) S0 f0 d0 a w) (hJ:o ≤ J):(J - o) + pend tag ≤ Φ.nw∧J ≤ o + Φ.nw:=by
 generalize e:J - o = j at h;cases h <;> simp only [pend] <;> (try simp) <;> omega

theorem Ph.stepWorker (k:Φ.Ok) (hAr:∀ g w,An g w->g.status = .running) (ha:gs[0]? = some a) (hcs:Φ.CS P K An tag sub (J - o) S0 f0 d0 a w) (hcom:Φ.Com P o J Shun w0 gs w t D X Sf S0 d0) (hwg:WgAt Φ.ty Φ.Wg w st sm) (hmode:ConcN.Mode J D tag st sm)
 {i:Nat} (hi:i < J) {g:Goroutine} (hg:gs[i + 1]? = some g) (hrun:g.status = .running) :
 ∃ m₁ ops μ',runT P (crowd gs w sl) (i + 1) = (.next m₁,ops)∧Lt2 μ' (rho (o + Φ.nw) (Vc J D) tag sub + Ssum J D + Xsum J X,f0 + 2 * Fsum J D)∧Φ.Inv P K An o Shun w0 μ' m₁ (t ++ ops):=by
 obtain ⟨g₁,hg₁,hs⟩:=hcom.wk i hi;obtain rfl:g = g₁:=by rw [hg] at hg₁;exact Option.some.inj hg₁
 have kC:=k.hC;have kW:=k.hW;have kf:=k.few;have hn0:=hcom.n0;have hold:(D i).stage ≠ 1->o ≤ i:=fun h=>Nat.le_of_not_lt fun hlt=>h (hcom.oldq i hlt);generalize hst:(D i).stage = s at hs;generalize hfu:(D i).fuel = m at hs;generalize hde:(D i).deaf = dd at hs;generalize hx:X i = x at hs;obtain ⟨hb,hJn⟩:=hcs.bound hcom.oJ;have hVj:=zgf hcom.oldq J;have hdk:Deaf t (i + 1) = dd:=by rw [hcom.deafW i hi,hde]
 have hSn:∀ b,Sf i b->Φ.n0 ≤ b:=fun b hb=>(hcom.sep i b hb).2.1;have step:∀ {g':Goroutine} {w':World} {es:Array Event} {s' x' m' dd':Nat} {S':Nat->Prop} {st' sm':Int},stepG P false g w = .go g' w' es ->
  Φ.Turn (Sf i) (fun off=>o ≤ i∧Φ.mine (i - o) off) w w'->(∀ b,Sf i b->S' b)->(∀ b,S' b->Sf i b∨(w.heap.size ≤ b∧b < w'.heap.size))->Φ.WS P (i - o) S' s' x' m' dd' g' w' ->
  (i < o->s' = 1∧∀ e ∈ es,(MemAct.ofEvent e).touch? = none)->(∀ op ∈ MemOp.ofEvents (i + 1) g.frame.fn g.frame.place es,MayW (ShN Φ.Wg) (Φ.OwnL o (upd Sf i S')) Φ.RoL o (i + 1) op)->(∀ e ∈ es,e.loc ≠ .mark (.release (stA Φ.Wg)))->(∀ e ∈ es,(MemAct.ofEvent e).low w'.heap.size) ->
  deafBehind dd es = dd'->(o ≤ i->s' ≤ 6->∃ r,RelBy (stA Φ.Wg) (t ++ MemOp.ofEvents (i + 1) g.frame.fn g.frame.place es) (i + 1) r)->(o ≤ i->(s' ≤ 6∨x' = 0)->Φ.Has (i - o) w')->WgAt Φ.ty Φ.Wg w' st' sm' ->
  (∀ tag',(tag' = tag∨(tag = .blk∧tag' = .w3))->(mayWake P g = true->g'.status = .running->tag' ≠ .blk)->ConcN.Mode J (upd D i ⟨s',m',dd'⟩) tag' st' sm')->((s' + x' < s + x∧cnt ⟨s',m',dd'⟩ ≤ cnt (D i))∨(s' = s∧x' = x∧m' + 1 = m)) ->
  ∃ m₁ ops μ',runT P (crowd gs w sl) (i + 1) = (.next m₁,ops)∧Lt2 μ' (rho (o + Φ.nw) (Vc J D) tag sub + Ssum J D + Xsum J X,f0 + 2 * Fsum J D)∧Φ.Inv P K An o Shun w0 μ' m₁ (t ++ ops):=by
  intro g' w' es s' x' m' dd' S' st' sm' hgo hT hS1 hS2 hs' ho hok hnr hlow hdf hrel hhas hwg' hmode' hlt;refine Ph.stepWk hAr ha hcs hcom.size hi hg hgo (hT.rely hn0 hSn (fun b hb=>?_) ⟨_,_,hwg'⟩) (hcom.stepW k hi hT ⟨_,_,hwg'⟩ hS1 hS2 hs' ho hok hnr hlow (by rw [hde];exact hdf) hrel hhas) hwg' hmode' (by rw [hst,hfu,hx];exact hlt);have:=hcom.sep0 b hb;exact ⟨this.2,fun hs=>(hcom.sep i b hs).2.2.2 hb,by omega,by omega⟩
 -- behind the release: the library's bookkeeping
 have bookG:∀ {g':Goroutine} {w':World} {es:Array Event} {s' m' dd':Nat} {st' sm':Int},stepG P false g w = .go g' w' es->Go.Conc.Aside Φ.Wg w w'->WgAt Φ.ty Φ.Wg w' st' sm'->(∀ e ∈ es,Bk Φ.Wg e) ->
  (∀ jx e,es[jx]? = some e->(MemAct.ofEvent e).touch? = none∨0 < deafBehind dd (es.extract 0 jx))->Φ.WS P (i - o) (Sf i) s' 0 m' dd' g' w'->deafBehind dd es = dd'->s ≤ 6->(i < o->s' = 1∧∀ e ∈ es,(MemAct.ofEvent e).touch? = none) ->
  (∀ tag',(tag' = tag∨(tag = .blk∧tag' = .w3))->(mayWake P g = true->g'.status = .running->tag' ≠ .blk)->ConcN.Mode J (upd D i ⟨s',m',dd'⟩) tag' st' sm')->((s' + 0 < s + x∧cnt ⟨s',m',dd'⟩ ≤ cnt (D i))∨(s' = s∧0 = x∧m' + 1 = m)) ->
  ∃ m₁ ops μ',runT P (crowd gs w sl) (i + 1) = (.next m₁,ops)∧Lt2 μ' (rho (o + Φ.nw) (Vc J D) tag sub + Ssum J D + Xsum J X,f0 + 2 * Fsum J D)∧Φ.Inv P K An o Shun w0 μ' m₁ (t ++ ops):=by
  intro g' w' es s' m' dd' st' sm' hgo hAs hwg' hbk hd hs' hdd h6 ho hmode' hlt;have hT:Φ.Turn (Sf i) (fun off=>o ≤ i∧Φ.mine (i - o) off) w w':=.of_wg k hAs;exact step hgo hT (fun b hb=>hb) (fun b hb=>.inl hb) hs' ho (zpl hbk) (norel_of_Bk hbk) (zox (by have:=hT.size;omega) hbk) hdd
   (fun hoi _=>let ⟨r,hr⟩:=hcom.rel i hoi hi (by omega);⟨r,hr.book hdk _ _ hbk hd⟩) (fun hoi _ p hp=>(cell_of_block (hAs.block Φ.C k.hCW) p.1).trans (hcom.has i hoi hi (.inl (by omega)) p hp)) hwg' hmode' hlt
 have book:∀ {g':Goroutine} {w':World} {es:Array Event} {s' m' dd':Nat} {st' sm':Int},stepG P false g w = .go g' w' es->Go.Conc.Aside Φ.Wg w w'->WgAt Φ.ty Φ.Wg w' st' sm'->(∀ e ∈ es,Bk Φ.Wg e) ->
  (∀ jx e,es[jx]? = some e->(MemAct.ofEvent e).touch? = none∨0 < deafBehind dd (es.extract 0 jx))->Φ.WS P (i - o) (Sf i) s' 0 m' dd' g' w'->deafBehind dd es = dd'->s ≤ 6->(i < o->s' = 1∧∀ e ∈ es,(MemAct.ofEvent e).touch? = none) ->
  ConcN.Mode J (upd D i ⟨s',m',dd'⟩) tag st' sm'->((s' + 0 < s + x∧cnt ⟨s',m',dd'⟩ ≤ cnt (D i))∨(s' = s∧0 = x∧m' + 1 = m)) ->
  ∃ m₁ ops μ',runT P (crowd gs w sl) (i + 1) = (.next m₁,ops)∧Lt2 μ' (rho (o + Φ.nw) (Vc J D) tag sub + Ssum J D + Xsum J X,f0 + 2 * Fsum J D)∧Φ.Inv P K An o Shun w0 μ' m₁ (t ++ ops) :=
  fun hgo hAs hwg' hbk hd hs' hdd h6 ho hmode' hlt=>bookG hgo hAs hwg' hbk hd hs' hdd h6 ho (fun _ ht _=>hmode'.retag ht) hlt
 have idle:∀ {g':Goroutine} {m':Nat},stepG P false g w = .go g' w #[]->Φ.WS P (i - o) (Sf i) s 0 m' dd g' w->m' + 1 = m->x = 0->s ≤ 6->s ≠ 1 ->
  ∃ m₁ ops μ',runT P (crowd gs w sl) (i + 1) = (.next m₁,ops)∧Lt2 μ' (rho (o + Φ.nw) (Vc J D) tag sub + Ssum J D + Xsum J X,f0 + 2 * Fsum J D)∧Φ.Inv P K An o Shun w0 μ' m₁ (t ++ ops):=by
  intro g' m' hgo hs' hm h0 h6 h1;have hoi:=hold (by omega);exact book hgo (.refl _ w) hwg (by simp) (by simp) hs' rfl h6 (fun _=>by omega) (by have:=hmode.same (i:=i) m' dd;rwa [hst] at this) (.inr ⟨rfl,h0.symm,hm⟩)
 have bk2:∀ e ∈ #[rd (stA Φ.Wg),wr (stA Φ.Wg)],Bk Φ.Wg e:=by intro e he;simp at he;rcases he with rfl | rfl <;> exact bk_cell _ _ rfl
 have df2:∀ jx e,(#[rd (stA Φ.Wg),wr (stA Φ.Wg)]:Array Event)[jx]? = some e->(MemAct.ofEvent e).touch? = none∨0 < deafBehind 1 ((#[rd (stA Φ.Wg),wr (stA Φ.Wg)]:Array Event).extract 0 jx):=by
  intro jx e he
  match jx,he with
  | 0,_=>exact .inr (by simp [deafBehind])
  | 1,_=>exact .inr (by simp [deafBehind,rd])
  | jx + 2,he=>simp at he
 have df1:∀ (e0:Event),∀ jx e,(#[e0]:Array Event)[jx]? = some e->(MemAct.ofEvent e).touch? = none∨0 < deafBehind 1 ((#[e0]:Array Event).extract 0 jx):=by
  intro e0 jx e he
  match jx,he with
  | 0,_=>exact .inr (by simp [deafBehind])
  | jx + 1,he=>simp at he
 cases hs with
 | body h =>
   rename_i kk;have hoi:=hold (by omega);have hCS:¬ Sf i Φ.C:=fun h=>by have:=hSn _ h;omega
   rcases Goes.cases h with hstop | ⟨m',rfl,hstep⟩
   . have hB:=hstop w (.refl _ _ w);cases kk with
     | zero =>
       obtain ⟨_,g',w',es,hgo,⟨e1,e2,e3,e4,e5,e6,e7⟩,hev,m₂,hk⟩:=hB;have hT:Φ.Turn (Sf i) (fun off=>o ≤ i∧Φ.mine (i - o) off) w w':=⟨by rw [e1];exact Nat.le_refl _,fun b _ _ hb _=>e2 b hb,fun _=>e3,fun off ho=>e4 off fun hm=>ho ⟨hoi,hm⟩,e6,e7⟩;refine step hgo hT (fun b hb=>hb) (fun b hb=>.inl hb) (.r0 hk) (fun _=>by omega) (fun op hop=>?_) (fun e he=>?_) (fun e he=>?_) ?_ (fun _ h6=>by omega) (fun _ _=>e5) (hwg.of_block (e2 _ (Ne.symm k.hCW))) (fun _ ht _=>ConcN.Mode.retag (by have:=hmode.same (i:=i) m₂ 0;rwa [hst] at this) ht) (.inl ⟨by omega,by simp [cnt,hst]⟩)
       . obtain ⟨e,he,rfl⟩:=Go.Conc.mem_ofEvents hop;obtain ⟨ad,rfl,h1,h2⟩:=hev e he;refine ⟨rfl,fun y hy=>?_⟩;simp only [ofEvent_cell,MemAct.touch?,Option.some.injEq] at hy;subst hy;exact .inr (.inl ⟨⟨by omega,ad,rfl, .inr ⟨by omega,h1,by simpa using h2⟩⟩,rfl⟩)
       . obtain ⟨ad,rfl,_⟩:=hev e he;simp
       . obtain ⟨ad,rfl,h1,_⟩:=hev e he;show ad.block < w'.heap.size;omega
       exact deafBehind_idle (fun e he=>by obtain ⟨ad,rfl,_⟩:=hev e he;simp) 0
     | succ kk =>
       obtain ⟨_,g',ob,hgo,m₂,hk⟩:=hB;refine step hgo (.of_push (by omega) ob) (fun b hb=>.inl hb) (fun b hb=>hb.imp id fun e=>⟨by omega,by simp [e]⟩) (.body hk) (fun _=>by omega) (by simp [MemOp.ofEvents]) (by simp) (by simp) rfl (fun _ h6=>by omega) (fun _ h6=>by omega)
        (hwg.of_block (by show (w.heap.push ob)[Φ.Wg]? = _;rw [Array.getElem?_push_lt (by omega),← Array.getElem?_eq_getElem])) (fun _ ht _=>ConcN.Mode.retag (by have:=hmode.same (i:=i) m₂ 0;rwa [hst] at this) ht) (.inl ⟨by omega,by simp [cnt,hst]⟩)
   obtain ⟨g',w',es,hgo,hD,hg'⟩:=hstep w (.refl _ _ w);have hWS:¬ Sf i Φ.Wg:=fun h=>by have:=hSn _ h;omega
   refine step hgo (hD.turn hCS) (fun b hb=>hb) (fun b hb=>.inl hb) (.body hg') (fun _=>by omega) (fun op hop=>?_) (fun e he=>?_) (fun e he=>?_) ?_ (fun _ h6=>by omega) (fun _ h6=>by omega) (hwg.of_block (hD.stand _ hWS)) (fun _ ht _=>ConcN.Mode.retag (by have:=hmode.same (i:=i) m' 0;rwa [hst] at this) ht) (.inr ⟨rfl,rfl,rfl⟩)
   . obtain ⟨e,he,rfl⟩:=Go.Conc.mem_ofEvents hop;obtain ⟨ad,wr',rfl,h1,h2⟩:=hD.evs e he;refine ⟨rfl,fun y hy=>?_⟩;simp only [ofEvent_cell,MemAct.touch?,Option.some.injEq] at hy;subst hy;rcases h2 with h2 | ⟨h2,rfl⟩
     . exact .inr (.inl ⟨⟨by omega,ad,rfl, .inl (by simpa [upd_same] using h2)⟩,rfl⟩)
     exact .inr (.inr ⟨by omega,⟨ad,rfl,h2⟩,rfl,rfl⟩)
   . obtain ⟨ad,_,rfl,_⟩:=hD.evs e he;simp
   . obtain ⟨ad,_,rfl,h1,_⟩:=hD.evs e he;show ad.block < w'.heap.size;rw [hD.size];exact h1
   exact deafBehind_idle (fun e he=>by obtain ⟨ad,_,rfl,_⟩:=hD.evs e he;simp) 0
 | r0 h =>
   have hoi:=hold (by omega);rcases Goes.cases h with hstop | ⟨m',rfl,hstep⟩
   . obtain ⟨_,hx'⟩:=hstop w (.refl _ _ w);obtain ⟨g',hgo,m₂,hk⟩:=hx' trivial;refine step hgo (.refl Φ _ _ w) (fun b hb=>hb) (fun b hb=>.inl hb) (.k1 hk) (fun _=>by omega) (zlp (by intro e he;simp at he;subst he;rfl)) (by intro e he;simp at he;subst he;simp [Go.ConcR.mk]) (by intro e he;simp at he;subst he;show Φ.Wg < w.heap.size;omega) (by rfl)
      (fun _ _=>⟨t.size,RelBy.new hdk _ _⟩) (fun _ _=>hcom.has i hoi hi (.inr hx)) hwg (fun _ ht _=>(hmode.counted hi (by omega) (.inl rfl) _ _).retag ht) (.inl ⟨by omega,by simp [cnt,hst]⟩)
   obtain ⟨g',w',es,hgo,⟨rfl,rfl⟩,hg'⟩:=hstep w (.refl _ _ w);exact step hgo (.refl Φ _ _ _) (fun b hb=>hb) (fun b hb=>.inl hb) (.r0 hg') (fun _=>by omega) (by simp [MemOp.ofEvents]) (by simp) (by simp) rfl (fun _ h6=>by omega) (fun _ _=>hcom.has i hoi hi (.inr hx)) hwg (fun _ ht _=>ConcN.Mode.retag (by have:=hmode.same (i:=i) m' 0;rwa [hst] at this) ht) (.inr ⟨rfl,rfl,rfl⟩)
 | k1 h =>
   have hoi:=hold (by omega);rcases Goes.cases h with hstop | ⟨m',rfl,hstep⟩
   . obtain ⟨_,hx'⟩:=hstop w (.refl _ _ w);obtain ⟨g',hgo,m₂,hk⟩:=hx' trivial;exact book hgo (.refl _ w) hwg (by intro e he;simp at he;subst he;exact .inl rfl) (by intro jx e he;exact .inl (by have:=Array.mem_of_getElem? he;simp at this;subst this;rfl)) (.d1 hk) rfl (by omega) (fun _=>by omega)
      (hmode.counted hi (by omega) (.inr rfl) _ _) (.inl ⟨by omega,by simp [cnt,hst]⟩)
   obtain ⟨g',w',es,hgo,⟨rfl,rfl⟩,hg'⟩:=hstep w (.refl _ _ w);exact idle hgo (.k1 hg') rfl rfl (by omega) (by omega)
 | d1 h =>
   have hoi:=hold (by omega);rcases Goes.cases h with hstop | ⟨m',rfl,hstep⟩
   . obtain ⟨_,hall⟩:=hstop w (.refl _ _ w);have hc1:cnt (D i) = 1:=by simp [cnt,hst]
     have hV1:1 ≤ Vc J D:=by have:=le_sumTo (f:=fun x=>cnt (D x)) hi;simp only [Vc];omega
     have hq0:∀ q,cnt (⟨1,q,1⟩:WD) = 0:=fun _=>rfl;have opq:∀ q,OpenSt J D->OpenSt J (upd D i ⟨1,q,1⟩):=fun q h a ha=>by
      by_cases e:a = i
      . subst e;rw [upd_same];simp
      rw [upd_ne D _ e];exact h a ha
     cases hmode with
     | opn h1 h2 h3 =>
       obtain ⟨v,hv⟩:∃ v,Vc J D + pend tag = v + 1:=⟨Vc J D + pend tag - 1,by omega⟩;rw [hv] at hwg;have hw1:WgAt Φ.ty Φ.Wg w (((v:Nat) + 1) * KK + ((0:Nat):Int)) 0:=by simpa using hwg
       obtain ⟨g',hgo,_,hq⟩:=hall v 0 (by omega) (by omega) hw1;obtain ⟨q,hq⟩:=hq (by omega);have hv':Vc J (upd D i ⟨1,q,1⟩) + pend tag = v:=by have:=Vc_upd D (⟨1,q,1⟩:WD) hi;have:=hq0 q;omega
       refine book hgo (aside_setCell w (stA Φ.Wg) _) (hwg.setSt _) bk2 df2 (.quit hq) rfl (by omega) (fun _=>by omega) ?_ (.inl ⟨by omega,by simp [cnt]⟩);have e:((v:Nat):Int) * KK + ((0:Nat):Int) = ((Vc J (upd D i ⟨1,q,1⟩) + pend tag:Nat):Int) * KK:=by rw [hv'];simp
       rw [e];exact .opn h1 (opq q h2) (fun vs ev=>by have:=h3 vs ev;omega)
     | reg h1 h2 h3 =>
       obtain ⟨v,hv⟩:∃ v,Vc J D = v + 1:=⟨Vc J D - 1,by omega⟩;rw [hv] at hwg;have hw1:WgAt Φ.ty Φ.Wg w (((v:Nat) + 1) * KK + ((1:Nat):Int)) 0:=by simpa using hwg
       obtain ⟨g',hgo,hl,hq⟩:=hall v 1 (by omega) (by omega) hw1;by_cases hv0:v = 0
       . subst hv0;obtain ⟨m₂,hk⟩:=hl ⟨rfl,rfl⟩;refine book hgo (aside_setCell w (stA Φ.Wg) _) (hwg.setSt _) bk2 df2 (.d2 hk) rfl (by omega) (fun _=>by omega) ?_ (.inl ⟨by omega,by simp [cnt]⟩);have hoth:∀ a,a < J->a ≠ i->(D a).stage = 1:=fun a ha e=>by
          have c0:=others_uncounted hi hv hc1 a ha e;have:=h2 a ha;simp only [cnt] at c0;split at c0 <;> omega
         have:=ConcN.Mode.last (j:=J) (D:=upd D i ⟨4,m₂,1⟩) (tag:=tag) i h1 hi (by rw [upd_same];simp) (fun a ha e=>by rw [upd_ne D _ e];exact hoth a ha e);rw [upd_same] at this
         simpa using this
       obtain ⟨q,hq⟩:=hq (by omega);have hv':Vc J (upd D i ⟨1,q,1⟩) = v:=by have:=Vc_upd D (⟨1,q,1⟩:WD) hi;have:=hq0 q;omega
       refine book hgo (aside_setCell w (stA Φ.Wg) _) (hwg.setSt _) bk2 df2 (.quit hq) rfl (by omega) (fun _=>by omega) ?_ (.inl ⟨by omega,by simp [cnt]⟩);have e:((v:Nat):Int) * KK + ((1:Nat):Int) = ((Vc J (upd D i ⟨1,q,1⟩):Nat):Int) * KK + 1:=by rw [hv'];simp
       rw [e];exact .reg h1 (opq q h2) (by omega)
     | last L _ h2 h3 h4 =>
       by_cases e:i = L
       . subst e;omega
       have:=h4 i hi e;omega
     | sema h2=>have:=h2 i hi;omega
     | fin _ h2=>have:=h2 i hi;omega
   obtain ⟨g',w',es,hgo,⟨rfl,rfl⟩,hg'⟩:=hstep w (.refl _ _ w);exact idle hgo (.d1 hg') rfl rfl (by omega) (by omega)
 | d2 h =>
   have hoi:=hold (by omega);rcases Goes.cases h with hstop | ⟨m',rfl,hstep⟩
   . obtain ⟨_,hx'⟩:=hstop w (.refl _ _ w);obtain ⟨hW3,hoth,rfl,rfl⟩:=hmode.isLast hi (by omega);simp only [hst] at hwg;obtain ⟨g',hgo,m₂,hk⟩:=hx' (by simpa using hwg);refine book hgo (.refl _ w) hwg (by intro e he;simp at he;subst he;exact bk_cell _ _ rfl) (df1 _) (.d3 hk) rfl (by omega) (fun _=>by omega) ?_ (.inl ⟨by omega,by simp [cnt]⟩);have:=ConcN.Mode.last (j:=J) (D:=upd D i ⟨3,m₂,1⟩) (tag:=tag) i hW3 hi (by rw [upd_same];simp) (fun a ha e=>by rw [upd_ne D _ e];exact hoth a ha e);rw [upd_same] at this
     simpa using this
   obtain ⟨g',w',es,hgo,⟨rfl,rfl⟩,hg'⟩:=hstep w (.refl _ _ w);exact idle hgo (.d2 hg') rfl rfl (by omega) (by omega)
 | d3 h =>
   have hoi:=hold (by omega);rcases Goes.cases h with hstop | ⟨m',rfl,hstep⟩
   . obtain ⟨_,hx'⟩:=hstop w (.refl _ _ w);obtain ⟨hW3,hoth,rfl,rfl⟩:=hmode.isLast hi (by omega);simp only [hst] at hwg;obtain ⟨g',hgo,m₂,hk⟩:=hx' (by simpa using hwg);refine book hgo (aside_setCell w (stA Φ.Wg) _) (hwg.setSt 0) (by intro e he;simp at he;subst he;exact bk_cell _ _ rfl) (df1 _) (.d4 hk) rfl (by omega) (fun _=>by omega) ?_ (.inl ⟨by omega,by simp [cnt]⟩);have:=ConcN.Mode.last (j:=J) (D:=upd D i ⟨2,m₂,1⟩) (tag:=tag) i hW3 hi (by rw [upd_same];simp) (fun a ha e=>by rw [upd_ne D _ e];exact hoth a ha e);rw [upd_same] at this
     simpa using this
   obtain ⟨g',w',es,hgo,⟨rfl,rfl⟩,hg'⟩:=hstep w (.refl _ _ w);exact idle hgo (.d3 hg') rfl rfl (by omega) (by omega)
 | d4 h =>
   have hoi:=hold (by omega);rcases Goes.cases h with hstop | ⟨m',rfl,hstep⟩
   . obtain ⟨_,hmw,hx'⟩:=hstop w (.refl _ _ w);obtain ⟨hW3,hoth,rfl,rfl⟩:=hmode.isLast hi (by omega);simp only [hst] at hwg;obtain ⟨g',hgo,q,hq⟩:=hx' (by simpa using hwg);have hrun':g'.status = .running:=by
      cases q with
      | zero=>exact absurd hq.2 (by decide)
      | succ q=>exact hq.elim (fun x=>absurd x.2 (by decide)) (fun x=>x.1)
     refine bookG hgo (aside_setCell w (smA Φ.Wg) _) (hwg.setSm 1) (es:=semEvents (smA Φ.Wg)) bk_sem ?_ (.quit hq) (by simp [deafBehind,semEvents]) (by omega) (fun _=>by omega) ?_ (.inl ⟨by omega,by simp [cnt]⟩)
     . intro jx e he
       match jx,he with
       | 0,he=>simp [semEvents] at he;subst he;exact .inl rfl
       | 1,_=>exact .inr (by simp [deafBehind,semEvents])
       | 2,_=>exact .inr (by simp [deafBehind,semEvents])
       | 3,he=>simp [semEvents] at he;subst he;exact .inl rfl
       | jx + 4,he=>simp [semEvents] at he
     intro tag' ht hw;have hnb:=hw hmw hrun';have e3:tag' = .w3:=by
      rcases ht with rfl | ⟨_,rfl⟩
      . cases tag' <;> first | rfl | exact hW3.elim | exact absurd rfl hnb
      rfl
     subst e3;simp only [if_true];exact .sema fun a ha=>by
      by_cases e:a = i
      . subst e;rw [upd_same]
      rw [upd_ne D _ e];exact hoth a ha e
   obtain ⟨g',w',es,hgo,⟨rfl,rfl⟩,hg'⟩:=hstep w (.refl _ _ w);exact idle hgo (.d4 hg') rfl rfl (by omega) (by omega)
 | quit h =>
   cases m with
   | zero=>rw [h.1] at hrun;cases hrun
   | succ q =>
     rcases h with ⟨hf,_⟩ | ⟨_,g',es,hmute,hstep,hq⟩
     . rw [hf] at hrun;cases hrun
     have hbk:∀ e ∈ es,Bk Φ.Wg e:=fun e he=>bk_of_mute (hmute e he);have hno:∀ e ∈ es,(MemAct.ofEvent e).touch? = none:=fun e he=>touch_mute (hmute e he);exact book (hstep w) (.refl _ w) hwg hbk (fun jx e he=>.inl (hno e (Array.mem_of_getElem? he))) (.quit hq) rfl (by omega) (fun _=>⟨rfl,hno⟩) (by have:=hmode.same (i:=i) q (deafBehind dd es);rwa [hst] at this) (.inr ⟨rfl,rfl,rfl⟩)
end
end
section
open Go.Conc Go.ConcN
open Go.ConcR (KK WgAt stA smA rd wr mk DC0 g_of_ofEvents Bk bk_of_mute ofEvent_loc_mark ofEvent_cell ofEvent_mk)

section
variable {Shun Grp:Loc->Prop} {Own:Nat->Loc->Prop} {Ro:Loc->Prop} {J:Nat} {fn:FuncId} {pos:String} {es:Array Event}
theorem zlq (h:∀ e ∈ es,(MemAct.ofEvent e).touch? = none):∀ op ∈ MemOp.ofEvents 0 fn pos es,May0 Shun Grp Own Ro J op:=by
 intro op hop;obtain ⟨e,he,rfl⟩:=Go.Conc.mem_ofEvents hop;exact ⟨rfl,fun x hx=>by simp only [h e he] at hx;cases hx⟩
theorem zpm {Wg:Nat} (h:∀ e ∈ es,Bk Wg e):∀ op ∈ MemOp.ofEvents 0 fn pos es,May0 Shun (ShN Wg) Own Ro J op:=by
 intro op hop;obtain ⟨e,he,rfl⟩:=Go.Conc.mem_ofEvents hop;refine ⟨rfl,fun x hx=>?_⟩;rcases h e he with h1 | h1 | ⟨a,wr,rfl,ha⟩
 . simp only [ofEvent_loc_mark h1] at hx;cases hx
 . simp only [ofEvent_loc_mark h1] at hx;cases hx
 simp only [ofEvent_cell,MemAct.touch?,Option.some.injEq] at hx;subst hx;exact .inl ⟨⟨a,rfl,ha⟩,by simp⟩
end

def Ph.Over (Φ:Ph) (P:Program) (K:Goroutine->Prop) (Shun:Loc->Prop) (w0:World) (m:Machine) (t:Trace):Prop :=
 ∃ (gs : Array Goroutine) (w : World) (sl : Option (Nat × Nat)) (a : Goroutine) (q : Nat -> Nat),
   m = crowd gs w sl∧gs[0]? = some a∧K a∧Leavers P t gs q∧Past (fun l=>Shun l∨ShN Φ.Wg l) w.heap.size t∧Φ.Pay w∧Φ.Old w∧WgAt Φ.ty Φ.Wg w 0 0∧Φ.n0 ≤ w.heap.size∧(∀ i,i < Φ.nw->Φ.Has i w)∧w.os = w0.os∧w.output = w0.output

section
variable {Φ:Ph} {P:Program} {K:Goroutine->Prop} {An:Goroutine->World->Prop} {o J:Nat} {Shun:Loc->Prop} {w0:World} {gs:Array Goroutine} {w w':World} {sl:Option (Nat × Nat)} {t:Trace} {D:Nat->WD} {X:Nat->Nat} {Sf:Nat->Nat->Prop} {S0:Nat->Prop}
 {tag:CTag} {sub f0 d0:Nat} {a:Goroutine} {st sm:Int}

theorem Ph.stepC {a':Goroutine} {es:Array Event} {tag':CTag} {sub' f':Nat} {S0':Nat->Prop} {st' sm':Int} (ha:gs[0]? = some a) (hgo:stepG P true a w = .go a' w' es)
 (hcom:Φ.Com P o J Shun w0 ((gs.map (woken P a a' w')).setIfInBounds 0 a') w' (t ++ MemOp.ofEvents 0 a.frame.fn a.frame.place es) D X Sf S0' (deafBehind d0 es)) (hsz:gs.size = J + 1)
 (hcs':Φ.CS P K An tag' sub' (J - o) S0' f' (deafBehind d0 es) a' w') (hwg:WgAt Φ.ty Φ.Wg w' st' sm') (hmode:ConcN.Mode J D tag' st' sm')
 (hlt:rho (o + Φ.nw) (Vc J D) tag' sub' < rho (o + Φ.nw) (Vc J D) tag sub∨(rho (o + Φ.nw) (Vc J D) tag' sub' = rho (o + Φ.nw) (Vc J D) tag sub∧f' < f0)) :
 ∃ m₁ ops μ',runT P (crowd gs w sl) 0 = (.next m₁,ops)∧Lt2 μ' (rho (o + Φ.nw) (Vc J D) tag sub + Ssum J D + Xsum J X,f0 + 2 * Fsum J D)∧Φ.Inv P K An o Shun w0 μ' m₁ (t ++ ops):=by
 have hrun:=runT_crowd_go (P:=P) (sl:=sl) (i:=0) ha (by simpa using hgo);refine ⟨_,_,(rho (o + Φ.nw) (Vc J D) tag' sub' + Ssum J D + Xsum J X,f' + 2 * Fsum J D),hrun, ?_,
  _,w',sl,J,D,X,Sf,S0',tag',sub',f',deafBehind d0 es,a',st',sm',rfl,get_map_set_same _ _ _ (by rw [hsz];omega),hcs',hcom,hwg,hmode,rfl⟩
 rcases hlt with h | ⟨h1,h2⟩
 . exact Prod.Lex.left _ _ (by omega)
 rw [h1];exact Prod.Lex.right _ (by omega)

theorem Ph.bookC (k:Φ.Ok) {a':Goroutine} {es:Array Event} {tag':CTag} {sub' f':Nat} {st' sm':Int} (ha:gs[0]? = some a) (hcom:Φ.Com P o J Shun w0 gs w t D X Sf S0 d0) (hgo:stepG P true a w = .go a' w' es)
 (hAs:Go.Conc.Aside Φ.Wg w w') (hwg':WgAt Φ.ty Φ.Wg w' st' sm') (hok:∀ op ∈ MemOp.ofEvents 0 a.frame.fn a.frame.place es,May0 Shun (ShN Φ.Wg) (Φ.OwnL o Sf) Φ.RoL J op) (hnr:∀ e ∈ es,e.loc ≠ .mark (.release (stA Φ.Wg))) (hlow:∀ e ∈ es,(MemAct.ofEvent e).low w'.heap.size)
 (hcs':Φ.CS P K An tag' sub' (J - o) S0 f' (deafBehind d0 es) a' w') (hmode':ConcN.Mode J D tag' st' sm')
 (hlt:rho (o + Φ.nw) (Vc J D) tag' sub' < rho (o + Φ.nw) (Vc J D) tag sub∨(rho (o + Φ.nw) (Vc J D) tag' sub' = rho (o + Φ.nw) (Vc J D) tag sub∧f' < f0)) :
 ∃ m₁ ops μ',runT P (crowd gs w sl) 0 = (.next m₁,ops)∧Lt2 μ' (rho (o + Φ.nw) (Vc J D) tag sub + Ssum J D + Xsum J X,f0 + 2 * Fsum J D)∧Φ.Inv P K An o Shun w0 μ' m₁ (t ++ ops) :=
 Ph.stepC ha hgo (hcom.step0 k (.of_wg k hAs) ⟨_,_,hwg'⟩ (fun _ hb=>.inl hb) hok hnr hlow) hcom.size hcs' hwg' hmode' hlt
theorem Ph.bookC1 (k:Φ.Ok) {a':Goroutine} {es:Array Event} {tag':CTag} {sub' f':Nat} {st' sm':Int} (ha:gs[0]? = some a) (hcom:Φ.Com P o J Shun w0 gs w t D X Sf S0 d0) (hgo:stepG P true a w = .go a' w' es)
 (hAs:Go.Conc.Aside Φ.Wg w w') (hwg':WgAt Φ.ty Φ.Wg w' st' sm') (hbk:∀ e ∈ es,Bk Φ.Wg e)
 (hcs':Φ.CS P K An tag' sub' (J - o) S0 f' (deafBehind d0 es) a' w') (hmode':ConcN.Mode J D tag' st' sm')
 (hlt:rho (o + Φ.nw) (Vc J D) tag' sub' < rho (o + Φ.nw) (Vc J D) tag sub∨(rho (o + Φ.nw) (Vc J D) tag' sub' = rho (o + Φ.nw) (Vc J D) tag sub∧f' < f0)) :
 ∃ m₁ ops μ',runT P (crowd gs w sl) 0 = (.next m₁,ops)∧Lt2 μ' (rho (o + Φ.nw) (Vc J D) tag sub + Ssum J D + Xsum J X,f0 + 2 * Fsum J D)∧Φ.Inv P K An o Shun w0 μ' m₁ (t ++ ops) :=
 Ph.bookC k ha hcom hgo hAs hwg' (zpm hbk) (norel_of_Bk hbk) (zox (by have:=hcom.n0;have:=k.hW;have:=hAs.size;omega) hbk) hcs' hmode' hlt
theorem Ph.saidC (k:Φ.Ok) {a':Goroutine} {e:Event} {tag':CTag} {sub' f':Nat} (ha:gs[0]? = some a) (hcom:Φ.Com P o J Shun w0 gs w t D X Sf S0 d0) (hgo:stepG P true a w = .go a' w #[e])
 (he:e = Go.ConcR.mk (.read (smA Φ.Wg))∨e = Go.ConcR.mk (.write (smA Φ.Wg))) (hwg':WgAt Φ.ty Φ.Wg w st sm)
 (hcs':Φ.CS P K An tag' sub' (J - o) S0 f' d0 a' w) (hmode':ConcN.Mode J D tag' st sm)
 (hlt:rho (o + Φ.nw) (Vc J D) tag' sub' < rho (o + Φ.nw) (Vc J D) tag sub∨(rho (o + Φ.nw) (Vc J D) tag' sub' = rho (o + Φ.nw) (Vc J D) tag sub∧f' < f0)) :
 ∃ m₁ ops μ',runT P (crowd gs w sl) 0 = (.next m₁,ops)∧Lt2 μ' (rho (o + Φ.nw) (Vc J D) tag sub + Ssum J D + Xsum J X,f0 + 2 * Fsum J D)∧Φ.Inv P K An o Shun w0 μ' m₁ (t ++ ops):=by
 have hn:=hcom.n0;have hW:=k.hW;have hd:deafBehind d0 #[e] = d0:=by rcases he with rfl | rfl <;> rfl
 refine Ph.bookC k ha hcom hgo (.refl _ w) hwg' (fun op hop=>?_) (fun x hx=>?_) (fun x hx=>?_) (by rw [hd];exact hcs') hmode' hlt
 . obtain ⟨x,hx,rfl⟩:=Go.Conc.mem_ofEvents hop;rw [Array.mem_singleton] at hx;subst hx;refine ⟨rfl,fun y hy=>.inl ?_⟩;rcases he with rfl | rfl <;> simp only [ofEvent_mk,MemAct.touch?,Option.some.injEq] at hy <;> subst hy <;> exact ⟨⟨_,rfl,rfl⟩,by simp⟩
 . rw [Array.mem_singleton] at hx;subst hx;rcases he with rfl | rfl <;> simp [Go.ConcR.mk]
 rw [Array.mem_singleton] at hx;subst hx;rcases he with rfl | rfl <;> (show Φ.Wg < w.heap.size;omega)
theorem Ph.idleC (k:Φ.Ok) {a':Goroutine} {f':Nat} (ha:gs[0]? = some a) (hcom:Φ.Com P o J Shun w0 gs w t D X Sf S0 d0) (hwg:WgAt Φ.ty Φ.Wg w st sm) (hmode:ConcN.Mode J D tag st sm) (hgo:stepG P true a w = .go a' w #[])
 (hcs':Φ.CS P K An tag sub (J - o) S0 f' d0 a' w) (hf:f' < f0) :
 ∃ m₁ ops μ',runT P (crowd gs w sl) 0 = (.next m₁,ops)∧Lt2 μ' (rho (o + Φ.nw) (Vc J D) tag sub + Ssum J D + Xsum J X,f0 + 2 * Fsum J D)∧Φ.Inv P K An o Shun w0 μ' m₁ (t ++ ops) :=
 Ph.bookC1 k ha hcom hgo (.refl _ w) hwg (by simp) hcs' hmode (.inr ⟨rfl,hf⟩)

theorem Ph.s3Step (k:Φ.Ok) (ha:gs[0]? = some a) (hcom:Φ.Com P o J Shun w0 gs w t D X Sf xv 1) (hJ:J - o = Φ.nw) (hwg:WgAt Φ.ty Φ.Wg w st sm) (hmode:ConcN.Mode J D .w1 st sm)
 (h:Goes P true (Φ.R xv) DC0 (S3 P Φ.ty Φ.Wg (Φ.R xv) K An) f0 a w) :
 ∃ m₁ ops μ',runT P (crowd gs w sl) 0 = (.next m₁,ops)∧Lt2 μ' (rho (o + Φ.nw) (Vc J D) .w1 0 + Ssum J D + Xsum J X,f0 + 2 * Fsum J D)∧Φ.Inv P K An o Shun w0 μ' m₁ (t ++ ops):=by
 have kf:=k.few;rcases Goes.cases h with hstop | ⟨m',rfl,hstep⟩
 . obtain ⟨_,hall⟩:=hstop w (.refl _ _ w);obtain ⟨ho,rfl,rfl,_⟩:=hmode.open_inv trivial;have hV:=zgf hcom.oldq J;obtain ⟨a',hgo,h0,hne⟩:=hall (Vc J D) (by omega) (by simpa [pend] using hwg);by_cases hv:Vc J D = 0
   . obtain ⟨m₂,hk⟩:=h0 hv;refine Ph.bookC1 k ha hcom hgo (.refl _ w) hwg bk_rd (tag':=.ke) (sub':=0) (by rw [hJ];exact .s8 hk) ?_ (.inl (by simp only [rho,phi];omega));have e:((Vc J D + pend .w1:Nat):Int) * KK = 0:=by rw [hv];simp [pend]
     rw [e];exact .fin trivial (allQuit_of ho hv)
   obtain ⟨m₂,hk⟩:=hne hv;exact Ph.bookC1 k ha hcom hgo (.refl _ w) hwg bk_rd (tag':=.w2 (Vc J D)) (sub':=0) (by rw [hJ];exact .s4 hk) (hmode.reopen trivial trivial rfl (fun vs e=>by cases e;omega)) (.inl (by simp only [rho,phi];omega))
 obtain ⟨a',w',es,hgo,⟨rfl,rfl⟩,hg'⟩:=hstep w (.refl _ _ w);exact Ph.idleC k ha hcom hwg hmode hgo (by rw [hJ];exact .s3 hg') (by omega)

theorem Ph.stepCaller (k:Φ.Ok) (hAn:∀ g w,An g w->∃ m,Goes P true (Φ.R xv) DC0 (S3 P Φ.ty Φ.Wg (Φ.R xv) K An) m g w)
 (ha:gs[0]? = some a) (hcs:Φ.CS P K An tag sub (J - o) S0 f0 d0 a w) (hcom:Φ.Com P o J Shun w0 gs w t D X Sf S0 d0) (hwg:WgAt Φ.ty Φ.Wg w st sm) (hmode:ConcN.Mode J D tag st sm) (hrun:a.status = .running) :
 (∃ m₁ ops,runT P (crowd gs w sl) 0 = (.next m₁,ops)∧Φ.Over P K Shun w0 m₁ (t ++ ops)) ∨
 (∃ m₁ ops μ',runT P (crowd gs w sl) 0 = (.next m₁,ops)∧Lt2 μ' (rho (o + Φ.nw) (Vc J D) tag sub + Ssum J D + Xsum J X,f0 + 2 * Fsum J D)∧Φ.Inv P K An o Shun w0 μ' m₁ (t ++ ops)):=by
 have kC:=k.hC;have kW:=k.hW;have kf:=k.few;have hn0:=hcom.n0;have hVj:=zgf hcom.oldq J;have oJ:=hcom.oJ;generalize hj:J - o = j at hcs;cases hcs with
 | al hr h =>
   rename_i r;rcases Goes.cases h with hstop | ⟨m',rfl,hstep⟩
   . obtain ⟨_,a',ob,hgo,m₂,hk⟩:=hstop w (.refl _ _ w);refine .inr (Ph.stepC (S0':=fun b=>b = w.heap.size) (tag':=.sp r 6) (sub':=0) ha hgo (hcom.step0 k (.of_push (by omega) ob) ⟨st,sm,hwg.of_block ?_⟩ (fun b hb=>.inr ⟨by omega,by simp [hb]⟩) (by simp [MemOp.ofEvents]) (by simp) (by simp)) hcom.size (by rw [hj];exact .st hr hk) (hwg.of_block ?_) (hmode.reopen trivial trivial rfl (by simp)) (.inl (by simp only [rho,phi];omega)));all_goals (show (w.heap.push ob)[Φ.Wg]? = _;rw [Array.getElem?_push_lt (by omega),← Array.getElem?_eq_getElem])
   obtain ⟨a',w',es,hgo,⟨rfl,rfl⟩,hg'⟩:=hstep w (.refl _ _ w);exact .inr (Ph.idleC k ha hcom hwg hmode hgo (by rw [hj];exact .al hr hg') (by omega))
 | st hr h =>
   rename_i r;rcases Goes.cases h with hstop | ⟨m',rfl,hstep⟩
   . obtain ⟨_,a',w',es,hgo,hD,m₂,hk⟩:=hstop w (.refl _ _ w);have hWS:¬ S0 Φ.Wg:=fun h=>by have:=hcom.sep0 _ h;omega
     have hCS:¬ S0 Φ.C:=fun h=>by have:=hcom.sep0 _ h;omega
     have hwg':=hwg.of_block (hD.stand _ hWS);have hdf:deafBehind 0 es = 0:=deafBehind_idle (fun e he=>by obtain ⟨ad,_,rfl,_⟩:=hD.evs e he;simp) 0;refine .inr (Ph.stepC (S0':=S0) (tag':=.sp r 5) (sub':=0) ha hgo (hcom.step0 k (hD.turn hCS) ⟨st,sm,hwg'⟩ (fun b hb=>.inl hb) (fun op hop=>?_) (fun e he=>?_) (fun e he=>?_)) hcom.size (by rw [hj,hdf];exact .kd hr hk) hwg' (hmode.reopen trivial trivial rfl (by simp)) (.inl (by simp only [rho,phi];omega)))
     . obtain ⟨e,he,rfl⟩:=Go.Conc.mem_ofEvents hop;obtain ⟨ad,wr',rfl,h1,h2⟩:=hD.evs e he;refine ⟨rfl,fun y hy=>.inr ?_⟩;simp only [ofEvent_cell,MemAct.touch?,Option.some.injEq] at hy;subst hy;have A:=hcom.apt k;rcases h2 with h2 | ⟨h2,rfl⟩
       . have hb:=hcom.sep0 _ h2;refine ⟨?_,fun hs=>?_, ?_,fun _=>?_⟩
         . rintro ⟨x,e,hx⟩;cases e;omega
         . obtain ⟨x,e,hx⟩:=hcom.shun _ hs;cases e;have:=(k.hSB _ hx).1;omega
         . rintro i i1 iJ ⟨_,x,e,hx⟩;cases e;rcases hx with hx | ⟨_,hx,_⟩
           . exact (hcom.sep _ _ hx).2.2.2 h2
           omega
         rintro ⟨x,e,hx⟩;cases e;have:=hx.1;omega
       have hR:Φ.RoL (.cell ad):=⟨ad,rfl,h2⟩;exact ⟨A.roGrp _ hR,A.roShun _ hR,fun i _ _ ho=>A.ownRo _ _ ho hR,fun hw=>by cases hw⟩
     . obtain ⟨ad,_,rfl,_⟩:=hD.evs e he;simp
     obtain ⟨ad,_,rfl,h1,_⟩:=hD.evs e he;show ad.block < w'.heap.size;rw [hD.size];exact h1
   obtain ⟨a',w',es,hgo,⟨rfl,rfl⟩,hg'⟩:=hstep w (.refl _ _ w);exact .inr (Ph.idleC k ha hcom hwg hmode hgo (by rw [hj];exact .st hr hg') (by omega))
 | kd hr h =>
   rename_i r;rcases Goes.cases h with hstop | ⟨m',rfl,hstep⟩
   . obtain ⟨_,hx⟩:=hstop w (.refl _ _ w);obtain ⟨a',hgo,m₂,hk⟩:=hx trivial;exact .inr (Ph.bookC1 k ha hcom hgo (.refl _ w) hwg bk_dis (tag':=.sp r 4) (sub':=0) (by rw [hj];exact .a1 hr hk) (hmode.reopen trivial trivial rfl (by simp)) (.inl (by simp only [rho,phi];omega)))
   obtain ⟨a',w',es,hgo,⟨rfl,rfl⟩,hg'⟩:=hstep w (.refl _ _ w);exact .inr (Ph.idleC k ha hcom hwg hmode hgo (by rw [hj];exact .kd hr hg') (by omega))
 | a1 hr h =>
   rename_i r;rcases Goes.cases h with hstop | ⟨m',rfl,hstep⟩
   . obtain ⟨_,hall⟩:=hstop w (.refl _ _ w);obtain ⟨ho,rfl,rfl,_⟩:=hmode.open_inv trivial;obtain ⟨a',hgo,h0,h1⟩:=hall (Vc J D) (by omega) (by simpa [pend] using hwg);by_cases hv:Vc J D = 0
     . obtain ⟨m₂,hk⟩:=h0 hv;refine .inr (Ph.bookC1 k ha hcom hgo (aside_setCell w (stA Φ.Wg) _) (hwg.setSt _) bk_rw (tag':=.sp r 3) (sub':=0) (by rw [hj];exact .rm hr hk) ?_ (.inl (by simp only [rho,phi];omega)));have e:(((Vc J D:Nat):Int) + 1) * KK = ((Vc J D + pend (.sp r 3):Nat):Int) * KK:=by simp [pend]
       rw [e];exact .opn trivial ho (by simp)
     obtain ⟨m₂,hk⟩:=h1 hv;refine .inr (Ph.bookC1 k ha hcom hgo (aside_setCell w (stA Φ.Wg) _) (hwg.setSt _) bk_rw (tag':=.sp r 2) (sub':=0) (by rw [hj];exact .ke hr hk) ?_ (.inl (by simp only [rho,phi];omega)));have e:(((Vc J D:Nat):Int) + 1) * KK = ((Vc J D + pend (.sp r 2):Nat):Int) * KK:=by simp [pend]
     rw [e];exact .opn trivial ho (by simp)
   obtain ⟨a',w',es,hgo,⟨rfl,rfl⟩,hg'⟩:=hstep w (.refl _ _ w);exact .inr (Ph.idleC k ha hcom hwg hmode hgo (by rw [hj];exact .a1 hr hg') (by omega))
 | rm hr h =>
   rename_i r;rcases Goes.cases h with hstop | ⟨m',rfl,hstep⟩
   . obtain ⟨_,hx⟩:=hstop w (.refl _ _ w);obtain ⟨a',hgo,m₂,hk⟩:=hx trivial;exact .inr (Ph.saidC k ha hcom hgo (.inl rfl) hwg (tag':=.sp r 2) (sub':=0) (by rw [hj];exact .ke hr hk) (hmode.reopen trivial trivial rfl (by simp)) (.inl (by simp only [rho,phi];omega)))
   obtain ⟨a',w',es,hgo,⟨rfl,rfl⟩,hg'⟩:=hstep w (.refl _ _ w);exact .inr (Ph.idleC k ha hcom hwg hmode hgo (by rw [hj];exact .rm hr hg') (by omega))
 | ke hr h =>
   rename_i r;rcases Goes.cases h with hstop | ⟨m',rfl,hstep⟩
   . obtain ⟨_,hx⟩:=hstop w (.refl _ _ w);obtain ⟨a',hgo,m₂,hk⟩:=hx trivial;exact .inr (Ph.bookC1 k ha hcom hgo (.refl _ w) hwg bk_en (tag':=.sp r 1) (sub':=0) (by rw [hj];exact .go hr hk) (hmode.reopen trivial trivial rfl (by simp)) (.inl (by simp only [rho,phi];omega)))
   obtain ⟨a',w',es,hgo,⟨rfl,rfl⟩,hg'⟩:=hstep w (.refl _ _ w);exact .inr (Ph.idleC k ha hcom hwg hmode hgo (by rw [hj];exact .ke hr hg') (by omega))
 | go hr h =>
   rename_i r;rcases Goes.cases h with hstop | ⟨m',rfl,hstep⟩
   . obtain ⟨_,a',child,hsp,⟨m₂,x,hx30,hwk⟩,hnext⟩:=hstop w (.refl _ _ w);obtain ⟨ho,rfl,rfl,_⟩:=hmode.open_inv trivial;have hrun':=runT_crowd_spawn (P:=P) (sl:=sl) (i:=0) ha (by simpa using hsp);rw [hcom.size] at hrun';rw [← hj] at hwk;have hcom':=hcom.spawn k (a':=a') (x:={ g:=0,fn:=a.frame.fn,pos:=a.frame.place,act:=.go (J + 1) }) (y:={ g:=J + 1,fn:=child.frame.fn,pos:=a.frame.place,act:=.start }) ⟨rfl,rfl⟩ ⟨rfl,rfl⟩ hwk;have eV:Vc (J + 1) (upd D J ⟨7,m₂,0⟩) = Vc J D + 1:=by
      simp only [Vc,sumTo,upd_same];rw [sumTo_upd_out D _ cnt nl];rfl
     have eS:Ssum (J + 1) (upd D J ⟨7,m₂,0⟩) = Ssum J D + 7:=by
      simp only [Ssum,sumTo,upd_same];rw [sumTo_upd_out D _ WD.stage nl]
     have eX:Xsum (J + 1) (upd X J (x + 1)) = Xsum J X + (x + 1):=by
      have h:sumTo J (upd X J (x + 1)) = sumTo J X:=sumTo_upd_out X (x + 1) (fun x=>x) (Nat.le_refl J);simp only [Xsum,sumTo,upd_same];omega
     have ho':OpenSt (J + 1) (upd D J ⟨7,m₂,0⟩):=fun i hi=>by
      by_cases e:i = J
      . subst e;rw [upd_same];simp
      rw [upd_ne D _ e];exact ho i (by omega)
     have ha':((gs.setIfInBounds 0 a').push child)[0]? = some a':=by
      rw [Array.getElem?_push_lt (by simp [hcom.size]),← Array.getElem?_eq_getElem];simp [hcom.size]
     have est:∀ tag',pend tag' = 0->((Vc J D + pend (.sp r 1):Nat):Int) * KK = ((Vc (J + 1) (upd D J ⟨7,m₂,0⟩) + pend tag':Nat):Int) * KK:=fun tag' hp=>by rw [eV,hp];simp [pend]
     cases r with
     | zero =>
       obtain ⟨m₃,hk⟩:=hnext;refine .inr ⟨_,_,(rho (o + Φ.nw) (Vc (J + 1) (upd D J ⟨7,m₂,0⟩)) .kd 0 + Ssum (J + 1) (upd D J ⟨7,m₂,0⟩) + Xsum (J + 1) (upd X J (x + 1)),m₃ + 2 * Fsum (J + 1) (upd D J ⟨7,m₂,0⟩)),hrun',Prod.Lex.left _ _ (by simp only [rho,phi];omega),
        _,w,sl,J + 1,_,_,_,_, .kd,0,m₃,0,a',_,_,rfl,ha',by rw [show J + 1 - o = Φ.nw by omega];exact .wd hk,hcom',hwg, ?_,rfl⟩
       rw [est .kd rfl];exact .opn trivial ho' (by simp)
     | succ r' =>
       obtain ⟨m₃,hk⟩:=hnext;refine .inr ⟨_,_,(rho (o + Φ.nw) (Vc (J + 1) (upd D J ⟨7,m₂,0⟩)) (.sp r' 7) 0 + Ssum (J + 1) (upd D J ⟨7,m₂,0⟩) + Xsum (J + 1) (upd X J (x + 1)),m₃ + 2 * Fsum (J + 1) (upd D J ⟨7,m₂,0⟩)),hrun',Prod.Lex.left _ _ (by simp only [rho,phi];omega),
        _,w,sl,J + 1,_,_,_,_, .sp r' 7,0,m₃,0,a',_,_,rfl,ha',by rw [show J + 1 - o = Φ.nw - (r' + 1) by omega];exact .al (by omega) hk,hcom',hwg, ?_,rfl⟩
       rw [est (.sp r' 7) rfl];exact .opn trivial ho' (by simp)
   obtain ⟨a',w',es,hgo,⟨rfl,rfl⟩,hg'⟩:=hstep w (.refl _ _ w);exact .inr (Ph.idleC k ha hcom hwg hmode hgo (by rw [hj];exact .go hr hg') (by omega))
 | wd h =>
   rcases Goes.cases h with hstop | ⟨m',rfl,hstep⟩
   . obtain ⟨_,hx⟩:=hstop w (.refl _ _ w);obtain ⟨a',hgo,m₂,hk⟩:=hx trivial;exact .inr (Ph.bookC1 k ha hcom hgo (.refl _ w) hwg bk_dis (tag':=.anch) (sub':=0) (by rw [hj];exact .an hk) (hmode.reopen trivial trivial rfl (by simp)) (.inl (by simp only [rho,phi];omega)))
   obtain ⟨a',w',es,hgo,⟨rfl,rfl⟩,hg'⟩:=hstep w (.refl _ _ w);exact .inr (Ph.idleC k ha hcom hwg hmode hgo (by rw [hj];exact .wd hg') (by omega))
 | an h =>
   rcases Goes.cases h with hstop | ⟨m',rfl,hstep⟩
   . obtain ⟨m₂,hk⟩:=hAn a w (hstop w (.refl _ _ w));obtain ⟨m₁,ops,μ',h1,h2,h3⟩:=Ph.s3Step (sl:=sl) k ha hcom hj hwg (hmode.reopen trivial trivial rfl (by simp)) hk;exact .inr ⟨m₁,ops,μ',h1,lt2_trans h2 (Prod.Lex.left _ _ (by simp only [rho,phi];omega)),h3⟩
   obtain ⟨a',w',es,hgo,⟨rfl,rfl⟩,hg'⟩:=hstep w (.refl _ _ w);exact .inr (Ph.idleC k ha hcom hwg hmode hgo (by rw [hj];exact .an hg') (by omega))
 | s3 h=>exact .inr (Ph.s3Step k ha hcom hj hwg hmode h)
 | s4 h =>
   rename_i vs;rcases Goes.cases h with hstop | ⟨m',rfl,hstep⟩
   . obtain ⟨_,hall⟩:=hstop w (.refl _ _ w);obtain ⟨ho,rfl,rfl,hw2⟩:=hmode.open_inv trivial;obtain ⟨hle,h1⟩:=hw2 vs rfl;obtain ⟨hhit,hmiss⟩:=hall (Vc J D) (by omega) (by simpa [pend] using hwg);by_cases e:Vc J D = vs
     . obtain ⟨a',hgo,m₂,hk⟩:=hhit e;exact .inr (Ph.bookC1 k ha hcom hgo (aside_setCell w (stA Φ.Wg) _) (hwg.setSt _) bk_rw (tag':=.w3) (sub':=1) (by rw [hj];exact .s5 hk) (.reg trivial ho (by omega)) (.inl (by simp only [rho,phi];omega)))
     obtain ⟨a',hgo,m₂,hk⟩:=hmiss e;exact .inr (Ph.bookC1 k ha hcom hgo (.refl _ w) hwg bk_rd (tag':=.anch) (sub':=0) (by rw [hj];exact .an hk) (hmode.reopen trivial trivial rfl (by simp)) (.inl (by simp only [rho,phi];omega)))
   obtain ⟨a',w',es,hgo,⟨rfl,rfl⟩,hg'⟩:=hstep w (.refl _ _ w);exact .inr (Ph.idleC k ha hcom hwg hmode hgo (by rw [hj];exact .s4 hg') (by omega))
 | s5 h =>
   rcases Goes.cases h with hstop | ⟨m',rfl,hstep⟩
   . obtain ⟨_,hx⟩:=hstop w (.refl _ _ w);obtain ⟨a',hgo,m₂,hk⟩:=hx trivial;exact .inr (Ph.saidC k ha hcom hgo (.inr rfl) hwg (tag':=.w3) (sub':=0) (by rw [hj];exact .s6 hk) hmode (.inl (by simp only [rho,phi];omega)))
   obtain ⟨a',w',es,hgo,⟨rfl,rfl⟩,hg'⟩:=hstep w (.refl _ _ w);exact .inr (Ph.idleC k ha hcom hwg hmode hgo (by rw [hj];exact .s5 hg') (by omega))
 | s6 h =>
   rcases Goes.cases h with hstop | ⟨m',rfl,hstep⟩
   . obtain ⟨_,hoff,hblk,htake⟩:=hstop w (.refl _ _ w);cases hmode with
     | opn h1 _ _=>exact h1.elim
     | reg h1 h2 h3=>exact .inr (Ph.bookC1 k ha hcom (hblk ⟨_,hwg⟩) (.refl _ w) hwg (by simp) (tag':=.blk) (sub':=0) (by rw [hj];exact .blk hstop) (.reg trivial h2 h3) (.inr ⟨rfl,by omega⟩))
     | last L h1 h2 h3 h4=>exact .inr (Ph.bookC1 k ha hcom (hblk ⟨_,hwg⟩) (.refl _ w) hwg (by simp) (tag':=.blk) (sub':=0) (by rw [hj];exact .blk hstop) (.last L trivial h2 h3 h4) (.inr ⟨rfl,by omega⟩))
     | sema h2 =>
       obtain ⟨a',hgo,m₂,hk⟩:=htake hwg;exact .inr (Ph.bookC1 k ha hcom hgo (aside_setCell w (smA Φ.Wg) _) (hwg.setSm 0) bk_sem (tag':=.w4) (sub':=0) (by rw [hj];exact .s7 hk) (.fin trivial h2) (.inl (by simp only [rho,phi];omega)))
     | fin h1 _=>exact h1.elim
   obtain ⟨a',w',es,hgo,⟨rfl,rfl⟩,hg'⟩:=hstep w (.refl _ _ w);exact .inr (Ph.idleC k ha hcom hwg hmode hgo (by rw [hj];exact .s6 hg') (by omega))
 | blk h=>simp at hrun
 | s7 h =>
   rcases Goes.cases h with hstop | ⟨m',rfl,hstep⟩
   . obtain ⟨_,hx⟩:=hstop w (.refl _ _ w);obtain ⟨hq,rfl,rfl⟩:=hmode.fin_inv trivial;obtain ⟨a',hgo,m₂,hk⟩:=hx hwg;exact .inr (Ph.bookC1 k ha hcom hgo (.refl _ w) hwg bk_rd (tag':=.ke) (sub':=0) (by rw [hj];exact .s8 hk) (.fin trivial hq) (.inl (by simp only [rho,phi];omega)))
   obtain ⟨a',w',es,hgo,⟨rfl,rfl⟩,hg'⟩:=hstep w (.refl _ _ w);exact .inr (Ph.idleC k ha hcom hwg hmode hgo (by rw [hj];exact .s7 hg') (by omega))
 | s8 h =>
   rcases Goes.cases h with hstop | ⟨m',rfl,hstep⟩
   . obtain ⟨_,hx⟩:=hstop w (.refl _ _ w);obtain ⟨a',hgo,m₂,hk⟩:=hx trivial;obtain ⟨hq,rfl,rfl⟩:=hmode.fin_inv trivial;exact .inr (Ph.bookC1 k ha hcom hgo (.refl _ w) hwg bk_en (tag':=.acq) (sub':=0) (by rw [hj];exact .s9 hk) (.fin trivial hq) (.inl (by simp only [rho,phi];omega)))
   obtain ⟨a',w',es,hgo,⟨rfl,rfl⟩,hg'⟩:=hstep w (.refl _ _ w);exact .inr (Ph.idleC k ha hcom hwg hmode hgo (by rw [hj];exact .s8 hg') (by omega))
 | s9 h =>
   rcases Goes.cases h with hstop | ⟨m',rfl,hstep⟩
   . obtain ⟨_,a',hgo,hK⟩:=hstop w (.refl _ _ w);obtain ⟨hq,rfl,rfl⟩:=hmode.fin_inv trivial;have hrun':=runT_crowd_go (P:=P) (sl:=sl) (i:=0) ha (by simpa using hgo);have e1:MemOp.ofEvents 0 a.frame.fn a.frame.place #[Go.ConcR.mk (.acquire (stA Φ.Wg))] = #[{ g:=0,fn:=a.frame.fn,pos:=a.frame.place,act:=.mark (.acquire (stA Φ.Wg)) }]:=by rw [ofEvents_eq];simp [ofEvent_mk]
     have hcom':=hcom.step0 k (a:=a) (a':=a') (fn:=a.frame.fn) (pos:=a.frame.place) (es:=#[Go.ConcR.mk (.acquire (stA Φ.Wg))]) (S0':=xv) (.refl Φ _ _ w) ⟨_,_,hwg⟩ (fun b hb=>.inl hb) (zlq (by intro e he;simp at he;subst he;rfl)) (by intro e he;simp at he;subst he;simp [Go.ConcR.mk])
      (by intro e he;simp at he;subst he;show Φ.Wg < w.heap.size;omega)
     have hy:(t ++ #[({ g:=0,fn:=a.frame.fn,pos:=a.frame.place,act:=.mark (.acquire (stA Φ.Wg)) }:MemOp)])[t.size]? = some { g:=0,fn:=a.frame.fn,pos:=a.frame.place,act:=.mark (.acquire (stA Φ.Wg)) }:=by simp
     have q1:(t ++ MemOp.ofEvents 0 a.frame.fn a.frame.place #[Go.ConcR.mk (.acquire (stA Φ.Wg))]).act? t.size = some (.mark (.acquire (stA Φ.Wg))):=by rw [e1,act?_of hy]
     have q2:(t ++ MemOp.ofEvents 0 a.frame.fn a.frame.place #[Go.ConcR.mk (.acquire (stA Φ.Wg))]).g? t.size = some 0:=by rw [e1];simp [Trace.g?]
     have q3:(t ++ MemOp.ofEvents 0 a.frame.fn a.frame.place #[Go.ConcR.mk (.acquire (stA Φ.Wg))]).heard t.size:=by rw [e1];exact ⟨0,by simp [Trace.g?],by rw [deaf_old nl];exact hcom.deaf0⟩
     have hd0:deafBehind 0 #[Go.ConcR.mk (.acquire (stA Φ.Wg))] = 0:=rfl;rw [hd0] at hcom';have hover:=hcom'.ti.finish (fun g hg0=>?_) hcom'.deaf0 hcom'.seen
     . refine .inl ⟨_,_,hrun',_,w,sl,a',fun i=>(D (i - 1)).fuel,rfl,get_map_set_same _ _ _ (by rw [hcom.size];omega),hK,⟨fun i g hi hg=>?_,fun i hi=>hcom'.ti.newd i (by have:=hcom'.size;omega)⟩,hover,hcom.pay,hcom.old,hwg,hn0,fun i hi=>?_,hcom.os,hcom.output⟩
       . have hlt:i - 1 < J:=by have:=(Array.getElem?_eq_some_iff.1 hg).1;rw [hcom'.size] at this;omega
         obtain ⟨g',hg',hs'⟩:=hcom'.wk (i - 1) hlt;rw [show i - 1 + 1 = i by omega] at hg';rw [hg] at hg';cases hg';have hd:=hcom'.deafW (i - 1) hlt;rw [show i - 1 + 1 = i by omega] at hd;rw [hd];rcases hs'.status with ⟨_,h1⟩ | ⟨_,h1⟩
         . exact absurd (hq _ hlt) h1
         exact h1
       have:=hcom.has (o + i) (by omega) (by omega) (.inl (by rw [hq _ (by omega)];omega))
       rwa [show o + i - o = i by omega] at this
     rcases Nat.lt_or_ge J g with hlt | hge
     . exact hcom'.hand g hg0 (.inr hlt)
     rcases Nat.lt_or_ge o g with hlo | hlo
     . obtain ⟨r,hr⟩:=hcom.rel (g - 1) (by omega) (by omega) (by rw [hq _ (by omega)];omega);rw [show g - 1 + 1 = g by omega] at hr;exact Hand.of_rel (hr.appOther g_of_ofEvents (by omega)) (lt_of_act? hr.act) hcom'.norel q1 q2 q3
     exact hcom'.hand g hg0 (.inl hlo)
   obtain ⟨a',w',es,hgo,⟨rfl,rfl⟩,hg'⟩:=hstep w (.refl _ _ w);exact .inr (Ph.idleC k ha hcom hwg hmode hgo (by rw [hj];exact .s9 hg') (by omega))
end
end
section
open Go.Conc
section
variable {P:Program} {G:Cfg} {Post:Value->World->Prop}
structure Jb (A A':Nat->Prop) (w w':World):Prop where
 grow:∀ b,A b->A' b
 fresh:∀ b,A' b->A b∨w.heap.size ≤ b
 size:w.heap.size ≤ w'.heap.size
 stand:∀ b,¬ A b->b < w.heap.size->w'.heap[b]? = w.heap[b]?
 os:w'.os = w.os
 output:w'.output = w.output
theorem Jb.refl (A:Nat->Prop) (w:World):Jb A A w w:=⟨fun _ h=>h,fun _ h=>.inl h,Nat.le_refl _,fun _ _ _=>rfl,rfl,rfl⟩
theorem Jb.trans {A A' A'':Nat->Prop} {w w' w'':World} (h:Jb A A' w w') (k:Jb A' A'' w' w''):Jb A A'' w w'' :=
 ⟨fun b x=>k.grow b (h.grow b x),fun b x=>(k.fresh b x).elim (h.fresh b) (fun y=>.inr (Nat.le_trans h.size y)),Nat.le_trans h.size k.size,
  fun b x y=>by rw [k.stand b (fun z=>(h.fresh b z).elim x (fun l=>by omega)) (Nat.lt_of_lt_of_le y h.size),h.stand b x y],k.os.trans h.os,k.output.trans h.output⟩
theorem Kept.to0 {A A':Nat->Prop} {w w':World} {T:Nat->Question->Nat} {d:Nat} (h:Kept A A' (tp0 w T d) w'):Jb A A' w w':=⟨h.grow,h.fresh,h.size,h.stand,h.os,h.output⟩
def Away (SB A:Nat->Prop) (w:World):Prop:=∀ x,SB x->¬ A x∧x < w.heap.size
theorem Away.kept {SB A A':Nat->Prop} {w w':World} (h:Away SB A w) (k:Jb A A' w w'):Away SB A' w' :=
 fun x hx=>⟨fun hA=>(k.fresh x hA).elim (h x hx).1 (fun l=>by have:=(h x hx).2;omega),Nat.lt_of_lt_of_le (h x hx).2 k.size⟩
theorem zlj (k:List Item) (cs:List Frame) (fr:Frame) (inner:List Frame):(xo k cs fr inner).status = .running:=by cases inner <;> rfl
theorem Jb.tp {A A':Nat->Prop} {w w':World} (h:Jb A A' w w') (T:Nat->Question->Nat) (d:Nat):Jb A A' w (tp0 w' T d):=⟨h.grow,h.fresh,h.size,h.stand,h.os,h.output⟩
theorem Fine.of_sure {b:Bool} {R:Frame->World->Prop} {SB A:Nat->Prop} {fr:Frame} {inner:List Frame} {w:World} {k:List Item} {cs:List Frame} (hk:okK b k) (hs:Sure P G b R A fr inner w) :
 HIn P G A w->St2 P G A fr inner->Away SB A w->∀ wR,cutW G wR = w->(∀ A' fr' wR',Tail G wR wR'->Jb A A' w (cutW G wR')->HIn P G A' (cutW G wR')->St2 P G A' fr' []->yp b fr'->R fr' (cutW G wR')->Fine P Post SB (xo k cs fr' []) wR')->Fine P Post SB (xo k cs fr inner) wR:=by
 induction hs with
 | stop h1 h2 =>
   intro hw hst _ wR hR next;subst hR;exact next _ _ _ (.refl _ _) (.refl _ _) hw hst h1 h2
 | step x w1 A' hkept hh hst hgo h ih =>
   rename_i A fr inner w;intro hw _ hSB wR hR next;refine Fine.step (zlj _ _ _ _) fun T d=>?_;obtain ⟨wR',es',e0,e1,e2⟩:=hgo T d k cs (tp0 wR T d) hk (by subst hR;exact zmt G wR T d);have k0:=(hkept T d).to0;have hSB':=hSB.kept k0;have s1:wR.heap.size = w.heap.size:=by rw [← hR,zy]
   have s2:wR'.heap.size = (w1 T d).heap.size:=by rw [← e0.1,zy]
   refine ⟨_,_,_,e1, ?_,fun e he=>(e2 e he).evF (fun b hb hs=>(hSB' b hs).1 hb) (fun b hb=>by rw [s2];exact (hh T d).lt hb),ih T d (hh T d) (hst T d) hSB' wR' e0.1 fun A'' fr' w' ht' hk'=>next A'' fr' w' (Tail.trans (a:=wR) e0.2 ht') (k0.trans hk')⟩;show wR.heap.size ≤ wR'.heap.size;rw [s1,s2];exact k0.size
theorem zac (cs:List Frame) (fr:Frame):xo [] cs fr [] = gor fr cs:=by simp [xo]
theorem zjm {A:Nat->Prop} {fn:Func} {tmps:Array Value} {w:World} (ht:∀ v ∈ tmps,VIn G A v) (hw:HIn P G A w) {T:Nat->Question->Nat} {d:Nat} {v:Value} (h:(results fn tmps).run P (tp0 w T d) = .ok v (tp0 w T d)) :
 VIn G A v∧∀ T' d',(results fn tmps).run P (tp0 w T' d') = .ok v (tp0 w T' d')∧∀ e ∈ ((results fn tmps).runT P (tp0 w T' d') #[]).2,EvIn A e:=by
 have hfr:Sem.Fr P G (results fn tmps) A (fun A' v=>A' = A∧VIn G A v):=Ya ht fun v hv=>⟨rfl,hv⟩;have hloc:=(Sem.Fr.local hfr (hw.tp T d)).2;rw [h] at hloc;have hz:(Zl (Result.ok v (tp0 w T d))).drawn - (tp0 w T d).drawn = 0:=Nat.sub_self _;have key:∀ T' d',(results fn tmps).run P (tp0 w T' d') = .ok v (tp0 w T' d'):=by
  intro T' d';have:=hloc T' d' (fun j q hj=>by rw [hz] at hj;omega);rw [hz] at this;exact this
 have hrun:=fun T' d'=>Sem.Fr.run (es:=#[]) hfr (hw.tp T' d');refine ⟨?_,fun T' d'=>⟨key T' d', ?_⟩⟩
 . have:=hrun T d;rw [Sem.runT_eq,h] at this;obtain ⟨A',_,_,⟨_,hv⟩,_⟩:=this;exact hv
 have:=hrun T' d';rw [Sem.runT_eq,key T' d'] at this;obtain ⟨A',_,_,⟨rfl,_⟩,he⟩:=this;intro e hx;rw [Sem.runT_eq] at hx;rcases he e hx with h1 | h1
 . simp at h1
 exact h1
theorem ze9 {A:Nat->Prop} {fn:Func} {tmps:Array Value} {wR:World} (ht:∀ v ∈ tmps,VIn G A v) (hw:HIn P G A (cutW G wR)) {T:Nat->Question->Nat} {d:Nat} {v:Value} (h:(results fn tmps).run P (tp0 (cutW G wR) T d) = .ok v (tp0 (cutW G wR) T d)) :
 VIn G A v∧∀ T' d',∃ w',(cutW G w' = tp0 (cutW G wR) T' d'∧Tail G wR w')∧(results fn tmps).run P (tp0 wR T' d') = .ok v w'∧∀ e ∈ (results fn tmps).events P (tp0 wR T' d') #[],EvIn A e:=by
 obtain ⟨hv,hall⟩:=zjm ht hw h;refine ⟨hv,fun T' d'=>?_⟩;obtain ⟨h1,h2⟩:=hall T' d';have hfr:Sem.Fr P G (results fn tmps) A (fun A' v=>A' = A∧VIn G A v):=Ya ht fun v hv=>⟨rfl,hv⟩;have ec:cutW G (tp0 wR T' d') = tp0 (cutW G wR) T' d':=zmt G wR T' d';obtain ⟨w',e1,e2⟩:=Sem.Fr.cut (w:=tp0 wR T' d') (es:=#[]) hfr (by rw [ec];exact hw.tp T' d') v (tp0 (cutW G wR) T' d') _ (by rw [ec,Sem.runT_eq,h1]);have e3:(results fn tmps).run P (tp0 wR T' d') = .ok v w':=by rw [Sem.runT_eq] at e1;exact congrArg Prod.fst e1
 refine ⟨w',e2,e3,fun e he=>?_⟩;have e4:(results fn tmps).events P (tp0 wR T' d') #[] = ((results fn tmps).runT P (tp0 (cutW G wR) T' d') #[]).2:=by
  have:=congrArg Prod.snd e1;rw [Sem.runT_eq] at this;rw [Sem.runT_eq];exact this
 rw [e4] at he;exact h2 e he
theorem Fine.ret {SB A:Nat->Prop} {fr c:Frame} {rest:List Frame} {wR:World} {fn:Func} {v:Value} {T:Nat->Question->Nat} {d:Nat} (hm:fr.mode = .returning) (hd:fr.defers = []) (hk:fr.kind = .normal) (hf:P.funcs[fr.fn]? = some fn)
 (ht:∀ v ∈ fr.tmps,VIn G A v) (hw:HIn P G A (cutW G wR)) (hSB:Away SB A (cutW G wR)) (hr:(results fn fr.tmps).run P (tp0 (cutW G wR) T d) = .ok v (tp0 (cutW G wR) T d)) (next:VIn G A v->∀ wR' T d,cutW G wR' = tp0 (cutW G wR) T d->Tail G wR wR'->Fine P Post SB (gor (c.finish v) rest) wR'):Fine P Post SB (gor fr (c :: rest)) wR:=by
 obtain ⟨hv,hall⟩:=ze9 ht hw hr;refine Fine.step rfl fun T' d'=>?_;obtain ⟨w',e0,h1,h2⟩:=hall T' d';have s1:w'.heap.size = wR.heap.size:=by
  have:(cutW G w').heap.size = (cutW G wR).heap.size:=by rw [e0.1];rfl
  rwa [zy,zy] at this
 refine ⟨gor (c.finish v) rest,w',seen P fr.fn ((results fn fr.tmps).events P (tp0 wR T' d') #[]), ?_,by rw [s1];exact Nat.le_refl _,fun e he=>?_,next hv w' T' d' e0.1 e0.2⟩
 . rw [Zy _ _ hm];unfold unwind;rw [hd];simp only [hm,hf,Sem.runT_eq,h1];rw [jb hk];simp [GStep.after]
 have:=h2 e (y7 _ _ _ e he);exact this.evF (fun b hb hs=>(hSB b hs).1 hb) (fun b hb=>by rw [s1];have:=hw.lt hb;rwa [zy] at this)
theorem zi4 (fr:Frame) (w:World):LM false fr [] w = lone fr [trap] w:=by
 unfold LM;rw [show kOf false = [] from rfl,zac];rfl
theorem Fine.call (hP:jc P G) {SB A:Nat->Prop} {f:FuncId} {args:Array Value} {wR:World} {c:Frame} {rest:List Frame} {Q:Value->World->Prop} (hf:G f = true) (ha:∀ v ∈ args,VIn G A v) (hw:HIn P G A (cutW G wR)) (hSB:Away SB A (cutW G wR))
 (hQ:∀ v w T d,Q v (tp0 w T d)->Q v w) (hc:∀ T d,Calls P f args (tp0 (cutW G wR) T d) fun e w'=>∃ v,e = .returned v∧Q v w')
 (next:∀ A' v wR',Tail G wR wR'->Jb A A' (cutW G wR) (cutW G wR')->HIn P G A' (cutW G wR')->VIn G A' v->Q v (cutW G wR')->Fine P Post SB (gor (c.finish v) rest) wR'):Fine P Post SB (gor (Frame.enter P f args .normal) (c :: rest)) wR:=by
 have hst:St2 P G A (Frame.enter P f args .normal) []:=⟨⟨zip hP hf ha,by simp⟩,by simp,fun f' hf'=>by simp at hf';subst hf';rfl⟩;let R:Frame->World->Prop:=fun fr w=>∃ v T d,fr.leaving P (tp0 w T d) (.returned v)∧Q v w
 have hwin:Win P false R (Frame.enter P f args .normal) [] (cutW G wR):=by
  intro T d;obtain ⟨e,w',fr,⟨v,rfl,hq⟩,⟨n,hn⟩,_,hl⟩:=hc T d [trap];refine ⟨n,fr,w',by rw [zi4,zi4];exact hn, .inl ⟨hl.1,hl.2.1⟩,v,w'.tape,w'.drawn,by rw [Xs];exact hl,hq⟩
 have hsure:=Q2 hP (R:=R) (fun fr w T d h=>by obtain ⟨v,T',d',h1,h2⟩:=h;exact ⟨v,T',d',h1,hQ _ _ _ _ h2⟩) hst hw hwin;have:=Fine.of_sure (b:=false) (Post:=Post) (SB:=SB) (k:=[]) (cs:=c :: rest) rfl hsure hw hst hSB wR rfl fun A' fr' wR' htl hk hw' hst' hs hr=>by
  obtain ⟨v,T,d,⟨h1,h2,h3,fn,h4,h5⟩,hq⟩:=hr;rw [zac];refine Fine.ret h1 h2 h3 h4 hst'.st.top.tmps hw' (hSB.kept hk) h5 fun hv wR2 T2 d2 e2 ht2=>next A' v wR2 (htl.trans ht2) (by rw [e2];exact hk.tp T2 d2) (by rw [e2];exact hw'.tp T2 d2) hv ?_;rw [e2];exact hQ v _ (cutW G wR').tape (cutW G wR').drawn (by rw [zqa,Xs];exact hq)
 rwa [zac] at this
end
end
section
open Go.Conc
section
variable {P:Program} {G:Cfg} {Post:Value->World->Prop} {b:Bool}
theorem zeo {fr:Frame} {w:World} (hs:yp b fr) (hk:fr.kind = .normal) (hr:fr.roundOf = none):(∃ o w',step P (LM b fr [] w) = .ended o w')∨∃ w1,step P (LM b fr [] w) = .next (Xv (gor trap []) w1):=by
 obtain ⟨fn,tmps,todo,defers,mode,kind,ro⟩:=fr;simp only at hk hr;subst hk;subst hr;rcases hs with ⟨h1,h2⟩ | ⟨h1,h2,h3⟩
 . simp only at h1 h2;subst h1;subst h2;have hkey:stepG P true (gor { fn:=fn,tmps:=tmps,todo:=todo ++ kOf b,defers:=[],mode:=.returning,kind:=.normal,roundOf:=none } [trap]) w = (match P.funcs[fn]? with
    | none=>doReturn P true { fn:=fn,tmps:=tmps,todo:=todo ++ kOf b,defers:=[],mode:=.returning,kind:=.normal,roundOf:=none } [trap] none (tmps.getD 0 undef) w
    | some f => GStep.after (seen P fn ((results f tmps).runT P w #[]).2) (match ((results f tmps).runT P w #[]).1 with
      | .ok v w=>doReturn P true { fn:=fn,tmps:=tmps,todo:=todo ++ kOf b,defers:=[],mode:=.returning,kind:=.normal,roundOf:=none } [trap] none v w
      | .halt (.stuck s) w=>.ended (.stuck s (({ fn:=fn,tmps:=tmps,todo:=todo ++ kOf b,defers:=[],mode:=.returning,kind:=.normal,roundOf:=none }:Frame).pos P)) w
      | .halt _ w=>.ended (.stuck "return: the result variables cannot be read" (({ fn:=fn,tmps:=tmps,todo:=todo ++ kOf b,defers:=[],mode:=.returning,kind:=.normal,roundOf:=none }:Frame).pos P)) w)):=by
    rw [Zy _ w rfl];rfl
   cases hf:P.funcs[fn]? with
   | none =>
     rw [hf] at hkey;simp only at hkey;rw [jb rfl,Z5] at hkey;exact .inr ⟨w,yd hkey⟩
   | some f =>
     rw [hf] at hkey;simp only [Sem.runT_eq] at hkey;cases hr:(results f tmps).run P w with
     | ok v w1 =>
       rw [hr] at hkey;simp only at hkey;rw [jb rfl,Z5] at hkey;exact .inr ⟨w1,yd hkey⟩
     | halt x w1 =>
       rw [hr] at hkey;have:∃ o w2 es,stepG P true (gor { fn:=fn,tmps:=tmps,todo:=todo ++ kOf b,defers:=[],mode:=.returning,kind:=.normal,roundOf:=none } [trap]) w = .ended o w2 es:=by
        rw [hkey];cases x <;> exact ⟨_,_,_,rfl⟩
       obtain ⟨o,w2,es,e⟩:=this;exact .inl ⟨o,w2,kg e⟩
 simp only at h2 h3;subst h1;subst h2;subst h3;exact .inl ⟨_,_,kg (es:=#[]) rfl⟩
theorem ze7 (hP:jc P G):∀ (n:Nat) {A:Nat->Prop} {fr:Frame} {inner:List Frame} {w:World} {m:Machine},St2 P G A fr inner->HIn P G A w->runN P n (LM b fr inner w) = .next m ->
 (∃ fr' inner' w',m = LM b fr' inner' w')∨(∃ f w',m = Xv (gor f []) w')∨∃ f c w' ch,m = Xv (gor f c) w'∧f.mode = .panicking ch
 | 0, A, fr, inner, w, m, _, _, h => by
   simp only [runN,Stepped.next.injEq] at h;exact .inl ⟨fr,inner,w,h.symm⟩
 | n + 1, A, fr, inner, w, m, hst, hw, h => by
   by_cases hns:inner = []∧yp b fr
   . obtain ⟨rfl,hs⟩:=hns;rcases zeo (P:=P) (w:=w) hs hst.st.top.kind (hst.last fr (by simp)) with ⟨o,w',e⟩ | ⟨w1,e⟩
     . exact (jg e h).elim
     have h':=j4 e h;cases n with
     | zero =>
       simp only [runN,Stepped.next.injEq] at h';exact .inr (.inl ⟨trap,w1,h'.symm⟩)
     | succ n=>exact (zeq w1).elim fun _ e=>(jg e h').elim
   cases hmo:fr.mode with
   | panicking ch=>exact .inr (.inr (Z0 (n + 1) hst hw hmo h))
   | _ =>
     all_goals
      obtain ⟨s,hfr,hs,_⟩:=zks hP hst hns (by intro ch;rw [hmo];simp);have hrun:=Sem.Fr.run (es:=#[]) hfr hw;rw [Sem.runT_eq] at hrun;have:=hs (kOf b) [trap] w hw (zg7 b);cases hr:s.run P w with
      | ok x w1 =>
        rw [hr] at hrun this;obtain ⟨A',_,hw1,⟨_,hst'⟩,_⟩:=hrun;obtain ⟨es',e1,_⟩:=this;exact ze7 hP n hst' hw1 (j4 (zke e1) h)
      | halt y w1 =>
        rw [hr] at this;rcases this with ⟨A',f,ch,es',e1,e2,_,e4,e5⟩ | ⟨o,w2,es',e1⟩
        . exact .inr (.inr (Z0 n e5 e4 e2 (j4 (zke e1) h)))
        exact (jg (Qu e1) h).elim
theorem Fine.wp (hP:jc P G) {SB A:Nat->Prop} {bf:Frame} {a:Act} {c:Go.Code} {k:List Item} {cs:List Frame} {wR:World} {Q:Exit->Act->World->Prop} (hbk:bf.kind = .normal) (hc:xn P G c = true) (hk:∀ id,exitTo id k = none)
 (ht:∀ v ∈ a.tmps,VIn G A v) (hd:a.defers = []) (hw:HIn P G A (cutW G wR)) (hSB:Away SB A (cutW G wR)) (hQ:∀ e a w T d,Q e a (tp0 w T d)->Q e a w)
 (h:∀ T d,c.wp P (fun e a' w'=>(e = .normal∨(e = .ret∧a'.defers = []))∧Q e a' w') a (tp0 (cutW G wR) T d))
 (next:∀ A' a' wR',Tail G wR wR'->Jb A A' (cutW G wR) (cutW G wR')->HIn P G A' (cutW G wR')->(∀ v ∈ a'.tmps,VIn G A' v)->Q .normal a' (cutW G wR')->(∀ d ∈ a'.defers,∃ r,d = { target:=.collected r,args:=#[] }∧A' r)->Fine P Post SB (gor (bf.at a' k) cs) wR')
 (nextR:∀ A' a' wR' todo,Tail G wR wR'->Jb A A' (cutW G wR) (cutW G wR')->HIn P G A' (cutW G wR')->(∀ v ∈ a'.tmps,VIn G A' v)->Q .ret a' (cutW G wR')->a'.defers = []->Fine P Post SB (gor { bf.at a' todo with mode:=.returning } cs) wR'):Fine P Post SB (gor (bf.at a (.code c :: k)) cs) wR:=by
 have hst:St2 P G A (bf.at a [.code c]) []:=by
  refine ⟨⟨⟨ht,fun x hx=>?_,fun d hx=>?_,hbk,fun l hl=>(by cases hl)⟩,by simp⟩,by simp,fun f' hf'=>by simp at hf';subst hf';rfl⟩
  . simp only [Frame.at,List.mem_singleton] at hx;subst hx;exact hc
  simp only [Frame.at,hd] at hx;cases hx
 let R:Frame->World->Prop:=fun fr w=>(∃ a',fr = bf.at a' []∧Q .normal a' w)∨∃ a' todo,fr = { bf.at a' todo with mode:=.returning }∧Q .ret a' w∧a'.defers = []
 have hwin:Win P true R (bf.at a [.code c]) [] (cutW G wR):=by
  intro T d;obtain ⟨e,a',w',⟨he,hq⟩,harr⟩:=h T d bf zem [trap];have hstart:lone (bf.at a (.code c :: zem)) [trap] (tp0 (cutW G wR) T d) = LM true (bf.at a [.code c]) [] (tp0 (cutW G wR) T d):=rfl;rw [hstart] at harr;rcases he with rfl | ⟨rfl,hd'⟩
  . obtain ⟨n,hn⟩:=harr;exact ⟨n,bf.at a' [],w',hn, .inr ⟨rfl,rfl,rfl⟩, .inl ⟨a',rfl,hq⟩⟩
  obtain ⟨todo,n,hn⟩:=harr;rcases ze7 hP n hst (hw.tp T d) hn with ⟨fr',inner',w1,e1⟩ | ⟨f,w1,e1⟩ | ⟨f,cs',w1,ch,e1,e2⟩
  . have hw1:w' = w1:=congrArg Machine.world e1;have hg:gor { bf.at a' todo with mode:=.returning } [trap] = xo zem [trap] fr' inner':=by
     have:=congrArg Machine.gs e1
     simpa [LM,lone,Xv,gor,kOf] using this
    cases inner' with
    | cons g r =>
      have hcs:[trap] = addK zem (g :: r) ++ [trap]:=congrArg Goroutine.callers hg;have:addK zem (g :: r) = []:=List.append_left_eq_self.1 hcs.symm;exact absurd this zm3
    | nil =>
      have hf:({ bf.at a' todo with mode:=.returning }:Frame) = { fr' with todo:=fr'.todo ++ zem }:=congrArg Goroutine.frame hg;have hfr':fr' = { bf.at a' fr'.todo with mode:=.returning }:=by
       obtain ⟨q1,q2,q3,q4,q5,q6,q7⟩:=fr';simp only [Frame.at,Frame.mk.injEq] at hf ⊢;obtain ⟨h1,h2,h3,h4,h5,h6,h7⟩:=hf;exact ⟨h1.symm,h2.symm,trivial,h4.symm,h5.symm,h6.symm,h7.symm⟩
      refine ⟨n,fr',w',by rw [hn,e1,hw1], ?_, .inr ⟨a',fr'.todo,hfr',hq,hd'⟩⟩;rw [hfr'];exact .inl ⟨rfl,hd'⟩
  . have:=congrArg (fun m:Machine=>(m.gs[0]?).map Goroutine.callers) e1;simp [lone,Xv,gor] at this
  have:=congrArg (fun m:Machine=>(m.gs[0]?).map fun g=>g.frame.mode) e1;simp only [lone,Xv,gor,List.getElem?_toArray,List.getElem?_cons_zero,Option.map_some,Option.some.injEq] at this;rw [e2] at this;cases this
 have hsure:=Q2 hP (R:=R) (fun fr w T d h=>by
  rcases h with ⟨a',h1,h2⟩ | ⟨a',todo,h1,h2,h3⟩
  . exact .inl ⟨a',h1,hQ _ _ _ _ _ h2⟩
  exact .inr ⟨a',todo,h1,hQ _ _ _ _ _ h2,h3⟩) hst hw hwin
 refine Fine.of_sure (b:=true) (Post:=Post) (SB:=SB) (k:=k) (cs:=cs) hk hsure hw hst hSB wR rfl fun A' fr' w' htl hk' hw' hst' hs hr=>?_;rcases hr with ⟨a',rfl,hq⟩ | ⟨a',todo,rfl,hq,hd'⟩
 . exact next A' a' w' htl hk' hw' hst'.st.top.tmps hq hst'.st.top.defers
 exact nextR A' a' w' (todo ++ k) htl hk' hw' hst'.st.top.tmps hq hd'
theorem Fine.fin {SB A:Nat->Prop} {fr:Frame} {wR:World} {fn:Func} {v:Value} {T:Nat->Question->Nat} {d:Nat} (hm:fr.mode = .returning) (hd:fr.defers = []) (hk:fr.kind = .normal) (hf:P.funcs[fr.fn]? = some fn) (hi:P.inits.idxOf? fr.fn = none)
 (hr:∀ w,(∃ T d,w = tp0 wR T d)->(results fn fr.tmps).run P w = .ok v w) (he:∀ w,(∃ T d,w = tp0 wR T d)->∀ e ∈ (results fn fr.tmps).events P w #[],EvF SB wR.heap.size e) (hpost:∀ T d,Post v (tp0 wR T d)):Fine P Post SB (gor fr []) wR:=by
 intro T0 d0 gs sl t q Shun hS h0 hL hP;have hgoes:Goes P true AtRel (fun _ _ es=>∀ e ∈ es,EvL Shun wR.heap.size e) (AtEnd P Shun wR.heap.size Post) 0 (gor fr []) (tp0 wR T0 d0):=by
  rintro w₁ ⟨d1,rfl⟩;refine ⟨rfl,v,seen P fr.fn ((results fn fr.tmps).events P (tp0 wR T0 d1) #[]), ?_,fun e hx=>?_,hpost T0 d1⟩
  . show stepG P true (gor fr []) (tp0 wR T0 d1) = .ended (.done v) (tp0 wR T0 d1) _;rw [Zy _ _ hm];unfold unwind;rw [hd];simp only [hm,hf,Sem.runT_eq,hr (tp0 wR T0 d1) ⟨T0,d1,rfl⟩];simp [doReturn,hk,hi,GStep.after]
  exact (he _ ⟨T0,d1,rfl⟩ e (y7 _ _ _ e hx)).evL hS
 obtain ⟨N,last,o,w',t',e1,e2,e3,e4⟩:=beside_ends (Post:=Post) (sl:=sl) (fun _ _ _ h=>h) h0 hL hP hgoes;exact ⟨N,last,o,w',t',e1,e2,e3,e4⟩
end
end
section
open Go.Conc Go.ConcN
open Go.ConcR (KK WgAt stA smA rd wr mk DC0)

section
variable {Φ:Ph} {P:Program} {K:Goroutine->Prop} {An:Goroutine->World->Prop} {o J:Nat} {Shun:Loc->Prop} {w0:World} {gs:Array Goroutine} {w w':World} {sl:Option (Nat × Nat)} {t:Trace} {D:Nat->WD} {X:Nat->Nat} {Sf:Nat->Nat->Prop} {S0:Nat->Prop}
 {tag:CTag} {sub f0 d0:Nat} {a:Goroutine} {st sm:Int} {Post:Value->World->Prop}

theorem Ph.some_runs (hAr:∀ g w,An g w->g.status = .running) (ha:gs[0]? = some a) (hcs:Φ.CS P K An tag sub (J - o) S0 f0 d0 a w) (hcom:Φ.Com P o J Shun w0 gs w t D X Sf S0 d0) (hmode:ConcN.Mode J D tag st sm) :
 ∃ (i:Nat) (g:Goroutine),gs[i]? = some g∧g.status = .running:=by
 have wk:∀ i,i < J->(D i).stage ≠ 1->∃ (i:Nat) (g:Goroutine),gs[i]? = some g∧g.status = .running:=fun i hi h=>by
  obtain ⟨g,hg,hs⟩:=hcom.wk i hi;exact ⟨i + 1,g,hg,(hs.status.resolve_right fun x=>h x.1).1⟩
 rcases hcs.status hAr with ⟨hs,_⟩ | ⟨_,rfl⟩
 . exact ⟨0,a,ha,hs⟩
 cases hmode with
 | opn h1 _ _=>exact h1.elim
 | reg _ _ h3 =>
   obtain ⟨i,hi,h5⟩:=exists_counted h3;exact wk i hi (by omega)
 | last L _ h2 h3 _=>exact wk L h2 (by omega)
 | fin h1 _=>exact h1.elim

theorem Ph.awake (hAr:∀ g w,An g w->g.status = .running) (ha:gs[0]? = some a) (hcs:Φ.CS P K An tag sub (J - o) S0 f0 d0 a w) (hcom:Φ.Com P o J Shun w0 gs w t D X Sf S0 d0):∀ g ∈ gs,awake g:=by
 intro g hg tm;obtain ⟨i,hi⟩:=Array.mem_iff_getElem?.1 hg;cases i with
 | zero =>
   rw [ha] at hi;cases hi;rcases hcs.status hAr with ⟨hs,_⟩ | ⟨hs,_⟩ <;> rw [hs] <;> simp
 | succ i =>
   have hlt:i < J:=by have:=(Array.getElem?_eq_some_iff.1 hi).1;rw [hcom.size] at this;omega
   obtain ⟨g',hg',hs⟩:=hcom.wk i hlt;rw [hi] at hg';cases hg';rcases hs.awake with h | h <;> rw [h] <;> simp

theorem Ph.ends (k:Φ.Ok) (hAr:∀ g w,An g w->g.status = .running) (hAn:∀ g w,An g w->∃ m,Goes P true (Φ.R xv) DC0 (S3 P Φ.ty Φ.Wg (Φ.R xv) K An) m g w)
 (next:∀ m t,Φ.Over P K Shun w0 m t->Ends P Post m t) (μ:Nat × Nat):∀ m t,Φ.Inv P K An o Shun w0 μ m t->Ends P Post m t:=by
 have wf:WellFounded Lt2:=(Prod.lex Nat.lt_wfRel Nat.lt_wfRel).wf
 induction μ using wf.induction with
 | _ μ ih =>
   rintro m t ⟨gs,w,sl,J,D,X,Sf,S0,tag,sub,f0,d0,a,st,sm,rfl,ha,hcs,hcom,hwg,hmode,rfl⟩;obtain ⟨i,g,d,sl',hg,hrun,hstep⟩:=crowd_pick (P:=P) (w:=w) (sl:=sl) (Ph.awake hAr ha hcs hcom) (Ph.some_runs hAr ha hcs hcom hmode);have hcs':=hcs.rely (.at Φ _ w d);have hcom':=hcom.at d;have hwg':WgAt Φ.ty Φ.Wg (w.at d) st sm:=hwg;have go:(∃ m₁ ops μ',runT P (crowd gs (w.at d) sl') i = (.next m₁,ops)∧Lt2 μ' (rho (o + Φ.nw) (Vc J D) tag sub + Ssum J D + Xsum J X,f0 + 2 * Fsum J D)∧Φ.Inv P K An o Shun w0 μ' m₁ (t ++ ops))->Ends P Post (crowd gs w sl) t:=by
    rintro ⟨m₁,ops,μ',h1,h2,h3⟩;refine Ends.of_run (N:=1) (m':=m₁) (t':=t ++ ops) ?_ (ih μ' h2 m₁ _ h3);simp only [runNT,hstep,h1]
   cases i with
   | zero =>
     rw [ha] at hg;cases hg;rcases Ph.stepCaller (sl:=sl') k hAn ha hcs' hcom' hwg' hmode hrun with ⟨m₁,ops,h1,h2⟩ | h
     . refine Ends.of_run (N:=1) (m':=m₁) (t':=t ++ ops) ?_ (next m₁ _ h2);simp only [runNT,hstep,h1]
     exact go h
   | succ i =>
     have hi:i < J:=by have:=(Array.getElem?_eq_some_iff.1 hg).1;rw [hcom.size] at this;omega
     exact go (Ph.stepWorker (sl:=sl') k hAr ha hcs' hcom' hwg' hmode hi hg hrun)
end

theorem k9.phase {Φ:Ph} {P:Program} {K:Goroutine->Prop} {An:Goroutine->World->Prop} {Post:Value->World->Prop} (k:Φ.Ok) (hAr:∀ g w,An g w->g.status = .running)
 (hAn:∀ g w,An g w->∃ m,Goes P true (Φ.R xv) DC0 (S3 P Φ.ty Φ.Wg (Φ.R xv) K An) m g w) {B:Nat} {g:Goroutine} {w:World} (hB:B ≤ Φ.Wg) (hn:0 < Φ.nw)
 (hs:∀ T d,Φ.Spawn P An Φ.nw g (tp0 w T d)) (hwg:WgAt Φ.ty Φ.Wg w 0 0) (hpay:Φ.Pay w) (hold:Φ.Old w) (hn0:Φ.n0 ≤ w.heap.size)
 (next:∀ g' w',K g'->Φ.Pay w'->Φ.Old w'->WgAt Φ.ty Φ.Wg w' 0 0->Φ.n0 ≤ w'.heap.size->(∀ i,i < Φ.nw->Φ.Has i w')->w'.os = w.os->w'.output = w.output->Fine P Post (fun b=>Φ.SB b∨b = Φ.Wg) g' w') :
 k9 P Post Φ.SB B g w:=by
 intro T d gs sl t q Shun hS h0 hL hP;obtain ⟨r,hr⟩:∃ r,Φ.nw = r + 1:=⟨Φ.nw - 1,by omega⟩;have hsz:0 < gs.size:=(Array.getElem?_eq_some_iff.1 h0).1;have h1:=hs T d;rw [hr] at h1;obtain ⟨m,hm⟩:=h1;have kC:=k.hC;have kW:=k.hW;let D:Nat->WD:=fun i=>⟨1,q (i + 1),Deaf t (i + 1)⟩
 have hv:Vc (gs.size - 1) D = 0:=by have:=zgf (D:=D) (o:=gs.size - 1) (fun _ _=>rfl) (gs.size - 1);omega
 refine Ph.ends (Φ:=Φ) (K:=K) (An:=An) (o:=gs.size - 1) (Shun:=Shun) (w0:=w) k hAr hAn ?_ (rho (gs.size - 1 + Φ.nw) (Vc (gs.size - 1) D) (.sp r 7) 0 + Ssum (gs.size - 1) D + Xsum (gs.size - 1) (fun _=>0),m + 2 * Fsum (gs.size - 1) D) _ _
  ⟨gs,tp0 w T d,sl,gs.size - 1,D,fun _=>0,fun _ _=>False,xv, .sp r 7,0,m,0,g,0,0,rfl,h0, ?_, ?_,hwg, ?_,rfl⟩
 . rintro m' t' ⟨gs',w',sl',a',q',rfl,ha',hK,hL',hP',hpay',hold',hwg',hn',hhas,hos,hout⟩;have hf:=next a' w' hK hpay' hold' hwg' hn' hhas hos hout;have:=hf w'.tape w'.drawn gs' sl' t' q' (fun l=>Shun l∨ShN Φ.Wg l) (fun l hl=>?_) ha' hL' hP'
   . rwa [Xs] at this
   rcases hl with hl | ⟨x,rfl,hx⟩
   . obtain ⟨x,rfl,hx⟩:=hS l hl;exact ⟨x,rfl, .inl hx⟩
   exact ⟨x,rfl, .inr hx⟩
 . rw [Nat.sub_self];have hc:=Ph.CS.al (K:=K) (Φ:=Φ) (P:=P) (An:=An) (r:=r) (by omega) hm
   rwa [show Φ.nw - (r + 1) = 0 by omega] at hc
 . have hlow:∀ op ∈ t,op.act.low w.heap.size:=fun op hop=>MemAct.low_mono (by omega) (hP.seen op hop);refine ⟨Nat.le_refl _,by omega,fun i hi=>?_,fun _ _=>rfl,TI.begin hP ?_ ?_ ?_ ?_, ?_,hP.hears,fun _ _=>rfl,fun i h1 h2=>by omega,fun g1 hg1 _ i hi hc=>hP.over i g1 hi hg1 hc,fun i h1 h2=>by omega,hpay,hold,hn0,fun _ _ h=>h.elim,fun _ _ _ h=>h.elim,fun _ h=>h.elim,hS,hlow,rfl,rfl⟩
   . have hlt:i + 1 < gs.size:=by omega
     exact ⟨gs[i + 1],Array.getElem?_eq_getElem hlt, .quit (hL.old (i + 1) _ (by omega) (Array.getElem?_eq_getElem hlt))⟩
   . rintro l ⟨x,rfl,_⟩;rfl
   . rintro l ⟨x,rfl,hx⟩ hl;have:x.block < B:=hl;omega
   . rintro i i1 i2 l ⟨_,x,rfl,hx | ⟨hx,_⟩⟩
     . exact hx
     omega
   . exact fun i hi=>hL.above i (by omega)
   intro i hi;obtain ⟨op,ho,hoa⟩:=Option.map_eq_some_iff.1 hi;have:=hP.seen op (Array.mem_of_getElem? ho);rw [hoa] at this;have:(stA Φ.Wg).block < B:=this;simp only [stA] at this;omega
 have:=ConcN.Mode.opn (j:=gs.size - 1) (D:=D) (tag:=.sp r 7) trivial (fun i hi=>.inr (.inr (.inr rfl))) (by simp);rw [hv] at this
 simpa [pend] using this
end
section
open Go.Conc Go.ConcN Go.ConcR.Gen
open Go.ConcR (DC0)

structure Ph.KB (Φ:Ph) (H:List (Nat × Obj)) (w:World):Prop where
 old:Φ.Old w
 pay:Φ.Pay w
 live:WgLive Φ.ty Φ.Wg w
 n0:Φ.n0 ≤ w.heap.size
 held:∀ p ∈ H,w.heap[p.1]? = some p.2
 lo:∀ p ∈ H,Φ.n0 ≤ p.1

section
variable {Φ:Ph} {P:Program} {i x n:Nat} {S:Nat->Prop} {H H':List (Nat × Obj)} {w:World}
theorem Ph.KB.rely {w₁:World} (hS:∀ p ∈ H,S p.1) (h:Φ.KB H w) (r:Φ.R S w w₁):Φ.KB H w₁ :=
 ⟨r.old h.old,r.pay h.pay,r.live h.live,r.n0 h.n0,fun p hp=>(r.own _ (hS p hp)).trans (h.held p hp),h.lo⟩
theorem Ph.KB.lt (h:Φ.KB H w) {p:Nat × Obj} (hp:p ∈ H):p.1 < w.heap.size:=by
 have:=h.held p hp;rcases Nat.lt_or_ge p.1 w.heap.size with hlt | hge
 . exact hlt
 rw [Array.getElem?_eq_none hge] at this;cases this
theorem Ph.KB.push (k:Φ.Ok) (h:Φ.KB H w) (o:Obj):Φ.KB ((w.heap.size,o) :: H) { w with heap:=w.heap.push o }:=by
 have kC:=k.hC;have kW:=k.hW;have hn:=h.n0;have old:∀ b,b < w.heap.size->(w.heap.push o)[b]? = w.heap[b]?:=fun b hb=>by rw [Array.getElem?_push_lt hb,← Array.getElem?_eq_getElem]
 refine ⟨fun b hb h1 h2=>(old b (by omega)).trans (h.old b hb h1 h2),let ⟨c,h1,h2⟩:=h.pay;⟨c,(old _ (by omega)).trans h1,h2⟩,let ⟨st,sm,hl⟩:=h.live;⟨st,sm,hl.of_block (old _ (by omega))⟩,by simp;omega,fun p hp=>?_,fun p hp=>?_⟩
 . rcases List.mem_cons.1 hp with rfl | hp
   . show (w.heap.push o)[w.heap.size]? = _;simp
   exact (old _ (h.lt hp)).trans (h.held p hp)
 rcases List.mem_cons.1 hp with rfl | hp
 . exact hn
 exact h.lo p hp

abbrev Ph.Loc (Φ:Ph) (P:Program) (i x:Nat) (S:Nat->Prop) (n:Nat) (g:Goroutine) (w:World):Prop:=Goes P false (Φ.R S) (Φ.DB S) (Φ.Body P i x S) n g w
def Ph.EvR (Φ:Ph) (S:Nat->Prop) (w:World) (e:Event):Prop:=∃ a,e = ⟨.cell a,false,false⟩∧a.block < w.heap.size∧(S a.block∨Φ.Ro a.block)

theorem z7 {g g':Goroutine} (hr:g.status = .running) (h:∀ w,stepG P false g w = .go g' w #[]) (next:Φ.Loc P i x S n g' w):Φ.Loc P i x S (n + 1) g w :=
 Goes.step hr fun w₁ h₁=>by rw [h];simp only [goes_go];exact ⟨⟨rfl,fun _ _=>rfl,rfl,rfl,by simp⟩,Goes.rely Ph.R.trans next h₁⟩
variable {b:Frame} {a:Act} {k:List Item} {cs:List Frame} {ops:Array Oper} {j:Nat} {rest:List Nat} {o:Oper} {v:Value}
theorem ko (hS:∀ p ∈ H,S p.1) (hF:Φ.KB H w) (ho:ops[j]? = some o) (hw:Region.wanted o (yielded ops a.tmps) = true) (hk:b.kind ≠ .early)
 (hrun:∀ w,Φ.KB H w->(execOp a.eval o).run P w = .ok (.value v) w∧∀ e ∈ listed P b.fn a o w,Φ.EvR S w e)
 (next:Φ.Loc P i x S n (G (b.at (a.put o.dst v) (.inRegion ops rest :: k)) cs) w):Φ.Loc P i x S (n + 1) (G (b.at a (.inRegion ops (j :: rest) :: k)) cs) w:=by
 refine Goes.step rfl fun w₁ h₁=>goes_oper ho hw hk ?_;obtain ⟨h1,h2⟩:=hrun w₁ (hF.rely hS h₁);rw [h1];refine ⟨⟨rfl,fun _ _=>rfl,rfl,rfl,fun e he=>?_⟩,Goes.rely Ph.R.trans next h₁⟩;obtain ⟨ad,rfl,h3,h4⟩:=h2 e he;exact ⟨ad,false,rfl,h3,h4.imp id fun h=>⟨h,rfl⟩⟩
theorem ziw (hS:∀ p ∈ H,S p.1) (hF:Φ.KB H w) (ho:ops[j]? = some o) (hw:Region.wanted o (yielded ops a.tmps) = true) (hk:b.kind ≠ .early) (f:World->World)
 (hrun:∀ w,Φ.KB H w->(execOp a.eval o).run P w = .ok .skip (f w)∧Φ.DB S w (f w) (listed P b.fn a o w)∧Φ.KB H' (f w))
 (next:∀ w,Φ.KB H' w->Φ.Loc P i x S n (G (b.at (a.put o.dst undef) (.inRegion ops rest :: k)) cs) w):Φ.Loc P i x S (n + 1) (G (b.at a (.inRegion ops (j :: rest) :: k)) cs) w:=by
 refine Goes.step rfl fun w₁ h₁=>goes_oper ho hw hk ?_;obtain ⟨h1,h2,h3⟩:=hrun w₁ (hF.rely hS h₁);rw [h1];exact ⟨h2,next _ h3⟩
theorem zix {n':Nat} (kk:Φ.Ok) (hS:∀ p ∈ H,S p.1) (hF:Φ.KB H w) (ho:ops[j]? = some o) (hw:Region.wanted o (yielded ops a.tmps) = true) (hk:b.kind ≠ .early) (v:Nat->Value) (ob:Obj)
 (hrun:∀ w,Φ.KB H w->(execOp a.eval o).run P w = .ok (.value (v w.heap.size)) { w with heap:=w.heap.push ob }∧listed P b.fn a o w = #[])
 (next:∀ w c,Φ.n0 ≤ c->(∀ p ∈ H,p.1 ≠ c)->Φ.KB ((c,ob) :: H) w->Φ.Loc P i x (fun y=>S y∨y = c) n (G (b.at (a.put o.dst (v c)) (.inRegion ops rest :: k)) cs) w):Φ.Loc P i (x + 1) S n' (G (b.at a (.inRegion ops (j :: rest) :: k)) cs) w:=by
 refine Goes.stop fun w₁ h₁=>?_;have hF':=hF.rely hS h₁;obtain ⟨h1,h2⟩:=hrun w₁ hF';refine ⟨rfl,_,ob,(stepG_value ho hw hk h1).trans (by rw [h2]),n,next _ _ hF'.n0 (fun p hp e=>?_) (hF'.push kk ob)⟩;have:=hF'.lt hp;omega
end
end
end Go.Proofs.YtclnogfmmekooaaGreat
