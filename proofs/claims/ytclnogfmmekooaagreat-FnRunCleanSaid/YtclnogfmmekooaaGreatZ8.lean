/- What the laws' walks share: words, plain laws, and the walks of functions, part 8. -/
import Derived.Laws.EntriesVeiled
import Derived.Laws.ResultCell
import Derived.Test.YtclnogfmmekooaaGreatZ7
set_option linter.unusedVariables false
set_option linter.unusedSimpArgs false
set_option maxHeartbeats 16000000
set_option maxRecDepth 100000
namespace Go.Proofs.YtclnogfmmekooaaGreat
section
theorem zj7 {f : List Bk} {k a v : Int} : wr f k a v ≠ [] ↔ (room f).2.2 = true ∧ xk ⟨k, next f, a, v⟩ = true := by
 unfold wr
 by_cases hc : (room f).2.2 = false ∨ xk ⟨k, next f, a, v⟩ = false
 . rw [if_pos hc]
   refine ⟨fun h => absurd rfl h, fun h => ?_⟩
   rcases hc with e | e
   . rw [e] at h; exact absurd h.1 (by decide)
   . rw [e] at h; exact absurd h.2 (by decide)
 . rw [if_neg hc]
   refine ⟨fun _ => ⟨by simpa using fun e => hc (.inl e), by simpa using fun e => hc (.inr e)⟩, fun _ e => ?_⟩
   simp at e
theorem zhu {k s a v : Int} : xk ⟨k, s, a, v⟩ = true ↔ (k = 1 ∨ k = 2) ∧ (1 ≤ s ∧ s ≤ 600) ∧ (1 ≤ a ∧ a ≤ 6) ∧ 0 ≤ v ∧ v ≤ 9 := by
 unfold xk ze0 kj valB
 simp only [Bool.and_eq_true, Bool.or_eq_true, decide_eq_true_iff]
 constructor
 . rintro ⟨h1, h2, h3, ⟨h4, h5⟩, h6, h7⟩; exact ⟨h1, ⟨h2, h3⟩, ⟨h4, h5⟩, h6, h7⟩
 . rintro ⟨h1, ⟨h2, h3⟩, ⟨h4, h5⟩, h6, h7⟩; exact ⟨h1, h2, h3, ⟨h4, h5⟩, h6, h7⟩
theorem zkv {s : St} (h : Okay s) (hw : ky s.flash < 200) : (room s.flash).2.2 = true := by
 unfold room
 split
 . rfl
 . have hl := zf h.flash
   have hi := Ju hl
   obtain ⟨b, hb⟩ := zd (l := s.flash) (k := old s.flash) (by omega)
   have hm := List.mem_of_getElem? hb
   have := zdx (fun c hc => (xb h.flash hc).2.1.1) hm
   dsimp only
   rw [ye hb]
   simpa using (show b.worn < 200 by omega)
theorem zoe {s : St} (h : Okay s) (hn : next s.flash ≤ 600) (hw : ky s.flash < 200) {k a v : Int} (hk : k = 1 ∨ k = 2) (ha : 1 ≤ a ∧ a ≤ 6) (hv : 0 ≤ v ∧ v ≤ 9) : wr s.flash k a v ≠ [] :=
 zj7.2 ⟨zkv h hw, zhu.2 ⟨hk, ⟨Z3 _, hn⟩, ha, hv⟩⟩
theorem Mid.trans {s t u : St} (h : Mid s t) (hw : ky t.flash ≤ ky s.flash) (k : Mid t u) : Mid s u :=
 ⟨k.ok, h.same.trans k.same, Int.le_trans k.nx h.nx, by have := k.wear; omega, fun b hb => h.drt b (k.drt b hb), fun c c1 c2 => by
  rcases k.dsk c c1 c2 with e | e
  . rw [e]; exact h.dsk c c1 c2
  . rw [e]; exact .inr (h.same c c1 c2)⟩
theorem Fin.after {s t u : St} {k a v : Int} (h : Mid s t) (hf : t.flash = s.flash) (j : Fin t k a v u) : Fin s k a v u :=
 ⟨j.ok, fun b b1 b2 => by
  rw [j.read b b1 b2]
  split
  . rfl
  . exact h.same b b1 b2, by rw [j.rec_, hf], by have := j.nx; rwa [hf] at this, by have := j.wear; rwa [hf] at this, fun b hb hd => h.drt b (j.drt b hb hd), fun c c1 c2 => by
  rcases j.dsk c c1 c2 with e | e
  . rw [e]; exact h.dsk c c1 c2
  . rw [e]; exact .inr (h.same c c1 c2)⟩
theorem Okay.vals {s : St} (h : Okay s) {a : Int} (a1 : 1 ≤ a) (a2 : a ≤ 6) : valB (xh s a) = true := by
 rw [j0]
 split
 . rename_i hp
   obtain ⟨h1, h2⟩ := zc8 hp
   have := xw (zop h.flash h1)
   unfold valB; simp; omega
 . exact h.val a a1 a2
theorem Okay.clean {s : St} (h : Okay s) {a : Int} (a1 : 1 ≤ a) (a2 : a ≤ 6) (hd : xq s.flash a = false) : dk s a = xh s a := by
 rw [j0]
 split
 . rename_i hp
   rcases Q9 h.flash hp with e | e
   . unfold xq at hd; rw [e] at hd; simp at hd; omega
   . exact (h.agree a a1 a2 hp e).symm
 . rfl
theorem zm2 {s : St} (h : Okay s) {a : Int} (a1 : 1 ≤ a) (a2 : a ≤ 6) (hd : xq s.flash a = true) : Mid s ⟨s.flash, s.disk.set (a - 1).toNat (xh s a)⟩ ∧ dk ⟨s.flash, s.disk.set (a - 1).toNat (xh s a)⟩ a = xh s a := by
 unfold xq at hd
 rw [Bool.and_eq_true, decide_eq_true_iff, decide_eq_true_iff] at hd
 have ht := zkp h a1 a2 (h.vals a1 a2) hd.1 hd.2
 refine ⟨⟨ht.1, ht.2, Int.le_refl _, by dsimp only; omega, fun _ h => h, fun c c1 c2 => ?_⟩, by rw [Yw h.len a1 a2 a1, if_pos rfl]⟩
 rw [Yw h.len a1 a2 c1]
 split
 . rename_i e; rw [e]; exact .inr rfl
 . exact .inl rfl
def zhm (s : St) (a : Int) (t : St) : Prop := Fin s 2 a (xh s a) t ∧ dk t a = xh s a
theorem K0 {s : St} {a : Int} (hne : kg s a ≠ []) : (1 ≤ a ∧ a ≤ 6) ∧ xq s.flash a = true ∧ wr s.flash 2 a (xh s a) ≠ [] ∧ kg s a = ⟨1, a, xh s a, 0, rc0⟩ :: wr s.flash 2 a (xh s a) := by
 unfold kg at hne ⊢
 by_cases h1 : kj a = false ∨ xq s.flash a = false
 . rw [if_pos h1] at hne; exact absurd rfl hne
 . rw [if_neg h1] at hne ⊢
   by_cases h2 : wr s.flash 2 a (xh s a) = []
   . rw [if_pos h2] at hne; exact absurd rfl hne
   . rw [if_neg h2]
     have ha : kj a = true := by simpa using fun e => h1 (.inl e)
     unfold kj at ha
     simp at ha
     exact ⟨ha, by simpa using fun e => h1 (.inr e), h2, rfl⟩
theorem zb7 {s : St} (h : Okay s) {a : Int} (hne : kg s a ≠ []) : Safe (Mid s) (zhm s a) s (kg s a) := by
 obtain ⟨⟨a1, a2⟩, hd, hw, he⟩ := K0 hne
 rw [he]
 obtain ⟨hM, hk⟩ := zm2 h a1 a2 hd
 refine ⟨Mid.refl h, ?_, ?_⟩
 . show Mid s s; exact Mid.refl h
 . show Safe (Mid s) (zhm s a) ⟨s.flash, s.disk.set (a - 1).toNat (xh s a)⟩ (wr s.flash 2 a (xh s a))
   have hr := hM.same a a1 a2
   have := zfz hM.ok (k := 2) (a := a) (v := xh s a) hw (fun _ => ⟨hk, hr⟩)
   refine this.mono (fun u hu => hM.trans (Int.le_refl _) hu) fun u hu => ⟨hu.after hM rfl, ?_⟩
   rcases hu.dsk a a1 a2 with e | e
   . rw [e, hk]
   . rw [e, hr]
theorem zca {s : St} {a : Int} (hne : fill s a ≠ []) : (1 ≤ a ∧ a ≤ 6) ∧ ¬ 0 < (last s.flash a).seq ∧ fill s a = wr s.flash 2 a (dk s a) := by
 unfold fill at hne ⊢
 by_cases h1 : kj a = false ∨ 0 < (last s.flash a).seq
 . rw [if_pos h1] at hne; exact absurd rfl hne
 . rw [if_neg h1] at hne ⊢
   have ha : kj a = true := by simpa using fun e => h1 (.inl e)
   unfold kj at ha
   simp at ha
   exact ⟨ha, fun e => h1 (.inr e), rfl⟩
theorem zl5 {s : St} (h : Okay s) {a : Int} (hne : fill s a ≠ []) : Safe (Mid s) (Fin s 2 a (xh s a)) s (fill s a) := by
 obtain ⟨⟨a1, a2⟩, hd, he⟩ := zca hne
 have hr : xh s a = dk s a := by rw [j0, if_neg hd]
 rw [he] at hne ⊢
 rw [hr]
 exact zfz h hne (fun _ => ⟨rfl, hr⟩)
def zjz (s : St) (e : Ev) : Int := if e.kind = 1 then e.b else xh s e.a
def zff (e : Ev) : Int := if e.kind = 1 then 1 else 2
structure Done (s : St) (e : Ev) (t : St) : Prop where
 fin : Fin s (zff e) e.a (zjz s e) t
 told : e.kind = 2 -> dk t e.a = xh s e.a
theorem zi4 {s : St} (h : Okay s) {e : Ev} (hne : zz s e ≠ []) : Safe (Mid s) (Done s e) s (zz s e) := by
 unfold zz at hne ⊢
 by_cases h1 : e.kind = 1
 . rw [if_pos h1] at hne ⊢
   refine (zfz h hne (fun e => by cases e)).mono (fun _ h => h) fun t ht => ⟨by unfold zff zjz; rw [if_pos h1, if_pos h1]; exact ht, fun e => by omega⟩
 . rw [if_neg h1] at hne ⊢
   by_cases h2 : e.kind = 2
   . rw [if_pos h2] at hne ⊢
     exact (zb7 h hne).mono (fun _ h => h) fun t ht => ⟨by unfold zff zjz; rw [if_neg h1, if_neg h1]; exact ht.1, fun _ => ht.2⟩
   . rw [if_neg h2] at hne ⊢
     by_cases h3 : e.kind = 3
     . rw [if_pos h3] at hne ⊢
       exact (zl5 h hne).mono (fun _ h => h) fun t ht => ⟨by unfold zff zjz; rw [if_neg h1, if_neg h1]; exact ht, fun e => absurd e h2⟩
     . rw [if_neg h3] at hne
       exact absurd rfl hne
theorem zii (s : St) (c : Int) (t : Bool) : doTo s [] c t = s := by
 unfold doTo
 rw [if_neg (by rintro ⟨_, h1, h2⟩; simp at h2; omega)]
 simp [zt]
theorem zme {s : St} {xs : List Sp} {c : Int} {t : Bool} (h : (xs.length : Int) ≤ c) : doTo s xs c t = zt s xs := by
 unfold doTo
 rw [if_neg (by rintro ⟨_, h1, h2⟩; omega), List.take_of_length_le (by omega)]
def d1 (f : List Bk) (a : Int) : Int := if xq f a = true then 1 else 0
def nd (f : List Bk) : Int := d1 f 1 + d1 f 2 + d1 f 3 + d1 f 4 + d1 f 5 + d1 f 6
theorem zhh {f g : List Bk} {a : Int} (h : xq g a = true -> xq f a = true) : d1 g a ≤ d1 f a := by
 unfold d1
 by_cases e : xq g a = true
 . rw [if_pos e, if_pos (h e)]; exact Int.le_refl _
 . rw [if_neg e]; split <;> omega
theorem d1_1 (f : List Bk) (a : Int) : 0 ≤ d1 f a ∧ d1 f a ≤ 1 := by unfold d1; split <;> omega
theorem zqd {f g : List Bk} (h : ∀ a, xq g a = true -> xq f a = true) : nd g ≤ nd f := by
 unfold nd
 have := zhh (h 1); have := zhh (h 2); have := zhh (h 3); have := zhh (h 4); have := zhh (h 5); have := zhh (h 6)
 omega
theorem zoj {f g : List Bk} {a : Int} (ha : 1 ≤ a ∧ a ≤ 6) (h : ∀ b, b ≠ a -> xq g b = true -> xq f b = true) : nd g ≤ nd f + d1 g a - d1 f a := by
 have key : ∀ b : Int, d1 g b ≤ d1 f b + (if b = a then d1 g a - d1 f a else 0) := fun b => by
  split
  . rename_i e; rw [e]; omega
  . rename_i e; have := zhh (h b e); omega
 unfold nd
 have k1 := key 1; have k2 := key 2; have k3 := key 3; have k4 := key 4; have k5 := key 5; have k6 := key 6
 rcases (show a = 1 ∨ a = 2 ∨ a = 3 ∨ a = 4 ∨ a = 5 ∨ a = 6 by omega) with rfl | rfl | rfl | rfl | rfl | rfl <;>
 . simp at k1 k2 k3 k4 k5 k6; omega
theorem zqc (f : List Bk) : 0 ≤ nd f := by
 unfold nd
 have := d1_1 f 1; have := d1_1 f 2; have := d1_1 f 3; have := d1_1 f 4; have := d1_1 f 5; have := d1_1 f 6
 omega
theorem zn7 {f : List Bk} {a : Int} (h : xq f a = false) : d1 f a = 0 := by unfold d1; rw [h]; rfl
theorem zn5 {f : List Bk} {a : Int} (h : xq f a = true) : d1 f a = 1 := by unfold d1; rw [h]; rfl
theorem Yx {f : List Bk} {a n v : Int} (h : last f a = ⟨2, n, a, v⟩) : xq f a = false := by unfold xq; rw [h]; simp
structure Flu (s t : St) (a : Int) : Prop where
 ok : Okay t
 same : Same s t
 nx : next t.flash ≤ next s.flash + 1
 pn : next t.flash + nd t.flash ≤ next s.flash + nd s.flash
 pw : ky t.flash + nd t.flash ≤ ky s.flash + nd s.flash
 drt : ∀ b, xq t.flash b = true -> xq s.flash b = true
 dsk : ∀ c : Int, 1 ≤ c -> c ≤ 6 -> dk t c = dk s c ∨ dk t c = xh s c
 gone : next s.flash ≤ 600 -> ky s.flash < 200 -> xq t.flash a = false
theorem zl3 {s : St} (h : Okay s) {a : Int} (ha : 1 ≤ a ∧ a ≤ 6) (hn : next s.flash ≤ 600) (hw : ky s.flash < 200) (hd : xq s.flash a = true) : kg s a ≠ [] := by
 have hv := h.vals ha.1 ha.2
 unfold valB at hv
 simp at hv
 have hw := zoe h hn hw (k := 2) (a := a) (v := xh s a) (.inr rfl) ha hv
 unfold kg kj
 rw [if_neg (by rw [hd]; simp; omega), if_neg hw]
 simp
theorem K4 {s : St} (h : Okay s) {a : Int} (ha : 1 ≤ a ∧ a ≤ 6) : Flu s (kt s a) a := by
 by_cases hne : kg s a = []
 . have e : kt s a = s := by unfold kt; rw [hne, zii]
   rw [e]
   refine ⟨h, Same.refl s, by omega, by omega, by omega, fun _ h => h, fun _ _ _ => .inl rfl, fun h1 h2 => ?_⟩
   by_cases hd : xq s.flash a = true
   . exact absurd hne (zl3 h ha h1 h2 hd)
   . simpa using hd
 . have hs := ((zb7 h hne).to ((kg s a).length : Nat) false).1 (by simp)
   change zhm s a (kt s a) at hs
   obtain ⟨_, hd, _, _⟩ := K0 hne
   obtain ⟨hf, hk⟩ := hs
   have hg := Yx hf.rec_
   have n1 := zoj ha hf.drt
   rw [zn7 hg, zn5 hd] at n1
   have := hf.nx
   have := hf.wear
   refine ⟨hf.ok, fun b b1 b2 => ?_, by omega, by omega, by omega, fun b hb => ?_, hf.dsk, fun _ _ => hg⟩
   . rw [hf.read b b1 b2]
     split
     . rename_i e; rw [e]
     . rfl
   . by_cases e : b = a
     . rw [e, hg] at hb; cases hb
     . exact hf.drt b e hb
structure Alls (s t : St) (l : List Int) : Prop where
 ok : Okay t
 same : Same s t
 nx : next t.flash ≤ next s.flash + l.length
 pn : next t.flash + nd t.flash ≤ next s.flash + nd s.flash
 pw : ky t.flash + nd t.flash ≤ ky s.flash + nd s.flash
 drt : ∀ b, xq t.flash b = true -> xq s.flash b = true
 dsk : ∀ c : Int, 1 ≤ c -> c ≤ 6 -> dk t c = dk s c ∨ dk t c = xh s c
 gone : next s.flash + nd s.flash ≤ 600 -> ky s.flash + nd s.flash < 200 -> ∀ a ∈ l, xq t.flash a = false
theorem Alls.step {s t : St} {l : List Int} (h : Alls s t l) {a : Int} (ha : 1 ≤ a ∧ a ≤ 6) : Alls s (kt t a) (l ++ [a]) := by
 have f := K4 h.ok ha
 have h1 := h.pn; have h2 := h.pw; have h3 := h.nx; have f1 := f.pn; have f2 := f.pw; have f3 := f.nx
 have n0 := zqc t.flash
 refine ⟨f.ok, h.same.trans f.same, by simp; omega, by omega, by omega, fun b hb => h.drt b (f.drt b hb), fun c c1 c2 => ?_, fun g1 g2 b hb => ?_⟩
 . rcases f.dsk c c1 c2 with e | e
   . rw [e]; exact h.dsk c c1 c2
   . rw [e]; exact .inr (h.same c c1 c2)
 . rcases List.mem_append.1 hb with hb | hb
   . have := h.gone g1 g2 b hb
     by_cases e : xq (kt t a).flash b = true
     . rw [f.drt b e] at this; cases this
     . simpa using e
   . rw [List.mem_singleton] at hb
     subst hb
     exact f.gone (by omega) (by omega)
theorem zfj {s : St} (h : Okay s) : Alls s (j4 s) [1, 2, 3, 4, 5, 6] := by
 have h0 : Alls s s [] := ⟨h, Same.refl s, by simp, by omega, by omega, fun _ h => h, fun _ _ _ => .inl rfl, fun _ _ a ha => by cases ha⟩
 have k := (((((h0.step (a := 1) (by omega)).step (a := 2) (by omega)).step (a := 3) (by omega)).step (a := 4) (by omega)).step (a := 5) (by omega)).step (a := 6) (by omega)
 have e : j4 s = kt (kt (kt (kt (kt (kt s 1) 2) 3) 4) 5) 6 := by unfold j4; simp only [List.foldl_cons, List.foldl_nil]
 rw [e]
 exact k
structure Evt (s : St) (e : Ev) (t : St) : Prop where
 ok : Okay t
 vals : ∀ b : Int, 1 ≤ b -> b ≤ 6 -> xh t b = xh s b ∨ (e.kind = 1 ∧ 0 ≤ e.c ∧ b = e.a ∧ xh t b = e.b)
 dsk : ∀ c : Int, 1 ≤ c -> c ≤ 6 -> dk t c = dk s c ∨ dk t c = xh s c
 nx : next t.flash ≤ next s.flash + (if e.kind = 4 then 6 else 1)
 pn : next t.flash + nd t.flash ≤ next s.flash + nd s.flash + 2
 pw : ky t.flash + nd t.flash ≤ ky s.flash + nd s.flash + 2
 full : e.kind = 1 -> 6 ≤ e.c -> (1 ≤ e.a ∧ e.a ≤ 6) -> (0 ≤ e.b ∧ e.b ≤ 9) -> next s.flash ≤ 600 -> ky s.flash < 200 -> xh t e.a = e.b
 all : e.kind = 4 -> next s.flash + nd s.flash ≤ 600 -> ky s.flash + nd s.flash < 200 -> ∀ a : Int, 1 ≤ a -> a ≤ 6 -> xq t.flash a = false
 zero : e.kind ≠ 4 -> e.c ≤ 0 -> Same s t
theorem Evt.none {s : St} {e : Ev} (h : Okay s) (h4 : e.kind ≠ 4) (hf : e.kind = 1 -> 6 ≤ e.c -> (1 ≤ e.a ∧ e.a ≤ 6) -> (0 ≤ e.b ∧ e.b ≤ 9) -> next s.flash ≤ 600 -> ky s.flash < 200 -> False) : Evt s e s :=
 ⟨h, fun _ _ _ => .inl rfl, fun _ _ _ => .inl rfl, by rw [if_neg h4]; omega, by omega, by omega, fun h1 h2 h3 h5 h6 h7 => (hf h1 h2 h3 h5 h6 h7).elim, fun e => absurd e h4, fun _ _ => Same.refl s⟩
theorem zow {s : St} (h : Okay s) (k a v : Int) : (wr s.flash k a v).length ≤ 6 := zdw (zf h.flash) (fun b hb => (xb h.flash hb).1) k a v
theorem Jo {s : St} (h : Okay s) (e : Ev) : Evt s e (doEv s e) := by
 unfold doEv
 by_cases h4 : e.kind = 4
 . rw [if_pos h4]
   have a := zfj h
   have h1 := a.nx; have h2 := a.pn; have h3 := a.pw
   simp at h1
   refine ⟨a.ok, fun b b1 b2 => .inl (a.same b b1 b2), a.dsk, by rw [if_pos h4]; omega, by omega, by omega, fun e => by omega, fun _ g1 g2 b b1 b2 => a.gone g1 g2 b ?_, fun e => absurd h4 e⟩
   rcases (show b = 1 ∨ b = 2 ∨ b = 3 ∨ b = 4 ∨ b = 5 ∨ b = 6 by omega) with rfl | rfl | rfl | rfl | rfl | rfl <;> simp
 . rw [if_neg h4]
   by_cases hc : e.c < 0
   . rw [if_pos hc]
     exact Evt.none h h4 (fun _ _ => by omega)
   . rw [if_neg hc]
     by_cases hne : zz s e = []
     . rw [hne, zii]
       refine Evt.none h h4 (fun h1 h2 h3 h5 h6 h7 => ?_)
       unfold zz at hne
       rw [if_pos h1] at hne
       exact zoe h h6 h7 (.inl rfl) h3 h5 hne
     . have hS := (zi4 h hne).to e.c e.torn
       by_cases hl : (zz s e).length ≤ e.c.toNat
       . have hd := hS.1 hl
         have hf := hd.fin
         have hpos : 0 < (zz s e).length := List.length_pos_iff.2 hne
         have hnx := hf.nx
         have hwe := hf.wear
         by_cases h1 : e.kind = 1
         . have hrd := hf.read
           unfold zjz at hrd
           rw [if_pos h1] at hrd
           have ha : 1 ≤ e.a ∧ e.a ≤ 6 := by
            unfold zz at hne
            rw [if_pos h1] at hne
            exact (zhu.1 (zj7.1 hne).2).2.2.1
           have n1 := zoj ha hf.drt
           have := d1_1 (doTo s (zz s e) e.c e.torn).flash e.a
           have := d1_1 s.flash e.a
           refine ⟨hf.ok, fun b b1 b2 => ?_, hf.dsk, by rw [if_neg h4]; omega, by omega, by omega, fun _ _ h3 _ _ _ => by rw [hrd _ h3.1 h3.2, if_pos rfl], fun e => absurd e h4, fun _ g => by omega⟩
           rw [hrd b b1 b2]
           by_cases e1 : b = e.a
           . rw [if_pos e1]; exact .inr ⟨h1, by omega, e1, rfl⟩
           . rw [if_neg e1]; exact .inl rfl
         . have hrd := hf.read
           have hrc := hf.rec_
           unfold zjz at hrd hrc
           unfold zff at hrc
           rw [if_neg h1] at hrd hrc
           rw [if_neg h1] at hrc
           have hsame : Same s (doTo s (zz s e) e.c e.torn) := fun b b1 b2 => by
            rw [hrd b b1 b2]
            split
            . rename_i q; rw [q]
            . rfl
           have hg := Yx hrc
           have hdr : ∀ b, xq (doTo s (zz s e) e.c e.torn).flash b = true -> xq s.flash b = true := fun b hb => by
            by_cases q : b = e.a
            . rw [q, hg] at hb; cases hb
            . exact hf.drt b q hb
           have := zqd hdr
           exact ⟨hf.ok, fun b b1 b2 => .inl (hsame b b1 b2), hf.dsk, by rw [if_neg h4]; omega, by omega, by omega, fun q => absurd q h1, fun q => absurd q h4, fun _ _ => hsame⟩
       . have hm := hS.2 (by omega)
         have := zqd hm.drt
         have h1 := hm.nx; have h2 := hm.wear
         refine ⟨hm.ok, fun b b1 b2 => .inl (hm.same b b1 b2), hm.dsk, by rw [if_neg h4]; omega, by omega, by omega, fun q q2 => ?_, fun q => absurd q h4, fun _ _ => hm.same⟩
         exfalso
         unfold zz at hl
         rw [if_pos q] at hl
         have := zow h 1 e.a e.b
         omega
end
section
def je (x : Sp) : Bool :=
 if x.kind = 1 then decide (x.block = 0) && (decide (x.rc = rc0) && (kj x.addr && valB x.val))
 else if x.kind = 2 then decide (x.addr = 0) && (decide (x.val = 0) && (decide (x.rc = rc0) && jy x.block))
 else if x.kind = 3 then decide (x.addr = 0) && (decide (x.val = 0) && (jy x.block && xk x.rc)) else false
def allB (xs : List Sp) : Bool := xs.all je
theorem zbi {a v : Int} (ha : kj a = true) (hv : valB v = true) : je ⟨1, a, v, 0, rc0⟩ = true := by unfold je; simp [ha, hv]
theorem zi5 {i : Nat} (h : i < 4) : je ⟨2, 0, 0, i, rc0⟩ = true := by unfold je jy; simp; omega
theorem zgb {i : Int} (h : 0 ≤ i ∧ i < 4) {r : Rc} (hr : xk r = true) : je ⟨3, 0, 0, i, r⟩ = true := by unfold je jy; simp [hr]; omega
theorem X7 {a : Int} : kj a = true ↔ 1 ≤ a ∧ a ≤ 6 := by unfold kj; simp
theorem zm1 {a : Int} : valB a = true ↔ 0 ≤ a ∧ a ≤ 9 := by unfold valB; simp
theorem Kj {a : Int} : jy a = true ↔ 0 ≤ a ∧ a < 4 := by unfold jy; simp
theorem zcl {f : List Bk} (h : zc f = true) (k a v : Int) : ∀ x ∈ wr f k a v, je x = true := fun x hx => by
 have hl := zf h
 by_cases hne : wr f k a v = []
 . rw [hne] at hx; cases hx
 . obtain ⟨_, hr⟩ := zj7.1 hne
   have hfi := Jn h
   have hro := (zeo hfi).2
   unfold wr at hx hne
   by_cases hc : (room f).2.2 = false ∨ xk ⟨k, next f, a, v⟩ = false
   . rw [if_pos hc] at hne; exact absurd rfl hne
   . rw [if_neg hc] at hx
     rcases List.mem_append.1 hx with hx | hx
     . unfold room at hx
       split at hx
       . cases hx
       . dsimp only at hx
         have ho := Ju hl
         rcases List.mem_append.1 hx with hx | hx
         . unfold tells at hx
           obtain ⟨p, hp, rfl⟩ := List.mem_map.1 hx
           obtain ⟨hp1, hp2⟩ := List.mem_filter.1 hp
           obtain ⟨a1, a2, _⟩ := Qn h (zh8 (by omega)) hp1 hp2
           exact zbi (X7.2 a1) a2
         . rw [List.mem_singleton] at hx
           subst hx
           exact zi5 ho
     . rw [List.mem_singleton] at hx
       subst hx
       exact zgb hro hr
theorem zga {s : St} (h : Okay s) (e : Ev) : ∀ x ∈ zz s e, je x = true := fun x hx => by
 unfold zz at hx
 split at hx
 . exact zcl h.flash _ _ _ x hx
 . split at hx
   . by_cases hne : kg s e.a = []
     . rw [hne] at hx; cases hx
     . obtain ⟨ha, _, _, he⟩ := K0 hne
       rw [he] at hx
       rcases List.mem_cons.1 hx with rfl | hx
       . exact zbi (X7.2 ha) (h.vals ha.1 ha.2)
       . exact zcl h.flash _ _ _ x hx
   . split at hx
     . by_cases hne : fill s e.a = []
       . rw [hne] at hx; cases hx
       . obtain ⟨_, _, he⟩ := zca hne
         rw [he] at hx
         exact zcl h.flash _ _ _ x hx
     . cases hx
theorem Qc {xs : List Sp} : allB xs = true ↔ ∀ x ∈ xs, je x = true := by unfold allB; simp
theorem zbh {s : St} (h : Okay s) (e : Ev) : allB (zz s e) = true := Qc.2 (zga h e)
theorem Qr {x : Sp} (h : je x = true) (hk : x.kind = 2) : x.addr = 0 ∧ x.val = 0 ∧ x.rc = rc0 ∧ 0 ≤ x.block ∧ x.block < 4 := by
 unfold je at h
 rw [if_neg (by omega), if_pos hk] at h
 simp only [Bool.and_eq_true, decide_eq_true_iff] at h
 exact ⟨h.1, h.2.1, h.2.2.1, Kj.1 h.2.2.2⟩
theorem Yl {x : Sp} (h : je x = true) (hk : x.kind = 3) : x.addr = 0 ∧ x.val = 0 ∧ (0 ≤ x.block ∧ x.block < 4) ∧ xk x.rc = true := by
 unfold je at h
 rw [if_neg (by omega), if_neg (by omega), if_pos hk] at h
 simp only [Bool.and_eq_true, decide_eq_true_iff] at h
 exact ⟨h.1, h.2.1, Kj.1 h.2.2.1, h.2.2.2⟩
theorem zgc {x : Sp} (h : je x = true) (hk : x.kind = 1) : x.block = 0 ∧ x.rc = rc0 ∧ (1 ≤ x.addr ∧ x.addr ≤ 6) ∧ valB x.val = true := by
 unfold je at h
 rw [if_pos hk] at h
 simp only [Bool.and_eq_true, decide_eq_true_iff] at h
 exact ⟨h.1, h.2.1, X7.1 h.2.2.1, h.2.2.2⟩
theorem zi6 {x : Sp} (h : je x = true) : x.kind = 1 ∨ x.kind = 2 ∨ x.kind = 3 := by
 unfold je at h
 by_cases h1 : x.kind = 1
 . exact .inl h1
 . by_cases h2 : x.kind = 2
   . exact .inr (.inl h2)
   . by_cases h3 : x.kind = 3
     . exact .inr (.inr h3)
     . rw [if_neg h1, if_neg h2, if_neg h3] at h; cases h
theorem zmw {f : List Bk} (h : zc f = true) {i : Nat} (hi : i < 4) (torn : Bool) : zc (j9 f i torn).1 = true := by
 unfold j9
 split
 . exact h
 . exact Y7 h hi torn (by omega)
theorem zix {f : List Bk} {i : Nat} {b : Bk} (hb : f[i]? = some b) (r : Rc) (torn : Bool) : xv f i r torn = if clean b = 0 ∨ qd f r.seq = true then (f, false) else (f.set i (jf b r torn), true) := by
 unfold xv
 rw [ye hb]
 rfl
theorem zj5 {f : List Bk} (h : zc f = true) {i : Nat} (hi : i < 4) {r : Rc} (hr : xk r = true) (torn : Bool) : zc (xv f i r torn).1 = true := by
 obtain ⟨b, hb⟩ := zd (l := f) (k := i) (by rw [zf h]; exact hi)
 rw [zix hb]
 split
 . exact h
 . rename_i hc
   exact zc1 h hb hr torn (fun e => hc (.inl e)) (fun e => hc (.inr e))
theorem zfh {s : St} (h : zc s.flash = true) {x : Sp} (hx : je x = true) (torn : Bool) : zc (zr s x torn).flash = true := by
 unfold zr
 split
 . split <;> exact h
 . split
   . rename_i hk
     have := Qr hx hk
     exact zmw h (by omega) torn
   . split
     . rename_i hk
       have := Yl hx hk
       exact zj5 h (by omega) this.2.2.2 torn
     . exact h
theorem zav (s : St) (x : Sp) (torn : Bool) : (zr s x torn).disk.length = s.disk.length := by
 unfold zr
 split
 . split
   . rfl
   . simp
 . split
   . rfl
   . split <;> rfl
theorem Yd : ∀ {xs : List Sp} {s : St}, zc s.flash = true -> (∀ x ∈ xs, je x = true) -> zc (zt s xs).flash = true
 | [], _, h, _ => h
 | x :: xs, s, h, hx => Yd (s := zr s x false) (zfh h (hx x (List.mem_cons_self ..)) false) (fun y hy => hx y (List.mem_cons_of_mem _ hy))
theorem X5 : ∀ (xs : List Sp) (s : St), (zt s xs).disk.length = s.disk.length
 | [], _ => rfl
 | x :: xs, s => (X5 xs (zr s x false)).trans (zav s x false)
theorem Okay.fine {s : St} (h : Okay s) : xy s := ⟨Jn h.flash, h.len, fun v hv => by
 obtain ⟨k, hk⟩ := List.getElem?_of_mem hv
 have hl := (List.getElem?_eq_some_iff.1 hk).1
 have := h.val ((k : Int) + 1) (by omega) (by have := h.len; omega)
 rw [zqs hk] at this
 exact zm1.1 this⟩
def new0 : St := ⟨zx, Ye⟩
theorem zh3 : Okay new0 := xx.1 zqb
def yo (es : List Ev) : St := es.foldl doEv new0
theorem zcz (es : List Ev) (e : Ev) : yo (es ++ [e]) = doEv (yo es) e := by unfold yo; rw [List.foldl_append]; rfl
structure Run (n : Nat) (t : St) : Prop where
 ok : Okay t
 pn : next t.flash + nd t.flash ≤ 1 + 2 * n
 pw : ky t.flash + nd t.flash ≤ 2 * n
theorem Run.step {n : Nat} {t : St} (h : Run n t) (e : Ev) : Run (n + 1) (doEv t e) := by
 have k := Jo h.ok e
 have h1 := h.pn; have h2 := h.pw; have k1 := k.pn; have k2 := k.pw
 exact ⟨k.ok, by omega, by omega⟩
theorem Run.new : Run 0 new0 := ⟨zh3, by decide, by decide⟩
theorem Run.small {n : Nat} {t : St} (h : Run n t) (hn : n ≤ 99) : next t.flash ≤ 600 ∧ ky t.flash < 200 ∧ next t.flash + nd t.flash ≤ 600 ∧ ky t.flash + nd t.flash < 200 := by
 have h1 := h.pn; have h2 := h.pw; have h3 := zqc t.flash
 omega
theorem zm6 {α : Type} {p : List α -> Prop} (h0 : p []) (h : ∀ l a, p l -> p (l ++ [a])) (l : List α) : p l := by
 have key : ∀ r : List α, p r.reverse := fun r => by
  induction r with
  | nil => exact h0
  | cons a r ih => rw [List.reverse_cons]; exact h _ _ ih
 have := key l.reverse
 rwa [List.reverse_reverse] at this
theorem Qt (es : List Ev) : Run es.length (yo es) := by
 refine zm6 (p := fun es => Run es.length (yo es)) Run.new (fun l a h => ?_) es
 rw [zcz, List.length_append]
 exact h.step a
end
end Go.Proofs.YtclnogfmmekooaaGreat
open Go.RowKit Go.IntWalk Go.Maps
namespace Go.Proofs.YtclnogfmmekooaaGreat
section
theorem Tryz.info_int1 : (Tryz.prog.info? 3).map (·.size) = some 1 := by kernel_rfl
theorem znn (xs : List Int) : ∀ v ∈ ints xs, v.oneCell' = true := fun v hv => by
 unfold ints at hv
 obtain ⟨x, _, rfl⟩ := List.mem_map.1 hv
 rfl
theorem y7 {w : World} {b i : Nat} {u : Value} (h : w.cell? ⟨b, i, none⟩ = some u) (o : Obj) : (w.alloc o).cell? ⟨b, i, none⟩ = some u := (World.cell?_of_block (a := ⟨b, i, none⟩) (Below.heap_alloc w o b (ze h))).trans h
theorem fzP {w : World} {b i : Nat} {u : Bool} (hb : b < w.heap.size) (h : w.frozen? ⟨b, i, none⟩ = u) (o : Obj) : (w.alloc o).frozen? ⟨b, i, none⟩ = u := (World.frozen?_of_block (a := ⟨b, i, none⟩) (Below.heap_alloc w o b hb)).trans h
def zqu (s : St) (w : World) (e : Ending) (w' : World) : Prop :=
 ∃ g d, e = .returned (.agg #[.slice (some ⟨g, 0, none⟩) 4 4, .slice (some ⟨d, 0, none⟩) 6 6]) ∧ OSt w' w.heap.size w'.heap.size (some ⟨g, 0, none⟩) s.flash (some ⟨d, 0, none⟩) s.disk ∧ Below w.heap.size w w'
theorem Zm (s : St) (A D : Option Addr) (c d : Nat) (w : World) (hs : xy s) (hF : Fl w A s.flash) (hD : Row w D (ints s.disk)) :
 Calls Tryz.prog 42 #[.agg #[.slice A 4 c, .slice D 6 d]] w (zqu s w) := by
 obtain ⟨db, dO, rfl⟩ := hD.addr (yc (by intro e; have := hs.2.1; rw [e] at this; simp at this))
 have HL := Lib.hid hs.1.1
 have HP := Lib.hid (yv hs)
 have hlen : (ints s.disk).length = 6 := by rw [yu, hs.2.1]
 clear hs
 have hmk := Q4
 have hR0 : Row (((w.alloc (.cells #[.slice A 4 c, .slice (some ⟨db, dO, none⟩) 6 d] 28)).alloc (.cells #[.slice none 0 0, .slice none 0 0] 28)).alloc (.cells #[.int .i64 0, .int .i64 0, .int .i64 0, .int .i64 0, .int .i64 0, .int .i64 0] 3)) (some ⟨w.heap.size + 1 + 1, 0, none⟩) (ints Ye) := by
  have := Row.new ((w.alloc (.cells #[.slice A 4 c, .slice (some ⟨db, dO, none⟩) 6 d] 28)).alloc (.cells #[.slice none 0 0, .slice none 0 0] 28)) #[.int .i64 0, .int .i64 0, .int .i64 0, .int .i64 0, .int .i64 0, .int .i64 0] 3
  simp only [World.size_alloc] at this
  exact this
 have hc : ∀ j, j < 6 -> ∃ u, (((w.alloc (.cells #[.slice A 4 c, .slice (some ⟨db, dO, none⟩) 6 d] 28)).alloc (.cells #[.slice none 0 0, .slice none 0 0] 28)).alloc (.cells #[.int .i64 0, .int .i64 0, .int .i64 0, .int .i64 0, .int .i64 0, .int .i64 0] 3)).cell? ⟨w.heap.size + 1 + 1, 0 + j, none⟩ = some u ∧ (((w.alloc (.cells #[.slice A 4 c, .slice (some ⟨db, dO, none⟩) 6 d] 28)).alloc (.cells #[.slice none 0 0, .slice none 0 0] 28)).alloc (.cells #[.int .i64 0, .int .i64 0, .int .i64 0, .int .i64 0, .int .i64 0, .int .i64 0] 3)).frozen? ⟨w.heap.size + 1 + 1, 0 + j, none⟩ = false := fun j hj => by
  obtain ⟨b', o', he, hc⟩ := hR0 (by simp [ints, Ye])
  cases he
  obtain ⟨u, hu⟩ := zd (l := ints Ye) (k := j) (by rw [yu]; exact hj)
  exact ⟨u, hc j u hu⟩
 obtain ⟨b', o', he, hc'⟩ := (((hD.alloc (.cells #[.slice A 4 c, .slice (some ⟨db, dO, none⟩) 6 d] 28)).alloc (.cells #[.slice none 0 0, .slice none 0 0] 28)).alloc (.cells #[.int .i64 0, .int .i64 0, .int .i64 0, .int .i64 0, .int .i64 0, .int .i64 0] 3)) (by intro e; rw [e] at hlen; simp at hlen)
 cases he
 have hcp := zbp (P := Tryz.prog) (((w.alloc (.cells #[.slice A 4 c, .slice (some ⟨db, dO, none⟩) 6 d] 28)).alloc (.cells #[.slice none 0 0, .slice none 0 0] 28)).alloc (.cells #[.int .i64 0, .int .i64 0, .int .i64 0, .int .i64 0, .int .i64 0, .int .i64 0] 3)) 26 26 3 3 1 (w.heap.size + 1 + 1) 0 6 6 ⟨db, dO, none⟩ 6 d 6 (ints s.disk) Tryz.underlying26 Tryz.info_int1 rfl hlen
  (fun j v hj => by rw [Qd]; exact (hc' j v hj).1) (fun j hj => by obtain ⟨u, hu, _⟩ := hc j (by omega); rw [hu]; rfl) (fun j hj => by obtain ⟨u, _, hu⟩ := hc j (by omega); exact hu) (znn s.disk)
 have hW := zn (w.heap.size + 1 + 1) (ints s.disk) 0 (((w.alloc (.cells #[.slice A 4 c, .slice (some ⟨db, dO, none⟩) 6 d] 28)).alloc (.cells #[.slice none 0 0, .slice none 0 0] 28)).alloc (.cells #[.int .i64 0, .int .i64 0, .int .i64 0, .int .i64 0, .int .i64 0, .int .i64 0] 3)) (fun j hj => by obtain ⟨u, hu, _⟩ := hc j (by omega); exact ⟨u, hu⟩)
 have hB0 : Below w.heap.size w (((w.alloc (.cells #[.slice A 4 c, .slice (some ⟨db, dO, none⟩) 6 d] 28)).alloc (.cells #[.slice none 0 0, .slice none 0 0] 28)).alloc (.cells #[.int .i64 0, .int .i64 0, .int .i64 0, .int .i64 0, .int .i64 0, .int .i64 0] 3)) := bw
 have b0 : (((w.alloc (.cells #[.slice A 4 c, .slice (some ⟨db, dO, none⟩) 6 d] 28)).alloc (.cells #[.slice none 0 0, .slice none 0 0] 28)).alloc (.cells #[.int .i64 0, .int .i64 0, .int .i64 0, .int .i64 0, .int .i64 0, .int .i64 0] 3)).cell? ⟨w.heap.size, 0, none⟩ = some (.slice A 4 c) := y7 (by simp) _
 have r0 : (((w.alloc (.cells #[.slice A 4 c, .slice (some ⟨db, dO, none⟩) 6 d] 28)).alloc (.cells #[.slice none 0 0, .slice none 0 0] 28)).alloc (.cells #[.int .i64 0, .int .i64 0, .int .i64 0, .int .i64 0, .int .i64 0, .int .i64 0] 3)).cell? ⟨w.heap.size + 1, 0, none⟩ = some (.slice none 0 0) := y7 (by simp) _
 have r1 : (((w.alloc (.cells #[.slice A 4 c, .slice (some ⟨db, dO, none⟩) 6 d] 28)).alloc (.cells #[.slice none 0 0, .slice none 0 0] 28)).alloc (.cells #[.int .i64 0, .int .i64 0, .int .i64 0, .int .i64 0, .int .i64 0, .int .i64 0] 3)).cell? ⟨w.heap.size + 1, 1, none⟩ = some (.slice none 0 0) := y7 (by simp) _
 have q0 : (((w.alloc (.cells #[.slice A 4 c, .slice (some ⟨db, dO, none⟩) 6 d] 28)).alloc (.cells #[.slice none 0 0, .slice none 0 0] 28)).alloc (.cells #[.int .i64 0, .int .i64 0, .int .i64 0, .int .i64 0, .int .i64 0, .int .i64 0] 3)).frozen? ⟨w.heap.size + 1, 0, none⟩ = false := fzP (by simp) (by simp) _
 have q1 : (((w.alloc (.cells #[.slice A 4 c, .slice (some ⟨db, dO, none⟩) 6 d] 28)).alloc (.cells #[.slice none 0 0, .slice none 0 0] 28)).alloc (.cells #[.int .i64 0, .int .i64 0, .int .i64 0, .int .i64 0, .int .i64 0, .int .i64 0] 3)).frozen? ⟨w.heap.size + 1, 1, none⟩ = false := fzP (by simp) (by simp) _
 have hsz : (((w.alloc (.cells #[.slice A 4 c, .slice (some ⟨db, dO, none⟩) 6 d] 28)).alloc (.cells #[.slice none 0 0, .slice none 0 0] 28)).alloc (.cells #[.int .i64 0, .int .i64 0, .int .i64 0, .int .i64 0, .int .i64 0, .int .i64 0] 3)).heap.size = w.heap.size + 3 := by simp
 obtain ⟨W1, hW1⟩ : ∃ W1, (((w.alloc (.cells #[.slice A 4 c, .slice (some ⟨db, dO, none⟩) 6 d] 28)).alloc (.cells #[.slice none 0 0, .slice none 0 0] 28)).alloc (.cells #[.int .i64 0, .int .i64 0, .int .i64 0, .int .i64 0, .int .i64 0, .int .i64 0] 3)).setCells (w.heap.size + 1 + 1) 0 (ints s.disk) = W1 := ⟨_, rfl⟩
 rw [hW1] at hcp hW
 have hr1 : Row W1 (some ⟨w.heap.size + 1 + 1, 0, none⟩) (ints s.disk) := fun _ => ⟨_, _, rfl, fun j u hj => ⟨by have := hW.new_ j u hj; rw [Nat.zero_add] at this ⊢; exact this, by
  rw [hW.frozen]; have hjl := (List.getElem?_eq_some_iff.1 hj).1; obtain ⟨u', _, hu'⟩ := hc j (by omega); exact hu'⟩⟩
 have hs1 : W1.heap.size = w.heap.size + 3 := by rw [hW.size, hsz]
 have hB1 : Below w.heap.size w W1 := hB0.trans (hW.agr.below (by rw [hsz]; omega) (by rintro i rfl; omega))
 have cc : ∀ b o, b < w.heap.size + 2 -> W1.cell? ⟨b, o, none⟩ = (((w.alloc (.cells #[.slice A 4 c, .slice (some ⟨db, dO, none⟩) 6 d] 28)).alloc (.cells #[.slice none 0 0, .slice none 0 0] 28)).alloc (.cells #[.int .i64 0, .int .i64 0, .int .i64 0, .int .i64 0, .int .i64 0, .int .i64 0] 3)).cell? ⟨b, o, none⟩ := fun b o hb => hW.agr.cell (by rw [hsz]; omega) (by omega) o
 have cf : ∀ b o, b < w.heap.size + 2 -> W1.frozen? ⟨b, o, none⟩ = (((w.alloc (.cells #[.slice A 4 c, .slice (some ⟨db, dO, none⟩) 6 d] 28)).alloc (.cells #[.slice none 0 0, .slice none 0 0] 28)).alloc (.cells #[.int .i64 0, .int .i64 0, .int .i64 0, .int .i64 0, .int .i64 0, .int .i64 0] 3)).frozen? ⟨b, o, none⟩ := fun b o hb => hW.agr.fz (by rw [hsz]; omega) (by omega) o
 replace b0 := (cc _ _ (by omega)).trans b0
 replace r0 := (cc _ _ (by omega)).trans r0
 replace r1 := (cc _ _ (by omega)).trans r1
 replace q0 := (cf _ _ (by omega)).trans q0
 replace q1 := (cf _ _ (by omega)).trans q1
 clear cc cf hW hW1 hc hc' hB0 hsz hR0 hlen
 have hF1 : Fl W1 A s.flash := hF.below hB1 nl
 go_enter Tryz.func42, Tryz.ntmps42
 go_wp2_with fail
 refine (Zn A c s.flash _ HL.out HP.out hF1).mono ?_
 rintro e w2 ⟨g, rfl, hO, hb⟩
 have hz2 := hb.size
 replace r0 := (hb.cell (p := ⟨w.heap.size + 1, 0, none⟩) (by show w.heap.size + 1 < _; omega)).trans r0
 replace r1 := (hb.cell (p := ⟨w.heap.size + 1, 1, none⟩) (by show w.heap.size + 1 < _; omega)).trans r1
 replace q0 := (hb.frozen (p := ⟨w.heap.size + 1, 0, none⟩) (by show w.heap.size + 1 < _; omega)).trans q0
 replace q1 := (hb.frozen (p := ⟨w.heap.size + 1, 1, none⟩) (by show w.heap.size + 1 < _; omega)).trans q1
 have hr2 := hr1.below hb nl
 have hB2 := hB1.trans (hb.mono (by omega))
 have hz : w.heap.size + 1 < w2.heap.size := by omega
 clear hb hr1 hB1 hF1 hcp
 go_wp2
 refine bodyPost_ret (v := .agg #[.slice (some ⟨g, 0, none⟩) 4 4, .slice (some ⟨w.heap.size + 1 + 1, 0, none⟩) 6 6]) (by simp [results, Tryz.results42, go_sem, hz, r0, r1]) rfl ⟨_, _, rfl, ?_, ?_⟩
 . refine OSt.mk' (lf := W1.heap.size) (hf := w2.heap.size) (hO.keep fun b h1 h2 hl => ?_) (hr2.keep fun b hb hl => ?_) (by omega) (by simp) (by omega) (by simp; omega) (.inl (by omega))
   . rw [Below.heap_setCell _ _ _ _ (by simp; omega), Below.heap_setCell _ _ _ _ (by simp; omega)]
   . rw [zg] at hb
     rw [Below.heap_setCell _ _ _ _ (by simp; omega), Below.heap_setCell _ _ _ _ (by simp; omega)]
 . refine Below.setCell (Below.setCell hB2 ?_ _) ?_ _ <;> (show w.heap.size ≤ w.heap.size + 1; omega)
theorem zg1 (x : Sp) (w : World) : Calls Tryz.prog 40 #[.agg #[.int .i64 x.kind, .int .i64 x.addr, .int .i64 x.val, .int .i64 x.block, .int .i64 x.rc.kind, .int .i64 x.rc.seq, .int .i64 x.rc.addr, .int .i64 x.rc.val]] w fun e w' => e = .returned (.bool (je x)) ∧ Below w.heap.size w w' := by
 obtain ⟨k, a, v, b, ⟨rk, rs, ra, rv⟩⟩ := x
 dsimp only
 by_cases h1 : k = 1
 . subst h1
   have hq : Hid (je ⟨1, a, v, b, ⟨rk, rs, ra, rv⟩⟩ = (decide (b = 0) && (decide ((⟨rk, rs, ra, rv⟩ : Rc) = rc0) && (kj a && valB v)))) := rfl
   go_enter Tryz.func40, Tryz.ntmps40
   go_wp2_with (first | (go_at_call 74; refine (ym _ _).mono ?_; rintro e w' ⟨rfl, rfl⟩) | (go_at_call 34; refine (Kd _ _).mono ?_; rintro e w' ⟨rfl, rfl⟩))
   all_goals (go_ret; exact ⟨zk (by rw [hq.out]; simp [rc0, *] <;> (intros; omega)), (Below.refl _ _).alloc nl _⟩)
 by_cases h2 : k = 2
 . subst h2
   have hq : Hid (je ⟨2, a, v, b, ⟨rk, rs, ra, rv⟩⟩ = (decide (a = 0) && (decide (v = 0) && (decide ((⟨rk, rs, ra, rv⟩ : Rc) = rc0) && jy b)))) := rfl
   go_enter Tryz.func40, Tryz.ntmps40
   go_wp2_with (first | (go_at_call 75; refine (j7 _ _).mono ?_; rintro e w' ⟨rfl, rfl⟩))
   all_goals (go_ret; exact ⟨zk (by rw [hq.out]; simp [rc0, *] <;> (intros; omega)), (Below.refl _ _).alloc nl _⟩)
 by_cases h3 : k = 3
 . subst h3
   have hq : Hid (je ⟨3, a, v, b, ⟨rk, rs, ra, rv⟩⟩ = (decide (a = 0) && (decide (v = 0) && (jy b && xk ⟨rk, rs, ra, rv⟩)))) := rfl
   have hB : Below w.heap.size w (w.alloc (.cells #[.int .i64 3, .int .i64 a, .int .i64 v, .int .i64 b, .int .i64 rk, .int .i64 rs, .int .i64 ra, .int .i64 rv] 81)) := (Below.refl _ _).alloc nl _
   go_enter Tryz.func40, Tryz.ntmps40
   go_wp2_with (first | (go_at_call 75; refine (j7 _ _).mono ?_; rintro e w' ⟨rfl, rfl⟩) | (go_at_call 62; refine (Ke ⟨rk, rs, ra, rv⟩ _).mono ?_; rintro e w' ⟨rfl, hb⟩))
   all_goals (go_ret; refine ⟨zk (by rw [hq.out]; simp [rc0, *]), ?_⟩; first | exact ((Below.refl _ _).alloc nl _).trans (hb.mono (by simp)) | exact (Below.refl _ _).alloc nl _)
 have hq : Hid (je ⟨k, a, v, b, ⟨rk, rs, ra, rv⟩⟩ = false) := by unfold Hid je; simp [h1, h2, h3]
 go_enter Tryz.func40, Tryz.ntmps40
 go_wp2
 go_ret
 exact ⟨zk hq.out.symm, (Below.refl _ _).alloc nl _⟩
theorem Jk (r : Rc) (w : World) : Calls Tryz.prog 66 #[.agg #[.int .i64 r.kind, .int .i64 r.seq, .int .i64 r.addr, .int .i64 r.val]] w fun e w' => e = .returned (.agg #[.int .i64 1, .int .i64 r.addr, .int .i64 r.val, .int .i64 0, .int .i64 0, .int .i64 0, .int .i64 0, .int .i64 0]) ∧ Below w.heap.size w w' := by
 go_enter Tryz.func66, Tryz.ntmps66
 go_wp2
 refine bodyPost_ret (v := .agg #[.int .i64 1, .int .i64 r.addr, .int .i64 r.val, .int .i64 0, .int .i64 0, .int .i64 0, .int .i64 0, .int .i64 0]) (by simp [results, Tryz.results66, go_sem]) rfl ⟨rfl, ?_⟩
 exact bw
end
end Go.Proofs.YtclnogfmmekooaaGreat
open Go.RowKit Go.IntWalk Go.Maps
namespace Go.Proofs.YtclnogfmmekooaaGreat
section
theorem zev (t : St) (A D A' D' : Option Addr) (n m n' m' c d c' d' : Nat) (w : World) (hn : n = t.flash.length) (hm : m = t.disk.length) (hn' : n' = t.flash.length) (hm' : m' = t.disk.length) (hl : t.flash.length < 1000000000000) (hp : ∀ b ∈ t.flash, b.pages.length < 1000000000000) (hd : t.disk.length < 1000000000000)
 (hF : Fl w A t.flash) (hD : Row w D (ints t.disk)) (hF' : Fl w A' t.flash) (hD' : Row w D' (ints t.disk)) :
 Calls Tryz.prog 8 #[.agg #[.slice A n c, .slice D m d], .agg #[.slice A' n' c', .slice D' m' d']] w fun e w' => e = .returned (.bool true) ∧ Below w.heap.size w w' := by
 have hB0 : Below w.heap.size w ((w.alloc (.cells #[.slice A n c, .slice D m d] 28)).alloc (.cells #[.slice A' n' c', .slice D' m' d'] 28)) := bw
 have H1 := Lib.hid (zex A A' n n' c c' t.flash _ hn hn' hl hp (hF.below hB0 nl) (hF'.below hB0 nl))
 have H2 := Lib.hid (fun w1 (h1 : Row w1 D (ints t.disk)) (h2 : Row w1 D' (ints t.disk)) => zgz D D' m m' d d' t.disk t.disk w1 hm hm' hd h1 h2)
 clear hn hm hn' hm' hl hp hd hF hF'
 go_enter Tryz.func8, Tryz.ntmps8
 go_wp2_with fail
 with_reducible refine H1.out.mono ?_
 rintro e w1 ⟨rfl, hb⟩
 have hB1 : Below w.heap.size w w1 := hB0.trans (hb.mono (by simp; omega))
 have hs1 : w.heap.size + 2 ≤ w1.heap.size := by have := hb.size; simpa using this
 obtain ⟨hcc, hff⟩ := jr hb
 have x1 : w1.cell? ⟨w.heap.size, 1, none⟩ = some (.slice D m d) := (hcc _ _ (by simp <;> omega)).trans (by simp)
 have y1 : w1.cell? ⟨w.heap.size + 1, 1, none⟩ = some (.slice D' m' d') := (hcc _ _ (by simp)).trans (by simp)
 clear hcc hff hb H1
 go_wp2_with fail
 with_reducible refine (H2.out w1 (hD.below hB1 nl) (hD'.below hB1 nl)).mono ?_
 rintro e w2 ⟨rfl, hb2⟩
 go_wp2
 go_ret
 exact ⟨zk (by simp), hB1.trans (hb2.mono hB1.size)⟩
end
end Go.Proofs.YtclnogfmmekooaaGreat
open Go.RowKit Go.IntWalk Go.Maps
namespace Go.Proofs.YtclnogfmmekooaaGreat
section
def Hold (w : World) (lo ob : Nat) (s : St) : Prop :=
 ∃ A c D d hs, w.cell? ⟨ob, 0, none⟩ = some (.slice A 4 c) ∧ w.cell? ⟨ob, 1, none⟩ = some (.slice D 6 d) ∧ w.frozen? ⟨ob, 0, none⟩ = false ∧ w.frozen? ⟨ob, 1, none⟩ = false ∧ lo ≤ ob ∧ (∃ h, Apt lo h A hs ∧ h ≤ w.heap.size) ∧
   Bks w A s.flash hs ∧ Row w D (ints s.disk) ∧ (∀ b, fblk A hs b -> lo ≤ b ∧ b ≠ ob) ∧ ∀ b, blk D b -> lo ≤ b ∧ b ≠ ob ∧ ¬ fblk A hs b
theorem Hold.drew {w : World} {lo ob : Nat} {s : St} (h : Hold w lo ob s) : Hold w.drew lo ob s := by
 obtain ⟨A, c, D, d, hs, o0, o1, f0, f1, hlo, hAp, hBk, hD, hfb, hdb⟩ := h
 exact ⟨A, c, D, d, hs, o0, o1, f0, f1, hlo, hAp, hBk.drew, hD.drew, hfb, hdb⟩
theorem Hold.below {w w' : World} {lo ob : Nat} {s : St} (h : Hold w lo ob s) (hb : Below w.heap.size w w') : Hold w' lo ob s := by
 obtain ⟨A, c0, D, d, hs, o0, o1, f0, f1, hlo, hAp, hBk, hD, hfb, hdb⟩ := h
 have hob := ze o0
 exact ⟨A, c0, D, d, hs, (hb.cell (p := ⟨ob, 0, none⟩) hob).trans o0, (hb.cell (p := ⟨ob, 1, none⟩) hob).trans o1, (hb.frozen (p := ⟨ob, 0, none⟩) hob).trans f0, (hb.frozen (p := ⟨ob, 1, none⟩) hob).trans f1, hlo, (by obtain ⟨h, h1, h2⟩ := hAp; exact ⟨h, h1, Nat.le_trans h2 hb.size⟩), hBk.below hb nl, hD.below hb nl, hfb, hdb⟩
theorem Hold.far {w w' : World} {lo ob : Nat} {s : St} (h : Hold w lo ob s) (hk : ∀ b, lo ≤ b -> b < w.heap.size -> w'.heap[b]? = w.heap[b]?) : Hold w' lo ob s := by
 obtain ⟨A, c0, D, d, hs, o0, o1, f0, f1, hlo, hAp, hBk, hD, hfb, hdb⟩ := h
 have hob := ze o0
 have hh := hk ob hlo hob
 have hsz : w.heap.size ≤ w'.heap.size := by
  have h1 := hk (w.heap.size - 1) (by omega) (by omega)
  rcases Nat.lt_or_ge (w.heap.size - 1) w'.heap.size with h | h
  . omega
  . rw [Array.getElem?_eq_none h, Array.getElem?_eq_getElem (by omega)] at h1; cases h1
 refine ⟨A, c0, D, d, hs, (World.cell?_of_block (a := ⟨ob, 0, none⟩) hh).trans o0, (World.cell?_of_block (a := ⟨ob, 1, none⟩) hh).trans o1, (World.frozen?_of_block (a := ⟨ob, 0, none⟩) hh).trans f0, (World.frozen?_of_block (a := ⟨ob, 1, none⟩) hh).trans f1, hlo, (by obtain ⟨h, h1, h2⟩ := hAp; exact ⟨h, h1, Nat.le_trans h2 hsz⟩), hBk.keep fun b hb hl => hk b (hfb b ?_).1 hl, hD.keep fun b hb hl => hk b (hdb b hb).1 hl, hfb, hdb⟩
 rcases hb with hy | ⟨z, hz, hy⟩
 . exact .inl hy
 . obtain ⟨j, hj⟩ := List.getElem?_of_mem hz
   exact .inr ⟨j, z, hj, hy⟩
theorem Hold.new {w : World} {lo c d : Nat} {A D : Option Addr} {f : List Bk} {xs : List Int} (hO : OSt w lo w.heap.size A f D xs) (hlo : lo ≤ w.heap.size) : Hold (w.alloc (.cells #[.slice A 4 c, .slice D 6 d] 28)) lo w.heap.size ⟨f, xs⟩ := by
 obtain ⟨hs, hBk, hApt, hD, hdb⟩ := hO
 refine ⟨A, c, D, d, hs, by simp, by simp, by simp, by simp, hlo, ⟨_, hApt, by simp⟩, hBk.alloc _, hD.alloc _, fun b hb => ?_, fun b hb => ⟨(hdb b hb).1, by have := (hdb b hb).2.1; omega, fun hf => ?_⟩⟩
 . have := hApt.fblk hb; exact ⟨this.1, by omega⟩
 . rcases hf with hf | ⟨i, x, hx, hf⟩
   . exact (hdb b hb).2.2.1 hf
   . exact (hdb b hb).2.2.2 i x hx hf
theorem Hold.flash {w w' w'' : World} {lo ob : Nat} {s : St} {A1 : Option Addr} {c : Nat} {f : List Bk} (h : Hold w lo ob s) (hn : ints s.disk ≠ []) (hb : Below w.heap.size w w') (hO : OFl w' w.heap.size w'.heap.size A1 f) (hw : w'' = w'.setCell ⟨ob, 0, none⟩ (.slice A1 4 c)) : Hold w'' lo ob { s with flash := f } := by
 obtain ⟨A, c0, D, d, hs, o0, o1, f0, f1, hlo, hAp, hBk, hD, hfb, hdb⟩ := h
 obtain ⟨hs2, hBk2, hApt⟩ := hO
 have hob := ze o0
 have q0 := (hb.cell (p := ⟨ob, 0, none⟩) hob).trans o0
 have q1 := (hb.cell (p := ⟨ob, 1, none⟩) hob).trans o1
 have g0 := (hb.frozen (p := ⟨ob, 0, none⟩) hob).trans f0
 have g1 := (hb.frozen (p := ⟨ob, 1, none⟩) hob).trans f1
 have hW := z8 q0 (.slice A1 4 c)
 rw [← hw] at hW
 have n0 := hW.new_ 0 _ rfl
 have n1 := hW.old_ 1 (by simp)
 refine ⟨A1, c, D, d, hs2, n0, n1.trans q1, (hW.frozen _).trans g0, (hW.frozen _).trans g1, hlo, ⟨_, hApt.mono (by omega) nl, by rw [hW.size]; exact Nat.le_refl _⟩, hBk2.keep fun y hy hl => hW.block y ?_, (hD.below hb nl).keep fun y hy hl => hW.block y (hdb y hy).2.1, fun b hb2 => ?_, fun b hb2 => ⟨(hdb b hb2).1, (hdb b hb2).2.1, fun hf => ?_⟩⟩
 . rintro rfl
   have hf : fblk A1 hs2 y := by
    rcases hy with hy | ⟨z, hz, hy⟩
    . exact .inl hy
    . obtain ⟨j, hj⟩ := List.getElem?_of_mem hz
      exact .inr ⟨j, z, hj, hy⟩
   have := (hApt.fblk hf).1
   omega
 . have := (hApt.fblk hb2).1
   exact ⟨by omega, by omega⟩
 . have h1 := (hApt.fblk hf).1
   have hbl := hD.lt hn hb2
   omega
theorem zmv {f : List Bk} (h : zc f = true) {x : Sp} (hx : je x = true) (hk : x.kind = 2) (torn : Bool) : k8 f x.block torn = j9 f x.block.toNat torn := by
 have hb := (Qr hx hk).2.2.2
 have := zmy (torn := torn) h (i := x.block.toNat) (by omega)
 rwa [Int.toNat_of_nonneg hb.1] at this
theorem zj4 {f : List Bk} (h : zc f = true) {x : Sp} (hx : je x = true) (hk : x.kind = 3) (torn : Bool) : kr f x.block x.rc torn = xv f x.block.toNat x.rc torn := by
 obtain ⟨_, _, hb, hr⟩ := Yl hx hk
 unfold kr
 rw [if_neg (by rw [h, Kj.2 hb, hr]; simp)]
theorem zj6 {f : List Bk} {i : Nat} {r : Rc} {t : Bool} (h : (xv f i r t).2 = false) : (xv f i r t).1 = f := by
 unfold xv at h ⊢
 split at h
 . rw [if_pos (by assumption)]
 . cases h
theorem zmx {f : List Bk} {i : Nat} {t : Bool} (h : (j9 f i t).2 = false) : (j9 f i t).1 = f := by
 unfold j9 at h ⊢
 split at h
 . rw [if_pos (by assumption)]
 . cases h
theorem zlo (s : St) (x : Sp) (torn : Bool) (lo ob sb : Nat) (w : World) (hk : x.kind = 1) (hx : je x = true) (h6 : s.disk.length = 6) (hH : Hold w lo ob s) (hS : Row w (some ⟨sb, 0, none⟩) x.vs) (hsb : sb < lo) :
 Calls Tryz.prog 76 #[.pointer (some ⟨ob, 0, none⟩), .bool torn, .pointer (some ⟨sb, 0, none⟩)] w fun e w' => e = .returned (.tuple #[]) ∧ Hold w' lo ob (zr s x torn) ∧ Below lo w w' := by
 obtain ⟨_, _, ha, _⟩ := zgc hx hk
 have hfin : Hid (zr s x torn = if torn then s else { s with disk := s.disk.set (x.addr - 1).toNat x.val }) := by unfold Hid zr; rw [if_pos hk]
 obtain ⟨k1, s1⟩ := hS.at0 (j := 1) rfl
 obtain ⟨k2, s2⟩ := hS.at0 (j := 2) rfl
 generalize x.addr = a at *
 generalize x.val = v at *
 clear hx hk hS
 cases torn
 . obtain ⟨i, rfl⟩ : ∃ i : Nat, a = i + 1 := ⟨(a - 1).toNat, by omega⟩
   rw [if_neg (by decide), show ((i : Int) + 1 - 1).toNat = i by omega] at hfin
   have hi : i < 6 := by omega
   have hi6 : (i : Int) < 6 := by omega
   have HO := Lib.hid hH
   obtain ⟨A, c, D, d, hs, o0, o1, f0, f1, hlo, hAp, hBk, hD, hfb, hdb⟩ := hH
   obtain ⟨db, dO, rfl⟩ := hD.addr (yc (by intro e; rw [e] at h6; simp at h6))
   have hdb1 := hdb db (zg.2 rfl)
   obtain ⟨u, hu⟩ := zd (l := s.disk) (k := i) (by omega)
   obtain ⟨c0, e0⟩ := hD.int_ hu
   have hW := z8 c0 (.int .i64 v)
   have hR2 : Row (w.setCell ⟨db, dO + i, none⟩ (.int .i64 v)) (some ⟨db, dO, none⟩) (ints (s.disk.set i v)) := by
    rw [zh4]
    exact hW.row hD (by rw [yu]; simp; omega)
   have hne : ob ≠ db := fun e => hdb1.2.1 e.symm
   have hX : Hold (w.setCell ⟨db, dO + i, none⟩ (.int .i64 v)) lo ob { s with disk := s.disk.set i v } :=
    ⟨A, c, some ⟨db, dO, none⟩, d, hs, (hW.agr.cell (ze o0) hne 0).trans o0, (hW.agr.cell (ze o0) hne 1).trans o1, (hW.agr.fz (ze o0) hne 0).trans f0, (hW.agr.fz (ze o0) hne 1).trans f1, hlo, (by rw [hW.size]; exact hAp),
     hBk.keep fun y hy hl => hW.agr.block y hl (by
      rintro rfl
      refine hdb1.2.2 ?_
      rcases hy with hy | ⟨z, hz, hy⟩
      . exact .inl hy
      . obtain ⟨j, hj⟩ := List.getElem?_of_mem hz
        exact .inr ⟨j, z, hj, hy⟩), hR2, hfb, hdb⟩
   have HX := Lib.hid hX
   have e1 : IntKind.i64.wrap ((i : Int) + 1 - 1) = i := by rw [show (i : Int) + 1 - 1 = i by omega]; exact IntWalk.i64_in _ (by omega)
   have e2 : IntKind.i64.wrap (i : Int) = i := IntWalk.i64_in _ (by omega)
   have n1 : db ≠ ob := hdb1.2.1
   have n2 : db ≠ sb := by omega
   have n3 : sb ≠ db := by omega
   have hlo2 := hdb1.1
   clear hu hW hR2 hX hBk hfb hdb hD ha hdb1 HO
   go_enter Tryz.func76, Tryz.ntmps76
   go_wp2
   go_region
   go_wp2
   go_end0
   exact ⟨rfl, by rw [hfin.out]; exact HX.out.drew, (Below.setCell (Below.refl _ _) (by exact hlo2) _).drew⟩
 . rw [if_pos rfl] at hfin
   go_enter Tryz.func76, Tryz.ntmps76
   go_wp2
   go_end0
   exact ⟨rfl, by rw [hfin.out]; exact hH, Below.refl _ _⟩
theorem zln (s : St) (x : Sp) (torn : Bool) (lo ob sb : Nat) (w : World) (hk : x.kind = 2) (hx : je x = true) (hok : zc s.flash = true) (h6 : s.disk.length = 6) (hH : Hold w lo ob s) (hS : Row w (some ⟨sb, 0, none⟩) x.vs) (hsb : sb < lo) :
 Calls Tryz.prog 77 #[.pointer (some ⟨ob, 0, none⟩), .bool torn, .pointer (some ⟨sb, 0, none⟩)] w fun e w' => e = .returned (.tuple #[]) ∧ Hold w' lo ob (zr s x torn) ∧ Below lo w w' := by
 have hfin : Hid (zr s x torn = { s with flash := (j9 s.flash x.block.toNat torn).1 }) := by unfold Hid zr; rw [if_neg (by omega), if_pos hk]
 have hl4 := zf hok
 have hFW : ∀ (A : Option Addr) (c : Nat) (w : World), Fl w A s.flash -> Hid (Calls Tryz.prog 78 #[.slice A 4 c, .int .i64 x.block, .bool torn] w (ziv (j9 s.flash x.block.toNat torn) w)) := fun A c w h => by
  have := zbc s.flash x.block torn A c w h
  rw [zmv hok hx hk] at this
  rwa [hl4] at this
 have hlen : Hid ((j9 s.flash x.block.toNat torn).1.length = 4) := by rw [Hid, zka, hl4]
 have hno : Hid ((j9 s.flash x.block.toNat torn).2 = false -> (j9 s.flash x.block.toNat torn).1 = s.flash) := zmx
 generalize (j9 s.flash x.block.toNat torn) = R at *
 obtain ⟨R1, R2⟩ := R
 dsimp only at *
 have hd6 : ints s.disk ≠ [] := yc (by intro e; rw [e] at h6; simp at h6)
 obtain ⟨k3, s3⟩ := hS.at0 (j := 3) rfl
 have HH := Lib.hid hH
 have HD6 := Lib.hid hd6
 obtain ⟨A, c, D, d, hs, o0, o1, f0, f1, hlo, hAp, hBk, hD, hfb, hdb⟩ := hH
 have hob := ze o0
 have hF : Fl w A s.flash := ⟨hs, hBk⟩
 clear hk hx hok h6 hS hl4 hd6 hD hfb hdb hBk
 go_enter Tryz.func77, Tryz.ntmps77
 go_wp2
 go_region_with (first | (go_at_call 78; (with_reducible refine (hFW A c _ (Fl.drew' hF)).out.mono ?_); rintro e w1 ⟨A1, c1, rfl, hc1, hO, hb1⟩; rw [show ((R1, R2) : List Bk × Bool).1.length = 4 from hlen.out]; replace hO : OFl w1 w.heap.size w1.heap.size A1 R1 := hO; replace hb1 : Below w.heap.size w w1 := Xh hb1; have q0 := (hb1.cell (p := ⟨ob, 0, none⟩) hob).trans o0; have q1 := (hb1.cell (p := ⟨ob, 1, none⟩) hob).trans o1; have g0 := (hb1.frozen (p := ⟨ob, 0, none⟩) hob).trans f0; have g1 := (hb1.frozen (p := ⟨ob, 1, none⟩) hob).trans f1))
 all_goals
  cases R2
  . have hR := hno.out rfl
    subst hR
    go_wp2
    go_end0
    exact ⟨rfl, by rw [hfin.out]; exact HH.out.below hb1, hb1.mono (by omega)⟩
  . go_wp2
    go_end0
    exact ⟨rfl, by rw [hfin.out]; exact HH.out.flash HD6.out hb1 hO rfl, (hb1.mono (by omega)).setCell (by exact hlo) _⟩
theorem zlm (s : St) (x : Sp) (torn : Bool) (lo ob sb : Nat) (w : World) (hk : x.kind = 3) (hx : je x = true) (hok : zc s.flash = true) (h6 : s.disk.length = 6) (hH : Hold w lo ob s) (hS : Row w (some ⟨sb, 0, none⟩) x.vs) (hsb : sb < lo) :
 Calls Tryz.prog 79 #[.pointer (some ⟨ob, 0, none⟩), .bool torn, .pointer (some ⟨sb, 0, none⟩)] w fun e w' => e = .returned (.tuple #[]) ∧ Hold w' lo ob (zr s x torn) ∧ Below lo w w' := by
 have hfin : Hid (zr s x torn = { s with flash := (xv s.flash x.block.toNat x.rc torn).1 }) := by unfold Hid zr; rw [if_neg (by omega), if_neg (by omega), if_pos hk]
 have hl4 := zf hok
 have hFW : ∀ (A : Option Addr) (c : Nat) (w : World), Fl w A s.flash -> Hid (Calls Tryz.prog 80 #[.slice A 4 c, .int .i64 x.block, .agg #[.int .i64 x.rc.kind, .int .i64 x.rc.seq, .int .i64 x.rc.addr, .int .i64 x.rc.val], .bool torn] w (ziv (xv s.flash x.block.toNat x.rc torn) w)) := fun A c w h => by
  have := zaf s.flash x.block x.rc torn A 4 c w hl4.symm h
  rw [zj4 hok hx hk] at this
  exact this
 have hlen : Hid ((xv s.flash x.block.toNat x.rc torn).1.length = 4) := by rw [Hid, ziy, hl4]
 have hno : Hid ((xv s.flash x.block.toNat x.rc torn).2 = false -> (xv s.flash x.block.toNat x.rc torn).1 = s.flash) := zj6
 generalize (xv s.flash x.block.toNat x.rc torn) = R at *
 obtain ⟨R1, R2⟩ := R
 dsimp only at *
 have hd6 : ints s.disk ≠ [] := yc (by intro e; rw [e] at h6; simp at h6)
 obtain ⟨k3, s3⟩ := hS.at0 (j := 3) rfl
 obtain ⟨k4, s4⟩ := hS.at0 (j := 4) rfl
 obtain ⟨k5, s5⟩ := hS.at0 (j := 5) rfl
 obtain ⟨k6, s6⟩ := hS.at0 (j := 6) rfl
 obtain ⟨k7, s7⟩ := hS.at0 (j := 7) rfl
 have HH := Lib.hid hH
 have HD6 := Lib.hid hd6
 obtain ⟨A, c, D, d, hs, o0, o1, f0, f1, hlo, hAp, hBk, hD, hfb, hdb⟩ := hH
 have hob := ze o0
 have hF : Fl w A s.flash := ⟨hs, hBk⟩
 clear hk hx hok h6 hS hl4 hd6 hD hfb hdb hBk
 go_enter Tryz.func79, Tryz.ntmps79
 go_wp2
 go_region_with (first | (go_at_call 80; (with_reducible refine (hFW A c _ (Fl.drew' hF)).out.mono ?_); rintro e w1 ⟨A1, c1, rfl, hc1, hO, hb1⟩; rw [show ((R1, R2) : List Bk × Bool).1.length = 4 from hlen.out]; replace hO : OFl w1 w.heap.size w1.heap.size A1 R1 := hO; replace hb1 : Below w.heap.size w w1 := Xh hb1; have q0 := (hb1.cell (p := ⟨ob, 0, none⟩) hob).trans o0; have q1 := (hb1.cell (p := ⟨ob, 1, none⟩) hob).trans o1; have g0 := (hb1.frozen (p := ⟨ob, 0, none⟩) hob).trans f0; have g1 := (hb1.frozen (p := ⟨ob, 1, none⟩) hob).trans f1))
 all_goals
  cases R2
  . have hR := hno.out rfl
    subst hR
    go_wp2
    go_end0
    exact ⟨rfl, by rw [hfin.out]; exact HH.out.below hb1, hb1.mono (by omega)⟩
  . go_wp2
    go_end0
    exact ⟨rfl, by rw [hfin.out]; exact HH.out.flash HD6.out hb1 hO rfl, (hb1.mono (by omega)).setCell (by exact hlo) _⟩
end
end Go.Proofs.YtclnogfmmekooaaGreat
open Go.RowKit Go.IntWalk Go.Maps
namespace Go.Proofs.YtclnogfmmekooaaGreat
section
def actV (k : Int) (b : Nat) : Value := .func (.func (if k = 1 then 76 else if k = 2 then 77 else 79)) #[] #[.pointer (some ⟨b, 0, none⟩)]
theorem zc9 (x : Sp) (w : World) : Calls Tryz.prog 41 #[.agg #[.int .i64 x.kind, .int .i64 x.addr, .int .i64 x.val, .int .i64 x.block, .int .i64 x.rc.kind, .int .i64 x.rc.seq, .int .i64 x.rc.addr, .int .i64 x.rc.val]] w fun e w' =>
 e = .returned (actV x.kind w.heap.size) ∧ w' = w.alloc (.cells #[.int .i64 x.kind, .int .i64 x.addr, .int .i64 x.val, .int .i64 x.block, .int .i64 x.rc.kind, .int .i64 x.rc.seq, .int .i64 x.rc.addr, .int .i64 x.rc.val] 81) := by
 have hmf : ∀ (fn : Fn) (first cap : Array Value) (w : World), (Instr.makeFunc fn first cap).run Tryz.prog w = .ok (.func fn first cap) w := fun _ _ _ _ => rfl
 obtain ⟨k, a, v, b, rc⟩ := x
 dsimp only
 by_cases h1 : k = 1
 . subst h1
   have hv : Hid (actV 1 w.heap.size = .func (.func 76) #[] #[.pointer (some ⟨w.heap.size, 0, none⟩)]) := rfl
   go_enter Tryz.func41, Tryz.ntmps41
   go_wp2
   go_ret
   exact ⟨by rw [hv.out]; rfl, rfl⟩
 by_cases h2 : k = 2
 . subst h2
   have hv : Hid (actV 2 w.heap.size = .func (.func 77) #[] #[.pointer (some ⟨w.heap.size, 0, none⟩)]) := rfl
   go_enter Tryz.func41, Tryz.ntmps41
   go_wp2
   go_ret
   exact ⟨by rw [hv.out]; rfl, rfl⟩
 have hv : Hid (actV k w.heap.size = .func (.func 79) #[] #[.pointer (some ⟨w.heap.size, 0, none⟩)]) := by unfold Hid actV; rw [if_neg h1, if_neg h2]
 go_enter Tryz.func41, Tryz.ntmps41
 go_wp2
 go_ret
 exact ⟨by rw [hv.out]; rfl, rfl⟩
theorem zjo (qb c : Nat) (A : Option Addr) (w : World) (hq : w.cell? ⟨qb, 0, none⟩ = some (.slice A 0 c)) :
 Calls Tryz.prog 43 #[.pointer (some ⟨qb, 0, none⟩)] w fun e w' => e = .returned (.tuple #[.nilFunc, .bool false]) ∧ w' = w := by
 go_enter Tryz.func43, Tryz.ntmps43
 go_wp2
 go_ret2
 exact ⟨rfl, rfl⟩
theorem zlk (qb wb wo n c : Nat) (v : Value) (w : World) (hq : w.cell? ⟨qb, 0, none⟩ = some (.slice (some ⟨wb, wo, none⟩) (n + 1) c)) (hf : w.frozen? ⟨qb, 0, none⟩ = false) (hv : w.cell? ⟨wb, wo, none⟩ = some v) (hv1 : v.oneCell' = true) (hc : n + 1 ≤ c) (hn : n < 1000000000000) :
 Calls Tryz.prog 43 #[.pointer (some ⟨qb, 0, none⟩)] w fun e w' => e = .returned (.tuple #[v, .bool true]) ∧ ∃ A', w' = w.setCell ⟨qb, 0, none⟩ (.slice A' n (c - 1)) ∧ (n ≠ 0 -> A' = some ⟨wb, wo + 1, none⟩) := by
 have h1 : (((n + 1 : Nat) : Int) == 0) = false := by rw [beq_eq_false_iff_ne]; omega
 have h2 : 0 < n + 1 := by omega
 have HC := Lib.hid hc
 go_enter Tryz.func43, Tryz.ntmps43
 go_wp2
 all_goals go_ret2
 all_goals refine ⟨rfl, _, rfl, fun hn0 => ?_⟩
 all_goals have hc' := HC.out
 all_goals first | rfl | (exfalso; omega) | (rw [if_neg (by omega)])
end
end Go.Proofs.YtclnogfmmekooaaGreat
open Go.RowKit Go.IntWalk Go.Maps
namespace Go.Proofs.YtclnogfmmekooaaGreat
section
theorem Tryz.info3_action : (Tryz.prog.info? 84).map (fun i => (i.zero, i.size, i.bytes)) = some (some .nilFunc, 1, 8) := by kernel_rfl
def st0 : St := ⟨[], []⟩
def toR (s : St) (xs : List Sp) (cut : Int) (torn : Bool) : St × Bool := if cut < 0 ∨ xg s = false ∨ allB xs = false then (st0, false) else (doTo s xs cut torn, true)
def FlAt (w : World) (lo : Nat) (A : Option Addr) (f : List Bk) : Prop := ∃ hs, Bks w A f hs ∧ ∀ b, fblk A hs b -> lo ≤ b
theorem FlAt.fl {w : World} {lo : Nat} {A : Option Addr} {f : List Bk} (h : FlAt w lo A f) : Fl w A f := by obtain ⟨hs, h, _⟩ := h; exact ⟨hs, h⟩
theorem FlAt.nil (w : World) (lo : Nat) : FlAt w lo none [] := ⟨[], ⟨rfl, Row.nil _ _, fun i b x h => by simp at h⟩, fun b h => (h.elim (fun h => by cases h) (fun ⟨i, x, h, _⟩ => by simp at h))⟩
def qy (r : St × Bool) (w : World) (e : Ending) (w' : World) : Prop :=
 ∃ A c D d, e = .returned (.tuple #[.agg #[.slice A r.1.flash.length c, .slice D r.1.disk.length d], .bool r.2]) ∧ FlAt w' w.heap.size A r.1.flash ∧ Row w' D (ints r.1.disk) ∧ (∀ b, blk D b -> w.heap.size ≤ b) ∧ Below w.heap.size w w'
theorem qy.fail {w w' : World} (h : Below w.heap.size w w') : qy (st0, false) w (.returned (.tuple #[.agg #[.slice none 0 0, .slice none 0 0], .bool false])) w' := ⟨none, 0, none, 0, rfl, FlAt.nil _ _, Row.nil _ _, (fun b hb => by cases hb), h⟩
def za1 (r : St × Bool) (w : World) (e : Ending) (w' : World) : Prop :=
 ∃ A c D d, e = .returned (.tuple #[.agg #[.slice A r.1.flash.length c, .slice D r.1.disk.length d], .bool r.2]) ∧ OSt w' w.heap.size w'.heap.size A r.1.flash D r.1.disk ∧ Below w.heap.size w w'
theorem za1.fail {w w' : World} (h : Below w.heap.size w w') : za1 (st0, false) w (.returned (.tuple #[.agg #[.slice none 0 0, .slice none 0 0], .bool false])) w' :=
 ⟨none, 0, none, 0, rfl, ⟨[], ⟨rfl, Row.nil _ _, fun i b x h => absurd h (by simp [st0])⟩, ⟨fun b hb => (by cases hb), fun i x b h => by simp at h, fun i j x y b h => by simp at h⟩, Row.nil _ _, fun b hb => (by cases hb)⟩, h⟩
theorem za1.post {r : St × Bool} {w w' : World} {e : Ending} (h : za1 r w e w') : qy r w e w' := by
 obtain ⟨A, c, D, d, rfl, ⟨hs, h1, h2, h3, h4⟩, hb⟩ := h
 exact ⟨A, c, D, d, rfl, ⟨hs, h1, fun b hb => (h2.fblk hb).1⟩, h3, fun b hb => (h4 b hb).1, hb⟩
def Y6 : List Sp -> List Nat -> List Value
 | x :: xs, b :: bs => actV x.kind b :: Y6 xs bs
 | _, _ => []
theorem zcj {x : Sp} {b : Nat} : ∀ {xs : List Sp} {bs : List Nat}, bs.length = xs.length -> Y6 (xs ++ [x]) (bs ++ [b]) = Y6 xs bs ++ [actV x.kind b]
 | [], [], _ => rfl
 | y :: xs, c :: bs, h => by simp only [List.cons_append, Y6]; rw [zcj (by simpa using h)]
 | [], _ :: _, h => by simp at h
 | _ :: _, [], h => by simp at h
theorem zfs {x : Sp} {b : Nat} : ∀ {xs : List Sp} {bs : List Nat} {j : Nat}, xs[j]? = some x -> bs[j]? = some b -> (Y6 xs bs)[j]? = some (actV x.kind b)
 | [], _, _, h, _ => by simp at h
 | _ :: _, [], _, _, h => by simp at h
 | y :: xs, c :: bs, 0, h, h' => by simp at h h'; subst h; subst h'; rfl
 | y :: xs, c :: bs, j + 1, h, h' => by simp only [Y6, List.getElem?_cons_succ] at *; exact zfs h h'
theorem zk0 {w : World} {base n : Nat} {t : TypeId} {v : Value} {xs : List Value} (h : w.ownsRow base t 1 v n xs) : ∃ A c, v = .slice A n c ∧ n ≤ c ∧ Row w A xs ∧ (∀ b, blk A b -> base ≤ b ∧ b < w.heap.size ∧ v.ownBlock = some b) ∧ (0 < n -> ∃ g, A = some ⟨g, 0, none⟩) := by
 have h' := h
 obtain ⟨hl, ⟨hv, hz⟩ | ⟨g, cap, cur, hv, hb, hh, hnc, hm, hs, ht⟩⟩ := h
 . subst hz
   have hxs : xs = [] := List.eq_nil_of_length_eq_zero (by simpa using hl)
   subst hxs
   exact ⟨none, 0, hv, Nat.le_refl _, Row.nil _ _, (fun b hb => by cases hb), fun e => absurd e (by omega)⟩
 . refine ⟨some ⟨g, 0, none⟩, cap, hv, hnc, ?_, fun b hb' => ?_, fun _ => ⟨g, rfl⟩⟩
   . rw [hv] at h'; exact Row.of_own h'
   . rw [zg] at hb'
     subst hb'
     exact ⟨hb, (Array.getElem?_eq_some_iff.1 hh).1, by rw [hv]; rfl⟩
def Yg (w : World) (top : Nat) (xs : List Sp) (bs : List Nat) : Prop := ∀ (j : Nat) (x : Sp) (b : Nat), xs[j]? = some x -> bs[j]? = some b -> Row w (some ⟨b, 0, none⟩) x.vs ∧ top < b ∧ b < w.heap.size
theorem Yg.keep {w w' : World} {top : Nat} {xs : List Sp} {bs : List Nat} (h : Yg w top xs bs) (hs : w.heap.size ≤ w'.heap.size) (hk : ∀ b, b ∈ bs -> w'.heap[b]? = w.heap[b]?) : Yg w' top xs bs := fun j x b hx hb => by
 obtain ⟨h1, h2, h3⟩ := h j x b hx hb
 exact ⟨h1.keep fun c hc _ => by rw [zg] at hc; subst hc; exact hk _ (List.mem_of_getElem? hb), h2, by omega⟩
theorem Yg.below {w w' : World} {top : Nat} {xs : List Sp} {bs : List Nat} (h : Yg w top xs bs) (hl : bs.length ≤ xs.length) (hb : Below w.heap.size w w') : Yg w' top xs bs := h.keep hb.size fun b hm => by
 obtain ⟨j, hj⟩ := List.getElem?_of_mem hm
 obtain ⟨x, hx⟩ := zd (l := xs) (k := j) (by have := (List.getElem?_eq_some_iff.1 hj).1; omega)
 exact hb.block b (h j x b hx hj).2.2
theorem Yg.snoc {w : World} {top : Nat} {xs : List Sp} {bs : List Nat} {x : Sp} {b : Nat} (h : Yg w top xs bs) (hx : xs[bs.length]? = some x) (hr : Row w (some ⟨b, 0, none⟩) x.vs) (h1 : top < b) (h2 : b < w.heap.size) : Yg w top xs (bs ++ [b]) := fun j y c hy hc => by
 by_cases hj : j < bs.length
 . rw [List.getElem?_append_left hj] at hc
   exact h j y c hy hc
 . rw [List.getElem?_append_right (by omega)] at hc
   have hj2 : j = bs.length := by
    by_cases hz : j - bs.length = 0
    . omega
    . rw [List.getElem?_eq_none (by simp; omega)] at hc; cases hc
   subst hj2
   rw [hx] at hy
   cases hy
   simp at hc
   subst hc
   exact ⟨hr, h1, h2⟩
theorem zh5 (s : St) (x : Sp) (torn : Bool) (lo ob sb fn : Nat) (w : World) (hfn : actV x.kind sb = .func (.func fn) #[] #[.pointer (some ⟨sb, 0, none⟩)]) (hx : je x = true) (hok : zc s.flash = true) (h6 : s.disk.length = 6) (hH : Hold w lo ob s) (hS : Row w (some ⟨sb, 0, none⟩) x.vs) (hsb : sb < lo) :
 Calls Tryz.prog fn #[.pointer (some ⟨ob, 0, none⟩), .bool torn, .pointer (some ⟨sb, 0, none⟩)] w fun e w' => e = .returned (.tuple #[]) ∧ Hold w' lo ob (zr s x torn) ∧ Below lo w w' := by
 rcases zi6 hx with hk | hk | hk
 . have : fn = 76 := by rw [hk] at hfn; simp [actV] at hfn; exact hfn.symm
   rw [this]; exact zlo s x torn lo ob sb w hk hx h6 hH hS hsb
 . have : fn = 77 := by rw [hk] at hfn; simp [actV] at hfn; exact hfn.symm
   rw [this]; exact zln s x torn lo ob sb w hk hx hok h6 hH hS hsb
 . have : fn = 79 := by rw [hk] at hfn; simp [actV] at hfn; exact hfn.symm
   rw [this]; exact zlm s x torn lo ob sb w hk hx hok h6 hH hS hsb
theorem zci {k : Int} {b fn : Nat} (h : actV k b = .func (.func fn) #[] #[.pointer (some ⟨b, 0, none⟩)]) : ∀ (args : Array Value) (w : World), (callFunc fn args).run Tryz.prog w = .ok (.enter fn args) w := by
 have h1 : (if k = 1 then 76 else if k = 2 then 77 else 79) = fn := by simpa [actV] using h
 have h2 : fn = 76 ∨ fn = 77 ∨ fn = 79 := by
  rw [← h1]
  split
  . exact .inl rfl
  . split
    . exact .inr (.inl rfl)
    . exact .inr (.inr rfl)
 rcases h2 with h2 | h2 | h2
 . subst h2; intro args w; exact enters_of Tryz.func76 (by kernel_rfl) rfl args w
 . subst h2; intro args w; exact enters_of Tryz.func77 (by kernel_rfl) rfl args w
 . subst h2; intro args w; exact enters_of Tryz.func79 (by kernel_rfl) rfl args w
theorem Hold.told {w w' : World} {lo ob rb : Nat} {t : St} {A D : Option Addr} {c d : Nat} {W : World} (hH : Hold w lo ob t) (o0 : w.cell? ⟨ob, 0, none⟩ = some (.slice A 4 c)) (o1 : w.cell? ⟨ob, 1, none⟩ = some (.slice D 6 d)) (h4 : t.flash.length = 4) (h6 : t.disk.length = 6) (hr : rb < lo) (hr0 : W.heap.size ≤ rb) 
 (hB : Below W.heap.size W w) (u0 u1 : Value) (hw : w' = (w.setCell ⟨rb, 0, none⟩ u0).setCell ⟨rb, 1, none⟩ u1) :
 za1 (t, true) W (.returned (.tuple #[.agg #[.slice A 4 c, .slice D 6 d], .bool true])) w' := by
 have hk : ∀ b, lo ≤ b -> b < w.heap.size -> w'.heap[b]? = w.heap[b]? := fun b hb _ => by
  rw [hw, Below.heap_setCell _ _ _ _ (show b ≠ rb by omega), Below.heap_setCell _ _ _ _ (show b ≠ rb by omega)]
 have hH' := hH.far hk
 have hob : lo ≤ ob := by obtain ⟨_, _, _, _, _, _, _, _, _, h, _⟩ := hH; exact h
 have hh := hk ob hob (ze o0)
 obtain ⟨A', c', D', d', hs, p0, p1, _, _, _, ⟨hi, hApt, hle⟩, hBk, hD, hfb, hdb⟩ := hH'
 have e0 := (World.cell?_of_block (a := ⟨ob, 0, none⟩) hh).trans o0
 have e1 := (World.cell?_of_block (a := ⟨ob, 1, none⟩) hh).trans o1
 rw [p0] at e0
 rw [p1] at e1
 cases e0; cases e1
 refine ⟨A, c, D, d, by dsimp only; rw [h4, h6], ⟨hs, hBk, hApt.mono (by omega) hle, hD, fun b hb => ⟨by have := (hdb b hb).1; omega, hD.lt (yc (by intro e; rw [e] at h6; simp at h6)) hb, fun e => (hdb b hb).2.2 (.inl e), fun i x hx e => (hdb b hb).2.2 (.inr ⟨i, x, hx, e⟩)⟩⟩, ?_⟩
 rw [hw]
 exact (hB.setCell (p := ⟨rb, 0, none⟩) hr0 _).setCell (p := ⟨rb, 1, none⟩) hr0 _
end
end Go.Proofs.YtclnogfmmekooaaGreat
open Go.RowKit Go.IntWalk Go.Maps
namespace Go.Proofs.YtclnogfmmekooaaGreat
section
theorem zje {qb k c2 g2 cq : Nat} {Aq : Option Addr} {w2 w3 : World} {xs : List Sp} {bs : List Nat} {x : Sp} {F : Value} {t : TypeId} (hx : xs[k]? = some x) (hbl : bs.length = k) (hF : actV x.kind w2.heap.size = F)
 (hown : w2.ownsRow (qb + 1) t 1 (.slice Aq k cq) k (Y6 (xs.take k) bs)) (hW : Yg w2 qb xs bs) (hvb : ∀ b, b ∈ bs -> (Value.slice Aq k cq).ownBlock ≠ some b) (hqb : qb < w2.heap.size) (y2 : w3.cell? ⟨qb, 0, none⟩ = some (.slice Aq k cq)) (y3 : w3.frozen? ⟨qb, 0, none⟩ = false)
 (hown2 : w3.ownsRow (qb + 1) t 1 (.slice (some ⟨g2, 0, none⟩) (k + 1) c2) (k + 1) (Y6 (xs.take k) bs ++ [F])) (hg : ((w2.alloc (.cells #[.int .i64 x.kind, .int .i64 x.addr, .int .i64 x.val, .int .i64 x.block, .int .i64 x.rc.kind, .int .i64 x.rc.seq, .int .i64 x.rc.addr, .int .i64 x.rc.val] 81)).alloc (.cells #[F] t)).drew.grownBy w3 (Value.slice Aq k cq).ownBlock) (hat : (Value.slice Aq k cq).ownBlock = some g2 ∨ g2 = w2.heap.size + 1 + 1) :
 (w3.setCell ⟨qb, 0, none⟩ (.slice (some ⟨g2, 0, none⟩) (k + 1) c2)).cell? ⟨qb, 0, none⟩ = some (.slice (some ⟨g2, 0, none⟩) (k + 1) c2) ∧ (w3.setCell ⟨qb, 0, none⟩ (.slice (some ⟨g2, 0, none⟩) (k + 1) c2)).frozen? ⟨qb, 0, none⟩ = false ∧
 (w3.setCell ⟨qb, 0, none⟩ (.slice (some ⟨g2, 0, none⟩) (k + 1) c2)).ownsRow (qb + 1) t 1 (.slice (some ⟨g2, 0, none⟩) (k + 1) c2) (k + 1) (Y6 (xs.take (k + 1)) (bs ++ [w2.heap.size])) ∧
 Yg (w3.setCell ⟨qb, 0, none⟩ (.slice (some ⟨g2, 0, none⟩) (k + 1) c2)) qb xs (bs ++ [w2.heap.size]) ∧ (∀ b, b ∈ bs ++ [w2.heap.size] -> (Value.slice (some ⟨g2, 0, none⟩) (k + 1) c2).ownBlock ≠ some b) := by
 have hlt := (List.getElem?_eq_some_iff.1 hx).1
 have hob : ∀ q, (Value.slice Aq k cq).ownBlock = some q -> q < w2.heap.size := fun q e => (World.ownsRow.lt hown q e).2
 have hg2 := World.ownsRow.lt hown2 g2 rfl
 have hW1 := z8 y2 (.slice (some ⟨g2, 0, none⟩) (k + 1) c2)
 have hblk : ∀ b, b < w2.heap.size + 1 -> b ≠ qb -> (Value.slice Aq k cq).ownBlock ≠ some b -> (w3.setCell ⟨qb, 0, none⟩ (.slice (some ⟨g2, 0, none⟩) (k + 1) c2)).heap[b]? = (w2.alloc (.cells #[.int .i64 x.kind, .int .i64 x.addr, .int .i64 x.val, .int .i64 x.block, .int .i64 x.rc.kind, .int .i64 x.rc.seq, .int .i64 x.rc.addr, .int .i64 x.rc.val] 81)).heap[b]? := fun b hb hq hn => by
  rw [hW1.block b hq]
  obtain ⟨_, _, _, _, h5⟩ := hg
  refine (h5 b (by show b < ((w2.alloc _).alloc _).heap.size; simp; omega) (fun e => hn e.symm)).trans ?_
  exact Below.heap_alloc _ _ _ (by simpa using hb)
 have hs3 : w2.heap.size + 2 ≤ w3.heap.size := by obtain ⟨_, _, _, h4, _⟩ := hg; have h4' : ((w2.alloc (.cells #[.int .i64 x.kind, .int .i64 x.addr, .int .i64 x.val, .int .i64 x.block, .int .i64 x.rc.kind, .int .i64 x.rc.seq, .int .i64 x.rc.addr, .int .i64 x.rc.val] 81)).alloc (.cells #[F] t)).heap.size ≤ w3.heap.size := h4; simpa using h4'
 have htk : xs.take (k + 1) = xs.take k ++ [x] := by rw [List.take_add_one, hx]; rfl
 have hmem : ∀ b, b ∈ bs -> qb < b ∧ b < w2.heap.size := fun b hb => by
  obtain ⟨j, hj⟩ := List.getElem?_of_mem hb
  obtain ⟨y, hy⟩ := zd (l := xs) (k := j) (by have := (List.getElem?_eq_some_iff.1 hj).1; omega)
  exact (hW j y b hy hj).2
 refine ⟨hW1.new_ 0 _ rfl, by rw [hW1.frozen]; exact y3, ?_, ?_, fun b hb e => ?_⟩
 . refine ownsRow_setCell_other ?_ (fun e => ?_) _
   . rw [htk, zcj (by rw [hbl, List.length_take]; omega), hF]; exact hown2
   . have e' : g2 = qb := by simpa [Value.ownBlock] using e
     have := hg2.1; omega
 . refine Yg.snoc (hW.keep (by rw [hW1.size]; omega) fun b hb => ?_) (by rw [hbl]; exact hx) ?_ (by omega) (by rw [hW1.size]; omega)
   . have := hmem b hb
     rw [hblk b (by omega) (by omega) (hvb b hb)]
     exact Below.heap_alloc _ _ _ this.2
   . refine (Row.new w2 #[.int .i64 x.kind, .int .i64 x.addr, .int .i64 x.val, .int .i64 x.block, .int .i64 x.rc.kind, .int .i64 x.rc.seq, .int .i64 x.rc.addr, .int .i64 x.rc.val] 81).keep fun b hb _ => ?_
     rw [zg] at hb
     subst hb
     exact hblk _ (by omega) (by omega) (fun e => by have := hob _ e; omega)
 . have e' : g2 = b := by simpa [Value.ownBlock] using e
   subst e'
   rcases List.mem_append.1 hb with hb | hb
   . rcases hat with h | h
     . exact hvb _ hb h
     . have := hmem _ hb; omega
   . rw [List.mem_singleton] at hb
     rcases hat with h | h
     . have := hob _ h; omega
     . omega
theorem Xi (s : St) (xs : List Sp) (cut : Int) (torn : Bool) (A D V : Option Addr) (n m c d cs : Nat) (w : World) (hn : n = s.flash.length) (hm : m = s.disk.length) (hl : xs.length < 1000000000000) (hF : Fl w A s.flash) (hD : Row w D (ints s.disk)) (hX : Row w V (sps xs)) :
 Calls Tryz.prog 17 #[.agg #[.slice A n c, .slice D m d], .slice V xs.length cs, .int .i64 cut, .bool torn] w (za1 (toR s xs cut torn) w) := by
 have hB0 : Below w.heap.size w ((w.alloc (.cells #[.slice A n c, .slice D m d] 28)).alloc (.cells #[.slice none 0 0, .slice none 0 0] 28)) := bw
 have HSO := Lib.hid (j8 s A D n m c d _ hn hm (hF.below hB0 nl) (hD.below hB0 nl))
 by_cases hc : cut < 0
 . have hfin : Hid (toR s xs cut torn = (st0, false)) := by unfold Hid toR; rw [if_pos (.inl hc)]
   clear HSO hn hm
   go_enter Tryz.func17, Tryz.ntmps17
   go_wp2
   refine bodyPost_ret (v := .tuple #[.agg #[.slice none 0 0, .slice none 0 0], .bool false]) (by simp [results, Tryz.results17, go_sem]) rfl ?_
   rw [hfin.out]
   exact za1.fail bw
 . by_cases hok : xg s = true
   . rw [hok] at HSO
     obtain ⟨h4, h6, hfl, hp4⟩ : s.flash.length = 4 ∧ s.disk.length = 6 ∧ zc s.flash = true ∧ xy s := by
      have k := xx.1 hok
      exact ⟨zf k.flash, k.len, k.flash, k.fine⟩
     have hfin : Hid (toR s xs cut torn = if allB xs = false then (st0, false) else (doTo s xs cut torn, true)) := by
      unfold Hid toR
      by_cases hb : allB xs = false
      . rw [if_pos (.inr (.inr hb)), if_pos hb]
      . rw [if_neg (by rintro (e | e | e); exact hc e; rw [hok] at e; cases e; exact hb e), if_neg hb]
     obtain rfl : n = 4 := by omega
     obtain rfl : m = 6 := by omega
     have hc' : ¬ cut < 0 := hc
     have HFL := Lib.hid hfl
     have HFI := Lib.hid hp4
     have H6 := Lib.hid h6
     clear hok h4 h6 hfl hp4 hn hm
     obtain ⟨ib, hib, hbz0, hbz1, hbz2⟩ := info_parts Tryz.info3_action
     go_enter Tryz.func17, Tryz.ntmps17
     go_wp2_with (go_at_call 11; with_reducible refine HSO.out.mono ?_; rintro e w1 ⟨rfl, hb⟩)
     have hB1 : Below w.heap.size w w1 := hB0.trans (hb.mono (by simp; omega))
     have hz1 : w.heap.size + 2 ≤ w1.heap.size := by have := hb.size; simpa using this
     obtain ⟨hcc, hff⟩ := jr hb
     have x0 : w1.cell? ⟨w.heap.size, 0, none⟩ = some (.slice A 4 c) := (hcc _ _ (by simp <;> omega)).trans (by simp)
     have x1 : w1.cell? ⟨w.heap.size, 1, none⟩ = some (.slice D 6 d) := (hcc _ _ (by simp <;> omega)).trans (by simp)
     have r0 : w1.cell? ⟨w.heap.size + 1, 0, none⟩ = some (.slice none 0 0) := (hcc _ _ (by simp)).trans (by simp)
     have r1 : w1.cell? ⟨w.heap.size + 1, 1, none⟩ = some (.slice none 0 0) := (hcc _ _ (by simp)).trans (by simp)
     have q0 : w1.frozen? ⟨w.heap.size + 1, 0, none⟩ = false := (hff _ _ (by simp)).trans (by simp)
     have q1 : w1.frozen? ⟨w.heap.size + 1, 1, none⟩ = false := (hff _ _ (by simp)).trans (by simp)
     have hX1 := hX.below hB1 nl
     clear HSO hb hcc hff hB0
     have hown0 : (w1.alloc (.cells #[.slice none 0 0] 79)).ownsRow (w1.heap.size + 1) 84 1 (.slice none 0 0) 0 (Y6 (xs.take 0) []) := World.ownsRow_nil _ _ _ _
     go_loopw [29] (fun i wr => ∃ (k : Nat) (bs : List Nat) (v : Value), k ≤ xs.length ∧ i = .int .i64 k ∧ bs.length = k ∧ wr.cell? ⟨w1.heap.size, 0, none⟩ = some v ∧ wr.frozen? ⟨w1.heap.size, 0, none⟩ = false ∧ wr.ownsRow (w1.heap.size + 1) 84 1 v k (Y6 (xs.take k) bs) ∧
      Yg wr w1.heap.size xs bs ∧ (∀ b, b ∈ bs -> v.ownBlock ≠ some b) ∧ Below w1.heap.size w1 wr ∧ w1.heap.size < wr.heap.size ∧ Hid (allB xs = allB (xs.drop k))) (fun i _ => xs.length - (intOf i).toNat)
     case atStart => exact ⟨0, [], _, by omega, rfl, rfl, by simp, by simp, hown0, (fun j x b hx hb => (by simp at hb)), (fun b hb => (by cases hb)), bw, by simp, rfl⟩
     case round =>
      obtain ⟨k, bs, v, hk, rfl, hbl, y0, y1, hown, hW, hvb, hB, hz, hT⟩ := hrel
      clear hown0
      by_cases hlt : k < xs.length
      . obtain ⟨x, hx⟩ := zd hlt
        have hXr := hX1.below hB nl
        obtain ⟨vb, vo, rfl⟩ := hXr.addr (by intro e; have := Zl xs; rw [e] at this; simp at this; omega)
        obtain ⟨c0, c1, c2, c3, c4, c5, c6, c7⟩ := hXr.sp hx
        have hk1 : (k : Int) < xs.length := by omega
        have e1 : IntKind.i64.wrap ((k : Int) + 1) = (k : Int) + 1 := IntWalk.i64_in _ (by omega)
        have hT2 : Hid (allB xs = (je x && allB (xs.drop (k + 1)))) := by rw [Hid, hT.out, zu hx]; rfl
        have htk : Hid (xs.take (k + 1) = xs.take k ++ [x]) := by rw [Hid, List.take_add_one, hx]; rfl
        have HX := Lib.hid hx
        clear hx hT hXr
        go_wp2_with fail
        with_reducible refine (zg1 x _).mono ?_
        rintro e w2 ⟨rfl, hb2⟩
        obtain ⟨hcc, hff⟩ := jr hb2
        have p0 : w2.cell? ⟨wr.heap.size, 0, none⟩ = some (.int .i64 x.kind) := (hcc _ _ (by simp)).trans (by simp)
        have p1 : w2.cell? ⟨wr.heap.size, 1, none⟩ = some (.int .i64 x.addr) := (hcc _ _ (by simp)).trans (by simp)
        have p2 : w2.cell? ⟨wr.heap.size, 2, none⟩ = some (.int .i64 x.val) := (hcc _ _ (by simp)).trans (by simp)
        have p3 : w2.cell? ⟨wr.heap.size, 3, none⟩ = some (.int .i64 x.block) := (hcc _ _ (by simp)).trans (by simp)
        have p4 : w2.cell? ⟨wr.heap.size, 4, none⟩ = some (.int .i64 x.rc.kind) := (hcc _ _ (by simp)).trans (by simp)
        have p5 : w2.cell? ⟨wr.heap.size, 5, none⟩ = some (.int .i64 x.rc.seq) := (hcc _ _ (by simp)).trans (by simp)
        have p6 : w2.cell? ⟨wr.heap.size, 6, none⟩ = some (.int .i64 x.rc.addr) := (hcc _ _ (by simp)).trans (by simp)
        have p7 : w2.cell? ⟨wr.heap.size, 7, none⟩ = some (.int .i64 x.rc.val) := (hcc _ _ (by simp)).trans (by simp)
        have hs2 : wr.heap.size + 1 ≤ w2.heap.size := by have := hb2.size; simpa using this
        have hB2 : Below wr.heap.size wr w2 := ((Below.refl _ _).alloc nl _).trans (hb2.mono (by simp))
        have hB12 := hB.trans (hB2.mono hB.size)
        replace y0 := (hB2.cell (p := ⟨w1.heap.size, 0, none⟩) hz).trans y0
        replace y1 := (hB2.frozen (p := ⟨w1.heap.size, 0, none⟩) hz).trans y1
        replace hown := ji hown fun b hb hl => hB2.block b hl
        have hW2 := hW.below (by omega) hB2
        clear hb2 hcc hff hW c0 c1 c2 c3 c4 c5 c6 c7
        by_cases hsx : je x = true
        . have hT3 : Hid (allB xs = allB (xs.drop (k + 1))) := by rw [Hid, hT2.out, hsx]; rfl
          rw [hsx]
          clear hT2 hsx
          obtain ⟨Aq, cq, rfl, hcq, hRq, hbq, _⟩ := zk0 hown
          have hnb : ∀ q, (Value.slice Aq k cq).ownBlock = some q -> w1.heap.size + 1 ≤ q := fun q e => (World.ownsRow.lt hown q e).1
          obtain ⟨fn, hfn⟩ : ∃ fn, actV x.kind w2.heap.size = .func (.func fn) #[] #[.pointer (some ⟨w2.heap.size, 0, none⟩)] := ⟨_, rfl⟩
          have hAc : Hid (Calls Tryz.prog 41 #[.agg #[.int .i64 x.kind, .int .i64 x.addr, .int .i64 x.val, .int .i64 x.block, .int .i64 x.rc.kind, .int .i64 x.rc.seq, .int .i64 x.rc.addr, .int .i64 x.rc.val]] w2.drew fun e w' =>
           e = .returned (.func (.func fn) #[] #[.pointer (some ⟨w2.heap.size, 0, none⟩)]) ∧ w' = w2.drew.alloc (.cells #[.int .i64 x.kind, .int .i64 x.addr, .int .i64 x.val, .int .i64 x.block, .int .i64 x.rc.kind, .int .i64 x.rc.seq, .int .i64 x.rc.addr, .int .i64 x.rc.val] 81)) := by
           have := zc9 x w2.drew
           rw [show actV x.kind w2.drew.heap.size = actV x.kind w2.heap.size from rfl, hfn] at this
           exact this
          have HNEW : Hid (((w2.alloc (.cells #[.int .i64 x.kind, .int .i64 x.addr, .int .i64 x.val, .int .i64 x.block, .int .i64 x.rc.kind, .int .i64 x.rc.seq, .int .i64 x.rc.addr, .int .i64 x.rc.val] 81)).alloc (.cells #[.func (.func fn) #[] #[.pointer (some ⟨w2.heap.size, 0, none⟩)]] 84)).heap[w2.heap.size + 1]? = some (.cells #[.func (.func fn) #[] #[.pointer (some ⟨w2.heap.size, 0, none⟩)]] 84 (0, 0))) := by
           have := World.alloc_heap_new (w2.alloc (.cells #[.int .i64 x.kind, .int .i64 x.addr, .int .i64 x.val, .int .i64 x.block, .int .i64 x.rc.kind, .int .i64 x.rc.seq, .int .i64 x.rc.addr, .int .i64 x.rc.val] 81)) (.cells #[.func (.func fn) #[] #[.pointer (some ⟨w2.heap.size, 0, none⟩)]] 84)
           rw [World.size_alloc] at this
           exact this
          have HFN := Lib.hid hfn
          have hz2 : w1.heap.size < w2.heap.size := by omega
          have hz3 : w1.heap.size < w2.heap.size + 1 := by omega
          have hz4 : w1.heap.size ≠ w2.heap.size + 1 := by omega
          have hz5 : w1.heap.size ≠ w2.heap.size := by omega
          have hz6 : wr.heap.size < w2.heap.size := by omega
          clear hfn
          go_wp2
          go_region_law (first | (go_simp; go_at_call 41; refine hAc.out.mono ?_; rintro e w5 ⟨rfl, rfl⟩) | (refine step_append_lies _ (by rfl) (.tmp 38) (.tmp 41) _ (by rfl) (w1.heap.size + 1) 84 ib _ 1 8 Tryz.underlying77 hib hbz0 hbz1 hbz2 rfl (by omega) (.slice Aq k cq) k (Y6 (xs.take k) bs) (by rfl) (World.ownsRow.drew (World.ownsRow.alloc (World.ownsRow.alloc hown _) _)) ⟨w2.heap.size + 1, 0, none⟩ 1 1 [.func (.func fn) #[] #[.pointer (some ⟨w2.heap.size, 0, none⟩)]] (by rfl) (by rfl) (World.news_of_block (cs := #[.func (.func fn) #[] #[.pointer (some ⟨w2.heap.size, 0, none⟩)]]) (t := 84) (fr := (0, 0)) HNEW.out) (by simp [Value.oneCell']) (by omega) (by unfold maxLen; omega) (by omega) (by simp; omega) (w2.heap.size + 1 + 1) (by simp) ?_; intro g2 c2 w3 hown2 hgrow2 hat2 hlt2; have hbb : Below (w1.heap.size + 1) w2 w3 := (((((Below.refl _ _).alloc (by omega) _).alloc (by simp; omega) _).drew).grown hgrow2 (by simp; omega) hnb); have y2 := (hbb.cell (p := ⟨w1.heap.size, 0, none⟩) (by show w1.heap.size < _; omega)).trans y0; have y3 := (hbb.frozen (p := ⟨w1.heap.size, 0, none⟩) (by show w1.heap.size < _; omega)).trans y1))
          all_goals
           have hQ := zje HX.out hbl HFN.out hown hW2 hvb hz2 y2 y3 hown2 hgrow2 hat2
           have hBn : Below w1.heap.size w1 (w3.setCell ⟨w1.heap.size, 0, none⟩ (.slice (some ⟨g2, 0, none⟩) (k + 1) c2)) := (hB12.trans (hbb.mono (by omega))).setCell nl _
           have hs3 := hbb.size
           clear hown hW2 hvb hown2 hgrow2 hat2 hAc hRq hbq
           go_wp2
           go_roundw
           case rel => exact ⟨k + 1, bs ++ [w2.heap.size], _, by omega, by go_num, by simp [hbl], hQ.1, hQ.2.1, hQ.2.2.1, hQ.2.2.2.1, hQ.2.2.2.2, hBn, by simp; omega, hT3⟩
           case measure => simp [intOf]; omega
        . have hsf : je x = false := by simpa using hsx
          have hT3 : Hid (toR s xs cut torn = (st0, false)) := by rw [Hid, hfin.out, hT2.out, hsf]; rfl
          rw [hsf]
          have rr0 := (hB12.cell (p := ⟨w.heap.size + 1, 0, none⟩) (by show w.heap.size + 1 < _; omega)).trans r0
          have rr1 := (hB12.cell (p := ⟨w.heap.size + 1, 1, none⟩) (by show w.heap.size + 1 < _; omega)).trans r1
          have qq0 := (hB12.frozen (p := ⟨w.heap.size + 1, 0, none⟩) (by show w.heap.size + 1 < _; omega)).trans q0
          have qq1 := (hB12.frozen (p := ⟨w.heap.size + 1, 1, none⟩) (by show w.heap.size + 1 < _; omega)).trans q1
          have hzr : w.heap.size + 1 < w2.heap.size := by omega
          have hBw := hB1.trans (hB12.mono hB1.size)
          clear hT2 hsx hsf hfin hown
          go_wp2
          refine bodyPost_ret (v := .tuple #[.agg #[.slice none 0 0, .slice none 0 0], .bool false]) (by simp [results, Tryz.results17, go_sem, hzr, rr0, rr1]) rfl ?_
          rw [hT3.out]
          refine za1.fail ?_
          refine Below.setCell (Below.setCell hBw ?_ _) ?_ _ <;> (show w.heap.size ≤ w.heap.size + 1; omega)
      . have hk' : k = xs.length := by omega
        have hki : (xs.length : Int) ≤ k := by omega
        have hall : allB xs = true := by rw [hT.out, hk', List.drop_length]; rfl
        have hfin2 : Hid (toR s xs cut torn = (doTo s xs cut torn, true)) := by rw [Hid, hfin.out, if_neg (by rw [hall]; simp)]
        obtain ⟨Aq, cq, rfl, hcq, hRq, hbq, hgq⟩ := zk0 hown
        obtain ⟨w4, rfl⟩ : ∃ w4 : World, w4 = wr := ⟨_, rfl⟩
        have HSC := Lib.hid (Zm s A D c d w4 HFI.out (hF.below (hB1.trans (hB.mono hB1.size)) nl) (hD.below (hB1.trans (hB.mono hB1.size)) nl))
        have hBs := hB.size
        have b0 := (hB.cell (p := ⟨w.heap.size, 0, none⟩) (by show w.heap.size < _; omega)).trans x0
        have b1 := (hB.cell (p := ⟨w.heap.size, 1, none⟩) (by show w.heap.size < _; omega)).trans x1
        have HK := Lib.hid hk'
        have HA := Lib.hid hall
        clear hT hfin hown hvb hk' hk hlt hall hX hX1
        go_wp2_with fail
        with_reducible refine HSC.out.mono ?_
        rintro e w5 ⟨g0, d0, rfl, hO, hb5⟩
        have hs5 := hb5.size
        have hH0 := Hold.new (c := 4) (d := 6) hO hs5
        have hB5 : Below w4.heap.size w4 (w5.alloc (.cells #[.slice (some ⟨g0, 0, none⟩) 4 4, .slice (some ⟨d0, 0, none⟩) 6 6] 28)) := hb5.alloc hs5 _
        have hA0 : Agr (fun b => b = w1.heap.size ∨ w4.heap.size ≤ b) w4 (w5.alloc (.cells #[.slice (some ⟨g0, 0, none⟩) 4 4, .slice (some ⟨d0, 0, none⟩) 6 6] 28)) := Agr.of_below hB5
        have z0 := (hB5.cell (p := ⟨w1.heap.size, 0, none⟩) hz).trans y0
        have z1 := (hB5.frozen (p := ⟨w1.heap.size, 0, none⟩) hz).trans y1
        clear HSC hO hb5 hB5
        go_wp2
        go_loopw [14] (fun i wr => ∃ (j : Nat) (Aj : Option Addr), j ≤ xs.length ∧ (j : Int) ≤ cut ∧ i = .int .i64 j ∧ wr.cell? ⟨w1.heap.size, 0, none⟩ = some (.slice Aj (k - j) (cq - j)) ∧ wr.frozen? ⟨w1.heap.size, 0, none⟩ = false ∧ (j < xs.length -> ∃ g, Aq = some ⟨g, 0, none⟩ ∧ Aj = some ⟨g, j, none⟩) ∧
         Hold wr w4.heap.size w5.heap.size (zt s (xs.take j)) ∧ Agr (fun b => b = w1.heap.size ∨ w4.heap.size ≤ b) w4 wr) (fun i _ => cut.toNat - (intOf i).toNat)
        case atStart => exact ⟨0, Aq, by omega, by omega, rfl, z0, z1, fun h => (by obtain ⟨g, hg⟩ := hgq (by have := HK.out; omega); exact ⟨g, hg, hg⟩), hH0, hA0⟩
        case round =>
         obtain ⟨j, Aj, hj, hjc, rfl, y0, y1, hAj, hH, hAg⟩ := hrel
         have hk' := HK.out
         have hall := HA.out
         have hsr := hAg.size
         have rr0 := (hAg.cell (by omega) (by omega) 0).trans ((hB.cell (p := ⟨w.heap.size + 1, 0, none⟩) (by show w.heap.size + 1 < _; omega)).trans r0)
         have rr1 := (hAg.cell (by omega) (by omega) 1).trans ((hB.cell (p := ⟨w.heap.size + 1, 1, none⟩) (by show w.heap.size + 1 < _; omega)).trans r1)
         have qq0 := (hAg.fz (by omega) (by omega) 0).trans ((hB.frozen (p := ⟨w.heap.size + 1, 0, none⟩) (by show w.heap.size + 1 < _; omega)).trans q0)
         have qq1 := (hAg.fz (by omega) (by omega) 1).trans ((hB.frozen (p := ⟨w.heap.size + 1, 1, none⟩) (by show w.heap.size + 1 < _; omega)).trans q1)
         have hBr : Below w.heap.size w wr := (hB1.trans (hB.mono hB1.size)).trans (hAg.below (by omega) (fun b hb => by omega))
         have hobl : w5.heap.size < wr.heap.size := by obtain ⟨_, _, _, _, _, o0, _⟩ := hH; exact ze o0
         clear hA0 z0 z1 hH0
         by_cases hjl : j < xs.length
         . obtain ⟨x, hx⟩ := zd (l := xs) (k := j) hjl
           obtain ⟨b, hb⟩ := zd (l := bs) (k := j) (by omega)
           obtain ⟨hRx, hb1, hb2⟩ := hW j x b hx hb
           obtain ⟨g, rfl, rfl⟩ := hAj hjl
           have hsx : je x = true := Qc.1 hall x (List.mem_of_getElem? hx)
           obtain ⟨fn, hfn⟩ : ∃ fn, actV x.kind b = .func (.func fn) #[] #[.pointer (some ⟨b, 0, none⟩)] := ⟨_, rfl⟩
           have hcg := (hRq.at0 (j := j) (zfs (x := x) (b := b) (by rw [List.getElem?_take, if_pos (by omega)]; exact hx) hb)).1
           rw [hfn] at hcg
           have hgb := hbq g (zg.2 rfl)
           have hcg2 := (hAg.cell hgb.2.1 (by omega) j).trans hcg
           have hRx2 := hRx.agr hAg (fun c hc => by rw [zg] at hc; subst hc; omega)
           have htk : Hid (xs.take (j + 1) = xs.take j ++ [x]) := by rw [Hid, List.take_add_one, hx]; rfl
           have hds := Yv s hx
           have hgx : xs.getD j ⟨0, 0, 0, 0, rc0⟩ = x := by rw [List.getD_eq_getElem?_getD, hx]; rfl
           have hkj : k - j = k - j - 1 + 1 := by omega
           rw [hkj] at y0
           have HTK := Lib.hid (zlk w1.heap.size g j (k - j - 1) (cq - j) _ wr y0 y1 hcg2 rfl (by omega) (by omega))
           have hokj : zc (zt s (xs.take j)).flash = true := Yd HFL.out (fun y hy => Qc.1 hall y (List.mem_of_mem_take hy))
           have h6j : (zt s (xs.take j)).disk.length = 6 := (X5 _ _).trans H6.out

           by_cases hcc : (j : Int) < cut
           . have e1 : IntKind.i64.wrap ((j : Int) + 1) = (j : Int) + 1 := IntWalk.i64_in _ (by omega)
             clear hk' hj hki hkj
             go_wp2_with fail
             with_reducible refine HTK.out.mono ?_
             rintro e w7 ⟨rfl, A', rfl, hA'⟩
             have hH7 : Hold (wr.setCell ⟨w1.heap.size, 0, none⟩ (.slice A' (k - j - 1) (cq - j - 1))) w4.heap.size w5.heap.size (zt s (xs.take j)) := hH.far fun b hb _ => Below.heap_setCell _ _ _ _ (show b ≠ w1.heap.size by omega)
             have hR7 : Row (wr.setCell ⟨w1.heap.size, 0, none⟩ (.slice A' (k - j - 1) (cq - j - 1))) (some ⟨b, 0, none⟩) x.vs := hRx2.keep fun c hc _ => by rw [zg] at hc; subst hc; exact Below.heap_setCell _ _ _ _ (show b ≠ w1.heap.size by omega)
             have HAC := Lib.hid (zh5 _ x false w4.heap.size w5.heap.size b fn _ hfn hsx hokj h6j hH7 hR7 hb2)
             have hs8 : ∀ w8, Below w4.heap.size (wr.setCell ⟨w1.heap.size, 0, none⟩ (.slice A' (k - j - 1) (cq - j - 1))) w8 -> w8.cell? ⟨w1.heap.size, 0, none⟩ = some (.slice A' (k - j - 1) (cq - j - 1)) ∧ w8.frozen? ⟨w1.heap.size, 0, none⟩ = false ∧ Agr (fun b => b = w1.heap.size ∨ w4.heap.size ≤ b) w4 w8 := fun w8 hb8 => by
              have hW1 := z8 y0 (.slice A' (k - j - 1) (cq - j - 1))
              refine ⟨(hb8.cell (p := ⟨w1.heap.size, 0, none⟩) hz).trans (hW1.new_ 0 _ rfl), (hb8.frozen (p := ⟨w1.heap.size, 0, none⟩) hz).trans ((hW1.frozen _).trans y1), ?_⟩
              refine (hAg.trans (hW1.agr) (fun i _ e => .inl e)).trans (S' := fun b => w4.heap.size ≤ b) ⟨hb8.os, hb8.tape, hb8.output, hb8.size, fun i _ hn => hb8.block i (by omega)⟩ (fun i _ h => .inr h)
             have HS8 := Lib.hid hs8
             have hen := zci hfn
             clear hs8 HTK hH hH7 hR7 hRx hRx2 hgq hAj hbq hsr hgb
             go_wp2_with (go_at_fn fn; (with_reducible refine HAC.out.mono ?_); rintro e w8 ⟨rfl, hH8, hb8⟩)
             rw [← hds] at hH8
             obtain ⟨n0, n1, n2⟩ := HS8.out w8 hb8
             clear HAC HS8
             go_roundw
             case rel => exact ⟨j + 1, A', by omega, by omega, by go_num, n0, n1, fun h => ⟨g, rfl, hA' (by have := HK.out; omega)⟩, hH8, n2⟩
             case measure => simp [intOf]; omega
           . have hcj : cut = j := by omega
             cases torn
             . -- not torn
               have hds2 : doTo s xs cut false = zt s (xs.take j) := by
                unfold doTo
                rw [if_neg (by rintro ⟨e, _⟩; cases e), hcj, Int.toNat_natCast]
               have hfin3 : Hid (toR s xs cut false = (zt s (xs.take j), true)) := by rw [Hid, hfin2.out, hds2]
               have h4j := zf hokj
               have HH7 : ∀ A', Hold (wr.setCell ⟨w1.heap.size, 0, none⟩ (.slice A' (k - j - 1) (cq - j - 1))) w4.heap.size w5.heap.size (zt s (xs.take j)) := fun A' => hH.far fun b hb _ => Below.heap_setCell _ _ _ _ (show b ≠ w1.heap.size by omega)
               obtain ⟨Ao, co, Do, dd, hso, o0, o1, _⟩ := hH
               have n5 : w5.heap.size ≠ w1.heap.size := by omega
               have n1 : w.heap.size + 1 ≠ w1.heap.size := by omega
               have oo0 : ∀ u, (wr.setCell ⟨w1.heap.size, 0, none⟩ u).cell? ⟨w5.heap.size, 0, none⟩ = some (.slice Ao 4 co) := fun u => (World.cell?_of_block (a := ⟨w5.heap.size, 0, none⟩) (Below.heap_setCell _ _ _ _ n5)).trans o0
               have oo1 : ∀ u, (wr.setCell ⟨w1.heap.size, 0, none⟩ u).cell? ⟨w5.heap.size, 1, none⟩ = some (.slice Do 6 dd) := fun u => (World.cell?_of_block (a := ⟨w5.heap.size, 1, none⟩) (Below.heap_setCell _ _ _ _ n5)).trans o1
               have s0 : ∀ u, (wr.setCell ⟨w1.heap.size, 0, none⟩ u).cell? ⟨w.heap.size + 1, 0, none⟩ = some (.slice none 0 0) := fun u => (World.cell?_of_block (a := ⟨w.heap.size + 1, 0, none⟩) (Below.heap_setCell _ _ _ _ n1)).trans rr0
               have s1 : ∀ u, (wr.setCell ⟨w1.heap.size, 0, none⟩ u).cell? ⟨w.heap.size + 1, 1, none⟩ = some (.slice none 0 0) := fun u => (World.cell?_of_block (a := ⟨w.heap.size + 1, 1, none⟩) (Below.heap_setCell _ _ _ _ n1)).trans rr1
               have s2 : ∀ u, (wr.setCell ⟨w1.heap.size, 0, none⟩ u).frozen? ⟨w.heap.size + 1, 0, none⟩ = false := fun u => (World.frozen?_of_block (a := ⟨w.heap.size + 1, 0, none⟩) (Below.heap_setCell _ _ _ _ n1)).trans qq0
               have s3 : ∀ u, (wr.setCell ⟨w1.heap.size, 0, none⟩ u).frozen? ⟨w.heap.size + 1, 1, none⟩ = false := fun u => (World.frozen?_of_block (a := ⟨w.heap.size + 1, 1, none⟩) (Below.heap_setCell _ _ _ _ n1)).trans qq1
               have HB7 : ∀ u, Below w.heap.size w (wr.setCell ⟨w1.heap.size, 0, none⟩ u) := fun u => hBr.setCell (by show w.heap.size ≤ w1.heap.size; omega) _
               have HO0 := Lib.hid oo0
               have HO1 := Lib.hid oo1
               have HS0 := Lib.hid s0
               have HS1 := Lib.hid s1
               have HS2 := Lib.hid s2
               have HS3 := Lib.hid s3
               have HHH := Lib.hid HH7
               clear oo0 oo1 s0 s1 s2 s3 HH7 hds2 hds hk' hj hki hkj hRx hRx2 hgq hAj hbq hsr hgb
               go_wp2_with fail
               with_reducible refine HTK.out.mono ?_
               rintro e w7 ⟨rfl, A', rfl, hA'⟩
               have oo0 := HO0.out (.slice A' (k - j - 1) (cq - j - 1))
               have oo1 := HO1.out (.slice A' (k - j - 1) (cq - j - 1))
               have s0 := HS0.out (.slice A' (k - j - 1) (cq - j - 1))
               have s1 := HS1.out (.slice A' (k - j - 1) (cq - j - 1))
               have s2 := HS2.out (.slice A' (k - j - 1) (cq - j - 1))
               have s3 := HS3.out (.slice A' (k - j - 1) (cq - j - 1))
               have hh7 := HHH.out A'
               have hb7 := HB7 (.slice A' (k - j - 1) (cq - j - 1))
               have hz7 : w.heap.size + 1 < (wr.setCell ⟨w1.heap.size, 0, none⟩ (.slice A' (k - j - 1) (cq - j - 1))).heap.size := by simp; omega
               clear HHH HB7 HO0 HO1 HS0 HS1 HS2 HS3 HTK
               generalize wr.setCell ⟨w1.heap.size, 0, none⟩ (.slice A' (k - j - 1) (cq - j - 1)) = w7 at *
               go_wp2
               refine bodyPost_ret (v := .tuple #[.agg #[.slice Ao 4 co, .slice Do 6 dd], .bool true]) (by simp [results, Tryz.results17, go_sem, hz7, s0, s1]) rfl ?_
               rw [hfin3.out]
               exact hh7.told oo0 oo1 h4j h6j (show w.heap.size + 1 < w4.heap.size by omega) (by omega) hb7 _ _ rfl
             . have hds2 : doTo s xs cut true = zr (zt s (xs.take j)) x true := by
                unfold doTo
                rw [if_pos ⟨rfl, by omega, by omega⟩, hcj, Int.toNat_natCast, hgx]
               have hfin3 : Hid (toR s xs cut true = (zr (zt s (xs.take j)) x true, true)) := by rw [Hid, hfin2.out, hds2]
               have h4j : Hid ((zr (zt s (xs.take j)) x true).flash.length = 4) := zf (zfh hokj hsx true)
               have h6k : Hid ((zr (zt s (xs.take j)) x true).disk.length = 6) := (zav _ _ _).trans h6j
               have n1 : w.heap.size + 1 ≠ w1.heap.size := by omega
               have HEND : ∀ u w8, Below w4.heap.size (wr.setCell ⟨w1.heap.size, 0, none⟩ u) w8 -> w8.cell? ⟨w.heap.size + 1, 0, none⟩ = some (.slice none 0 0) ∧ w8.cell? ⟨w.heap.size + 1, 1, none⟩ = some (.slice none 0 0) ∧ w8.frozen? ⟨w.heap.size + 1, 0, none⟩ = false ∧ w8.frozen? ⟨w.heap.size + 1, 1, none⟩ = false ∧ Below w.heap.size w w8 := fun u w8 hb8 =>
                ⟨(hb8.cell (p := ⟨w.heap.size + 1, 0, none⟩) (by show w.heap.size + 1 < _; omega)).trans ((World.cell?_of_block (a := ⟨w.heap.size + 1, 0, none⟩) (Below.heap_setCell _ _ _ _ n1)).trans rr0),
                 (hb8.cell (p := ⟨w.heap.size + 1, 1, none⟩) (by show w.heap.size + 1 < _; omega)).trans ((World.cell?_of_block (a := ⟨w.heap.size + 1, 1, none⟩) (Below.heap_setCell _ _ _ _ n1)).trans rr1),
                 (hb8.frozen (p := ⟨w.heap.size + 1, 0, none⟩) (by show w.heap.size + 1 < _; omega)).trans ((World.frozen?_of_block (a := ⟨w.heap.size + 1, 0, none⟩) (Below.heap_setCell _ _ _ _ n1)).trans qq0),
                 (hb8.frozen (p := ⟨w.heap.size + 1, 1, none⟩) (by show w.heap.size + 1 < _; omega)).trans ((World.frozen?_of_block (a := ⟨w.heap.size + 1, 1, none⟩) (Below.heap_setCell _ _ _ _ n1)).trans qq1),
                 (hBr.setCell (p := ⟨w1.heap.size, 0, none⟩) (by show w.heap.size ≤ w1.heap.size; omega) u).trans (hb8.mono (by omega))⟩
               have HE := Lib.hid HEND
               clear HEND hds2 hds hk' hj hki hkj hgq hAj hbq hsr hgb
               go_wp2_with fail
               with_reducible refine HTK.out.mono ?_
               rintro e w7 ⟨rfl, A', rfl, hA'⟩
               have hH7 : Hold (wr.setCell ⟨w1.heap.size, 0, none⟩ (.slice A' (k - j - 1) (cq - j - 1))) w4.heap.size w5.heap.size (zt s (xs.take j)) := hH.far fun b hb _ => Below.heap_setCell _ _ _ _ (show b ≠ w1.heap.size by omega)
               have hR7 : Row (wr.setCell ⟨w1.heap.size, 0, none⟩ (.slice A' (k - j - 1) (cq - j - 1))) (some ⟨b, 0, none⟩) x.vs := hRx2.keep fun c hc _ => by rw [zg] at hc; subst hc; exact Below.heap_setCell _ _ _ _ (show b ≠ w1.heap.size by omega)
               have HAC := Lib.hid (zh5 _ x true w4.heap.size w5.heap.size b fn _ hfn hsx hokj h6j hH7 hR7 hb2)
               have hen := zci hfn
               clear HTK hH hH7 hR7 hRx hRx2
               go_wp2_with (go_at_fn fn; (with_reducible refine HAC.out.mono ?_); rintro e w8 ⟨rfl, hH8, hb8⟩; obtain ⟨s0, s1, s2, s3, hb9⟩ := HE.out _ w8 hb8; have hH9 := Lib.hid hH8; obtain ⟨Ao, co, Do, dd, hso, o0, o1, _⟩ := hH8)
               have hz7 : w.heap.size + 1 < w8.heap.size := by have := hb8.size; simp at this; omega
               refine bodyPost_ret (v := .tuple #[.agg #[.slice Ao 4 co, .slice Do 6 dd], .bool true]) (by simp [results, Tryz.results17, go_sem, hz7, s0, s1]) rfl ?_
               rw [hfin3.out]
               exact hH9.out.told o0 o1 h4j.out h6k.out (show w.heap.size + 1 < w4.heap.size by omega) (by omega) hb9 _ _ rfl
         . have hjx : j = xs.length := by omega
           have hkj : k - j = 0 := by omega
           have htake : xs.take j = xs := List.take_of_length_le (by omega)
           rw [hkj] at y0
           have HTK := Lib.hid (zjo w1.heap.size (cq - j) Aj wr y0)
           have hokj : zc (zt s xs).flash = true := Yd HFL.out (fun y hy => Qc.1 hall y hy)
           have h6j : (zt s xs).disk.length = 6 := (X5 _ _).trans H6.out
           have h4j := zf hokj
           rw [htake] at hH
           have hds2 : doTo s xs cut torn = zt s xs := zme (by omega)
           have hfin3 : Hid (toR s xs cut torn = (zt s xs, true)) := by rw [Hid, hfin2.out, hds2]
           have hH9 := Lib.hid hH
           obtain ⟨Ao, co, Do, dd, hso, o0, o1, _⟩ := hH
           have hz7 : w.heap.size + 1 < wr.heap.size := by omega
           have hlo7 : w.heap.size + 1 < w4.heap.size := by omega
           clear hds2 hk' hj hki hkj hgq hAj hbq hsr hjx htake hRq hokj
           by_cases hcc : (j : Int) < cut
           . go_wp2_with (go_at_call 43; (with_reducible refine HTK.out.mono ?_); rintro e w7 ⟨rfl, rfl⟩)
             refine bodyPost_ret (v := .tuple #[.agg #[.slice Ao 4 co, .slice Do 6 dd], .bool true]) (by simp [results, Tryz.results17, go_sem, hz7, rr0, rr1]) rfl ?_
             rw [hfin3.out]
             exact hH9.out.told o0 o1 h4j h6j hlo7 (by omega) hBr _ _ rfl
           . go_wp2_with (go_at_call 43; (with_reducible refine HTK.out.mono ?_); rintro e w7 ⟨rfl, rfl⟩)
             refine bodyPost_ret (v := .tuple #[.agg #[.slice Ao 4 co, .slice Do 6 dd], .bool true]) (by simp [results, Tryz.results17, go_sem, hz7, rr0, rr1]) rfl ?_
             rw [hfin3.out]
             exact hH9.out.told o0 o1 h4j h6j hlo7 (by omega) hBr _ _ rfl
   . have hok' : xg s = false := by simpa using hok
     rw [hok'] at HSO
     have hfin : Hid (toR s xs cut torn = (st0, false)) := by unfold Hid toR; rw [if_pos (.inr (.inl hok'))]
     clear hok hok' hn hm
     go_enter Tryz.func17, Tryz.ntmps17
     go_wp2_with (go_at_call 11; with_reducible refine HSO.out.mono ?_; rintro e w1 ⟨rfl, hb⟩; obtain ⟨hcc, hff⟩ := jr hb; have hs1 : w.heap.size + 2 ≤ w1.heap.size := (by have := hb.size; simpa using this); have r0 : w1.cell? ⟨w.heap.size + 1, 0, none⟩ = some (.slice none 0 0) := (hcc _ _ (by simp)).trans (by simp); have r1 : w1.cell? ⟨w.heap.size + 1, 1, none⟩ = some (.slice none 0 0) := (hcc _ _ (by simp)).trans (by simp); have q0 : w1.frozen? ⟨w.heap.size + 1, 0, none⟩ = false := (hff _ _ (by simp)).trans (by simp); have q1 : w1.frozen? ⟨w.heap.size + 1, 1, none⟩ = false := (hff _ _ (by simp)).trans (by simp))
     have hB1 : Below w.heap.size w w1 := hB0.trans (hb.mono (by simp; omega))
     have hz7 : w.heap.size + 1 < w1.heap.size := by omega
     refine bodyPost_ret (v := .tuple #[.agg #[.slice none 0 0, .slice none 0 0], .bool false]) (by simp [results, Tryz.results17, go_sem, hz7, r0, r1]) rfl ?_
     rw [hfin.out]
     refine za1.fail ?_
     refine Below.setCell (Below.setCell hB1 ?_ _) ?_ _ <;> (show w.heap.size ≤ w.heap.size + 1; omega)
end
section
open Go.RowKit Go.Maps Go.Shelf
attribute [local go_sem] Oper.semAt_some
def Q6 (a : Int) (o : Rc) (x : PgAt) : Rc := zv a o x.2.2
def lrOf (a : Int) (pre : List PgAt) : Rc := pre.foldl (Q6 a) rc0
theorem zld (a : Int) (pre : List PgAt) (x : PgAt) : lrOf a (pre ++ [x]) = Q6 a (lrOf a pre) x := by unfold lrOf; rw [List.foldl_append]; rfl
theorem zok (a : Int) : ∀ (ps : List Pg) (i j : Nat) (o : Rc), (km i j ps).foldl (Q6 a) o = xp a o ps
 | [], _, _, _ => rfl
 | p :: ps, i, j, o => zok a ps i (j + 1) (zv a o p)
theorem zol (a : Int) : ∀ (f : List Bk) (i : Nat) (o : Rc), (zj i f).foldl (Q6 a) o = f.foldl (fun o b => xp a o b.pages) o
 | [], _, _ => rfl
 | b :: f, i, o => by
   rw [zj, List.foldl_append, zok, zol a f]; rfl
theorem zle (f : List Bk) (a : Int) : lrOf a (zj 0 f) = last f a := zol a f 0 rc0
def kh (f : List Bk) (a : Int) : Rc × Bool := if kj a = true ∧ zc f = true then (last f a, decide (0 < (last f a).seq)) else (rc0, false)
def rcA (r : Rc) : Value := .agg #[.int .i64 r.kind, .int .i64 r.seq, .int .i64 r.addr, .int .i64 r.val]
theorem zqe {w : World} {g o n : Nat} {f : List Bk} {hs : List (Option Addr × Nat)} (hBk : Bks w (some ⟨g, o, none⟩) f hs) (h4 : f.length = n + 1) (hp : ∀ b ∈ f, b.pages.length = 4) : ∀ b, fblk (some ⟨g, o, none⟩) hs b -> b < w.heap.size := fun b hb => by
 rcases hb with hb | ⟨i, x, hx, hb⟩
 . rw [zg] at hb
   subst hb
   obtain ⟨B, hB⟩ := zd (l := f) (k := 0) (by omega)
   obtain ⟨_, _, c0, _⟩ := hBk.at_ hB
   exact ze c0
 . obtain ⟨B, hB⟩ := zd (l := f) (k := i) (by rw [← hBk.len]; exact (List.getElem?_eq_some_iff.1 hx).1)
   have hr := (hBk.pg i B x hB hx).1
   have hn : B.pages ≠ [] := by intro hn; have := hp B (List.mem_of_getElem? hB); rw [hn] at this; simp at this
   obtain ⟨b', o', he, hc⟩ := hr (kq hn)
   rw [he, zg] at hb
   subst hb
   obtain ⟨q, hq⟩ := zd (l := pgs B.pages) (k := 0) (by rw [yz]; have := List.length_pos_iff.2 hn; omega)
   exact ze (hc 0 q hq).1
theorem Z6 (f : List Bk) (a : Int) (A : Option Addr) (n c : Nat) (w : World) (hn : n = f.length) (hF : Fl w A f) :
 Calls Tryz.prog 110 #[.slice A n c, .int .i64 a] w fun e w' => e = .returned (.tuple #[rcA (kh f a).1, .bool (kh f a).2]) ∧ Below w.heap.size w w' := by
 subst hn
 refine (callsIn_wide (n := 6)).1 ?_
 refine callsIn_of_wp_marks Tryz.func110 rfl trivial ?_ rfl
 simp only [Tryz.ntmps110, List.size_toArray, List.length_cons, List.length_nil, Nat.reduceAdd, Nat.reduceSub, Array.replicate_succ, Array.replicate_zero, List.push_toArray, List.append_toArray, List.nil_append, List.cons_append]
 by_cases ha : kj a = true
 . have hAc : ∀ w, Hid (Calls Tryz.prog 74 #[.int .i64 a] w fun e w' => e = .returned (.bool true) ∧ w = w') := fun w => by have := ym a w; rw [ha] at this; exact this
   by_cases hok : zc f = true
   . have hfin : Hid (kh f a = (last f a, decide (0 < (last f a).seq))) := by unfold Hid kh; rw [if_pos ⟨ha, hok⟩]
     have HFL := Lib.hid (zf hok)
     have HP := Lib.hid (show ∀ b ∈ f, b.pages.length < 1000000000000 from fun b hb => by rw [(zm hok b hb).1]; omega)
     have HPL := Lib.hid (fun b hb => (zm hok b hb).1)
     obtain ⟨hs, hBk⟩ := hF
     have hFc : ∀ w, Fl w A f -> Hid (Calls Tryz.prog 29 #[.slice A f.length c] w fun e w' => e = .returned (.bool true) ∧ Below w.heap.size w w') := fun w h => by have := xe f A c w h; rw [hok] at this; exact this
     clear ha hok
     gi_wp2_with (first | (refine ⟨trivial, ?_⟩; gi_at_call 74; refine (callsIn_wide.2 (hAc _).out).mono ?_; rintro e w0 ⟨rfl, rfl⟩) | (refine ⟨trivial, ?_⟩; gi_at_call 29; refine (callsIn_wide.2 (hFc _ (Fl.alloc (Fl.alloc ⟨hs, hBk⟩ _) _)).out).mono ?_; rintro e w1 ⟨rfl, hb1⟩; obtain ⟨hc1, hf1⟩ := jr hb1; have r0 : w1.cell? ⟨w.heap.size + 1, 0, none⟩ = some (.int .i64 0) := (hc1 _ _ (by simp)).trans (by simp); have q0 : w1.frozen? ⟨w.heap.size + 1, 0, none⟩ = false := (hf1 _ _ (by simp)).trans (by simp); have r1 : w1.cell? ⟨w.heap.size + 1, 1, none⟩ = some (.int .i64 0) := (hc1 _ _ (by simp)).trans (by simp); have q1 : w1.frozen? ⟨w.heap.size + 1, 1, none⟩ = false := (hf1 _ _ (by simp)).trans (by simp); have r2 : w1.cell? ⟨w.heap.size + 1, 2, none⟩ = some (.int .i64 0) := (hc1 _ _ (by simp)).trans (by simp); have q2 : w1.frozen? ⟨w.heap.size + 1, 2, none⟩ = false := (hf1 _ _ (by simp)).trans (by simp); have r3 : w1.cell? ⟨w.heap.size + 1, 3, none⟩ = some (.int .i64 0) := (hc1 _ _ (by simp)).trans (by simp); have q3 : w1.frozen? ⟨w.heap.size + 1, 3, none⟩ = false := (hf1 _ _ (by simp)).trans (by simp); have b0 : w1.cell? ⟨w.heap.size, 0, none⟩ = some (.int .i64 a) := (hc1 _ _ (by simp <;> omega)).trans (by simp); have hs1 : w.heap.size + 2 ≤ w1.heap.size := (by have := hb1.size; simp at this; omega); clear hc1 hf1) | (refine ⟨trivial, ?_⟩; gi_at_call 39; refine (Xd Fence.wide _ trivial rfl _ _ _ _).mono ?_; rintro e w2 ⟨rfl, rfl⟩))
     obtain ⟨g, o, rfl⟩ := hBk.addr (by intro e; have := HFL.out; rw [e] at this; simp at this)
     have hlow : ∀ b, fblk (some ⟨g, o, none⟩) hs b -> b < w1.heap.size := fun b hb => by have := zqe hBk HFL.out HPL.out b hb; omega
     have hB1 : Below w.heap.size w w1 := Below.trans bw (hb1.mono (by simp; omega))
     clear hb1
     have hBk1 := hBk.below hB1 nl
     have hR0 : Row ((w1.alloc (.cells #[.int .i64 0, .int .i64 0, .int .i64 0, .int .i64 0] 64)).alloc (.cells #[.slice (some ⟨g, o, none⟩) f.length c] 25)) (some ⟨w1.heap.size, 0, none⟩) (lrOf a []).vs := (Row.new w1 #[.int .i64 0, .int .i64 0, .int .i64 0, .int .i64 0] 64).alloc _
     have bA := Boxed.new (w1.alloc (.cells #[.int .i64 0, .int .i64 0, .int .i64 0, .int .i64 0] 64)) 25 (.slice (some ⟨g, o, none⟩) f.length c)
     simp only [World.size_alloc] at bA
     have hB0 : Below w1.heap.size w1 ((w1.alloc (.cells #[.int .i64 0, .int .i64 0, .int .i64 0, .int .i64 0] 64)).alloc (.cells #[.slice (some ⟨g, o, none⟩) f.length c] 25)) := ((Below.refl _ w1).alloc nl _).alloc (by simp) _
     have hsz : ((w1.alloc (.cells #[.int .i64 0, .int .i64 0, .int .i64 0, .int .i64 0] 64)).alloc (.cells #[.slice (some ⟨g, o, none⟩) f.length c] 25)).heap.size = w1.heap.size + 2 := by simp
     have hBk2 := (hBk1.alloc (.cells #[.int .i64 0, .int .i64 0, .int .i64 0, .int .i64 0] 64)).alloc (.cells #[.slice (some ⟨g, o, none⟩) f.length c] 25)
     obtain ⟨W0, hW0⟩ : ∃ W0, (w1.alloc (.cells #[.int .i64 0, .int .i64 0, .int .i64 0, .int .i64 0] 64)).alloc (.cells #[.slice (some ⟨g, o, none⟩) f.length c] 25) = W0 := ⟨_, rfl⟩
     rw [hW0] at bA hB0 hsz hBk2 hR0 ⊢
     have hl4 : f.length < 1000000000000 := by rw [HFL.out]; omega
     clear hW0 hBk hBk1
     refine wpIn_rangeFunc_ownH rfl (by omega) (gf := 73) (lb := #[.pointer (some ⟨w1.heap.size + 1, 0, none⟩)]) rfl trivial (enters_of Tryz.func73 (by kernel_rfl) rfl)
      (Kn Fence.wide _ trivial rfl (by omega) (w1.heap.size + 1) w1.heap.size g o c f hs W0 (by omega) (by omega) bA.cell hl4 HP.out hBk2 hlow) belowK_t (belowK_b (by omega)) (Below.refl _ _) (fun _ => rfl)
      (fun pre W => Row W (some ⟨w1.heap.size, 0, none⟩) (lrOf a pre).vs ∧ Below w1.heap.size w1 W)
      (fun _ _ _ => False)
      (OwnFrom.and (fun pre X Y row h hg hr => zgm _ _ _ () X Y row h hg hr) (ownFrom_below nl (by omega)))
      (fun _ _ _ _ _ hs _ _ => hs)
      ⟨hR0, hB0⟩
      (fun x a' W => ∃ Bx, w1.heap.size < Bx ∧ Laid W Bx 76 (pgv x.2.2) ∧ a' = { tmps := #[.slice (some ⟨g, o, none⟩) f.length c, .int .i64 a, undef, .pointer (some ⟨w.heap.size, 0, none⟩), .pointer (some ⟨w.heap.size + 1, 0, none⟩), .bool false, .pointer (some ⟨w1.heap.size, 0, none⟩), undef, .pointer (some ⟨Bx, 0, none⟩), .int .i64 a, .bool true, .bool false, .bool false, .slice (some ⟨g, o, none⟩) f.length c, .bool true, .bool false, .bool false, undef, .slice (some ⟨g, o, none⟩) f.length c, .func (.func 73) #[] #[.pointer (some ⟨w1.heap.size + 1, 0, none⟩)], .agg #[.int .i64 (x.1 : Int), .int .i64 (x.2.1 : Int)], .agg (pgv x.2.2), undef, undef, undef, undef, undef, undef, undef, undef, undef, undef, undef, undef, undef, undef, undef, undef, undef, undef, undef, undef, undef, undef, undef, undef], defers := [] })
      (fun x a' _ X Y row hs hg hr => by obtain ⟨Bx, h1, h2, h3⟩ := hs; exact ⟨Bx, h1, Ji Bx _ _ _ () X Y row h2 hg hr, h3⟩)
      ?assign ?body ?done ?stop
     case assign =>
      rintro l pre x W K ⟨hR1, hB2⟩ hK
      dsimp only [encP]
      gi_wp2
      have hlt := hR1.lt (by simp [Rc.vs]) (zg.2 rfl)
      exact hK _ _ ((KeepsOthers.alloc _ _).from _) ((Below.refl _ W).alloc hB2.size _) ⟨hR1.alloc _, hB2.alloc hB2.size _⟩ ⟨W.heap.size, hlt, World.alloc_heap_new W _, rfl⟩
     case body =>
      rintro l pre x a' W hl ⟨r, hr⟩ ⟨hR1, hB2⟩ ⟨Bx, hBx, bX, rfl⟩ hlt
      have x0 : W.cell? ⟨Bx, 0, none⟩ = some (.int .i64 x.2.2.state) := bX.cell 0 rfl
      have x1 : W.cell? ⟨Bx, 1, none⟩ = some (.int .i64 x.2.2.rc.kind) := bX.cell 1 rfl
      have x2 : W.cell? ⟨Bx, 2, none⟩ = some (.int .i64 x.2.2.rc.seq) := bX.cell 2 rfl
      have x3 : W.cell? ⟨Bx, 3, none⟩ = some (.int .i64 x.2.2.rc.addr) := bX.cell 3 rfl
      have x4 : W.cell? ⟨Bx, 4, none⟩ = some (.int .i64 x.2.2.rc.val) := bX.cell 4 rfl
      have bB := (hB2.cell (p := ⟨w.heap.size, 0, none⟩) (by show w.heap.size < _; omega)).trans b0
      have hst : Hid (lrOf a (pre ++ [x]) = Q6 a (lrOf a pre) x) := zld a pre x
      generalize lrOf a pre = q at *
      obtain ⟨l0, f0⟩ := hR1.at0 (j := 0) rfl
      obtain ⟨l1, f1⟩ := hR1.at0 (j := 1) rfl
      obtain ⟨l2, f2⟩ := hR1.at0 (j := 2) rfl
      obtain ⟨l3, f3⟩ := hR1.at0 (j := 3) rfl
      have hW : Hid (xr W ((((W.setCell ⟨w1.heap.size, 0, none⟩ (.int .i64 x.2.2.rc.kind)).setCell ⟨w1.heap.size, 1, none⟩ (.int .i64 x.2.2.rc.seq)).setCell ⟨w1.heap.size, 2, none⟩ (.int .i64 x.2.2.rc.addr)).setCell ⟨w1.heap.size, 3, none⟩ (.int .i64 x.2.2.rc.val)) w1.heap.size 0 x.2.2.rc.vs) := Qf hR1 x.2.2.rc
      have hbad : ∀ P : Prop, (P -> False) -> (x.2.2.state = 1 ∧ x.2.2.rc.addr = a ∧ q.seq < x.2.2.rc.seq -> P) -> Hid (lrOf a (pre ++ [x]) = q) := fun P h1 h2 => by
       rw [Hid, hst.out]; unfold Q6 zv; rw [if_neg (fun e => h1 (h2 e))]
      by_cases h1 : x.2.2.state = 1
      . by_cases h2 : x.2.2.rc.addr = a
        . by_cases hc : q.seq < x.2.2.rc.seq
          . have hs2 : Hid (lrOf a (pre ++ [x]) = x.2.2.rc) := by rw [Hid, hst.out]; unfold Q6 zv; rw [if_pos ⟨h1, h2, hc⟩]
            rw [h1] at x0
            rw [h2] at x3 hW
            clear hst hbad h1
            gi_wp2
            refine ⟨((((KeepsOthers.setCell _ _ _).trans (KeepsOthers.setCell _ _ _)).trans (KeepsOthers.setCell _ _ _)).trans (KeepsOthers.setCell _ _ _)).from _, ((((Below.refl _ W).setCell (p := ⟨w1.heap.size, 0, none⟩) nl _).setCell (p := ⟨w1.heap.size, 1, none⟩) nl _).setCell (p := ⟨w1.heap.size, 2, none⟩) nl _).setCell (p := ⟨w1.heap.size, 3, none⟩) nl _, by rw [hs2.out]; exact hW.out.rec_ hR1, (((hB2.setCell (p := ⟨w1.heap.size, 0, none⟩) nl _).setCell (p := ⟨w1.heap.size, 1, none⟩) nl _).setCell (p := ⟨w1.heap.size, 2, none⟩) nl _).setCell (p := ⟨w1.heap.size, 3, none⟩) nl _⟩
          . have hs2 := hbad _ hc (fun e => e.2.2)
            rw [h1] at x0
            rw [h2] at x3
            clear hst hbad h1 hW
            gi_wp2
            exact ⟨KeepsFrom.refl _ _, Below.refl _ _, by rw [hs2.out]; exact hR1, hB2⟩
        . have hs2 := hbad _ h2 (fun e => e.2.1)
          have h2' : (x.2.2.rc.addr == a) = false := by simpa using h2
          rw [h1] at x0
          clear hst hbad h1 hW
          gi_wp2
          exact ⟨KeepsFrom.refl _ _, Below.refl _ _, by rw [hs2.out]; exact hR1, hB2⟩
      . have hs2 := hbad _ h1 (fun e => e.1)
        have h1' : (x.2.2.state == 1) = false := by simpa using h1
        clear hst hbad hW
        gi_wp2
        exact ⟨KeepsFrom.refl _ _, Below.refl _ _, by rw [hs2.out]; exact hR1, hB2⟩
     case done =>
      rintro D ys W hD rfl ⟨hR1, hB2⟩ hK
      rw [zle] at hR1
      generalize last f a = q at *
      obtain ⟨l0, f0⟩ := hR1.at0 (j := 0) rfl
      obtain ⟨l1, f1⟩ := hR1.at0 (j := 1) rfl
      obtain ⟨l2, f2⟩ := hR1.at0 (j := 2) rfl
      obtain ⟨l3, f3⟩ := hR1.at0 (j := 3) rfl
      have rr0 := (hB2.cell (p := ⟨w.heap.size + 1, 0, none⟩) (by show w.heap.size + 1 < _; omega)).trans r0
      have rr1 := (hB2.cell (p := ⟨w.heap.size + 1, 1, none⟩) (by show w.heap.size + 1 < _; omega)).trans r1
      have rr2 := (hB2.cell (p := ⟨w.heap.size + 1, 2, none⟩) (by show w.heap.size + 1 < _; omega)).trans r2
      have rr3 := (hB2.cell (p := ⟨w.heap.size + 1, 3, none⟩) (by show w.heap.size + 1 < _; omega)).trans r3
      have qq0 := (hB2.frozen (p := ⟨w.heap.size + 1, 0, none⟩) (by show w.heap.size + 1 < _; omega)).trans q0
      have qq1 := (hB2.frozen (p := ⟨w.heap.size + 1, 1, none⟩) (by show w.heap.size + 1 < _; omega)).trans q1
      have qq2 := (hB2.frozen (p := ⟨w.heap.size + 1, 2, none⟩) (by show w.heap.size + 1 < _; omega)).trans q2
      have qq3 := (hB2.frozen (p := ⟨w.heap.size + 1, 3, none⟩) (by show w.heap.size + 1 < _; omega)).trans q3
      gi_wp2
      gi_region
      gi_wp2
      have hK' : ((((W.setCell ⟨w.heap.size + 1, 0, none⟩ (.int .i64 q.kind)).setCell ⟨w.heap.size + 1, 1, none⟩ (.int .i64 q.seq)).setCell ⟨w.heap.size + 1, 2, none⟩ (.int .i64 q.addr)).setCell ⟨w.heap.size + 1, 3, none⟩ (.int .i64 q.val)).drew.heap[D]? = some (.deferred (some [])) := by
       show ((((W.setCell ⟨w.heap.size + 1, 0, none⟩ (.int .i64 q.kind)).setCell ⟨w.heap.size + 1, 1, none⟩ (.int .i64 q.seq)).setCell ⟨w.heap.size + 1, 2, none⟩ (.int .i64 q.addr)).setCell ⟨w.heap.size + 1, 3, none⟩ (.int .i64 q.val)).heap[D]? = _
       rw [Below.heap_setCell _ _ _ _ (by simp; omega), Below.heap_setCell _ _ _ _ (by simp; omega), Below.heap_setCell _ _ _ _ (by simp; omega), Below.heap_setCell _ _ _ _ (by simp; omega)]
       exact hK
      have hBW : Below w.heap.size w ((((W.setCell ⟨w.heap.size + 1, 0, none⟩ (.int .i64 q.kind)).setCell ⟨w.heap.size + 1, 1, none⟩ (.int .i64 q.seq)).setCell ⟨w.heap.size + 1, 2, none⟩ (.int .i64 q.addr)).setCell ⟨w.heap.size + 1, 3, none⟩ (.int .i64 q.val)).drew := (((((hB1.trans (hB2.mono hB1.size)).setCell (p := ⟨w.heap.size + 1, 0, none⟩) (by show w.heap.size ≤ w.heap.size + 1; omega) _).setCell (p := ⟨w.heap.size + 1, 1, none⟩) (by show w.heap.size ≤ w.heap.size + 1; omega) _).setCell (p := ⟨w.heap.size + 1, 2, none⟩) (by show w.heap.size ≤ w.heap.size + 1; omega) _).setCell (p := ⟨w.heap.size + 1, 3, none⟩) (by show w.heap.size ≤ w.heap.size + 1; omega) _).drew
      have hRow : Row W (some ⟨w.heap.size + 1, 0, none⟩) rc0.vs := fun _ => ⟨_, _, rfl, fun j u hj => by
       match j, hj with
       | 0, hj => simp [Rc.vs, rc0] at hj; subst hj; exact ⟨rr0, qq0⟩
       | 1, hj => simp [Rc.vs, rc0] at hj; subst hj; exact ⟨rr1, qq1⟩
       | 2, hj => simp [Rc.vs, rc0] at hj; subst hj; exact ⟨rr2, qq2⟩
       | 3, hj => simp [Rc.vs, rc0] at hj; subst hj; exact ⟨rr3, qq3⟩
       | n + 4, hj => simp [Rc.vs] at hj⟩
      have hWr : xr W ((((W.setCell ⟨w.heap.size + 1, 0, none⟩ (.int .i64 q.kind)).setCell ⟨w.heap.size + 1, 1, none⟩ (.int .i64 q.seq)).setCell ⟨w.heap.size + 1, 2, none⟩ (.int .i64 q.addr)).setCell ⟨w.heap.size + 1, 3, none⟩ (.int .i64 q.val)) (w.heap.size + 1) 0 q.vs := Qf hRow q
      have v0 : ((((W.setCell ⟨w.heap.size + 1, 0, none⟩ (.int .i64 q.kind)).setCell ⟨w.heap.size + 1, 1, none⟩ (.int .i64 q.seq)).setCell ⟨w.heap.size + 1, 2, none⟩ (.int .i64 q.addr)).setCell ⟨w.heap.size + 1, 3, none⟩ (.int .i64 q.val)).drew.cell? ⟨w.heap.size + 1, 0, none⟩ = some (.int .i64 q.kind) := hWr.new_ 0 _ rfl
      have v1 : ((((W.setCell ⟨w.heap.size + 1, 0, none⟩ (.int .i64 q.kind)).setCell ⟨w.heap.size + 1, 1, none⟩ (.int .i64 q.seq)).setCell ⟨w.heap.size + 1, 2, none⟩ (.int .i64 q.addr)).setCell ⟨w.heap.size + 1, 3, none⟩ (.int .i64 q.val)).drew.cell? ⟨w.heap.size + 1, 1, none⟩ = some (.int .i64 q.seq) := hWr.new_ 1 _ rfl
      have v2 : ((((W.setCell ⟨w.heap.size + 1, 0, none⟩ (.int .i64 q.kind)).setCell ⟨w.heap.size + 1, 1, none⟩ (.int .i64 q.seq)).setCell ⟨w.heap.size + 1, 2, none⟩ (.int .i64 q.addr)).setCell ⟨w.heap.size + 1, 3, none⟩ (.int .i64 q.val)).drew.cell? ⟨w.heap.size + 1, 2, none⟩ = some (.int .i64 q.addr) := hWr.new_ 2 _ rfl
      have v3 : ((((W.setCell ⟨w.heap.size + 1, 0, none⟩ (.int .i64 q.kind)).setCell ⟨w.heap.size + 1, 1, none⟩ (.int .i64 q.seq)).setCell ⟨w.heap.size + 1, 2, none⟩ (.int .i64 q.addr)).setCell ⟨w.heap.size + 1, 3, none⟩ (.int .i64 q.val)).drew.cell? ⟨w.heap.size + 1, 3, none⟩ = some (.int .i64 q.val) := hWr.new_ 3 _ rfl
      have hzV : w.heap.size + 1 < ((((W.setCell ⟨w.heap.size + 1, 0, none⟩ (.int .i64 q.kind)).setCell ⟨w.heap.size + 1, 1, none⟩ (.int .i64 q.seq)).setCell ⟨w.heap.size + 1, 2, none⟩ (.int .i64 q.addr)).setCell ⟨w.heap.size + 1, 3, none⟩ (.int .i64 q.val)).drew.heap.size := by have := hB2.size; simp; omega
      refine ⟨by simp, .inl ⟨_, _, rfl, run_takeDeferred hK', ?_⟩⟩
      obtain ⟨V, hV⟩ : ∃ V, ((((W.setCell ⟨w.heap.size + 1, 0, none⟩ (.int .i64 q.kind)).setCell ⟨w.heap.size + 1, 1, none⟩ (.int .i64 q.seq)).setCell ⟨w.heap.size + 1, 2, none⟩ (.int .i64 q.addr)).setCell ⟨w.heap.size + 1, 3, none⟩ (.int .i64 q.val)).drew = V := ⟨_, rfl⟩
      clear hWr
      rw [hV] at hK' hBW v0 v1 v2 v3 hzV ⊢
      have cX : ∀ o, (V.putObj D (.deferred none)).cell? ⟨w.heap.size + 1, o, none⟩ = V.cell? ⟨w.heap.size + 1, o, none⟩ := fun o => World.cell?_of_block (a := ⟨w.heap.size + 1, o, none⟩) (World.putObj_heap_other (by show w.heap.size + 1 ≠ D; omega))
      replace v0 := (cX 0).trans v0
      replace v1 := (cX 1).trans v1
      replace v2 := (cX 2).trans v2
      replace v3 := (cX 3).trans v3
      have hBX := hBW.trans (belowK_b (w := w) nl V D _ (.deferred none) (by omega) hK' rfl rfl)
      have hzX : w.heap.size + 1 < (V.putObj D (.deferred none)).heap.size := by simpa using hzV
      generalize V.putObj D (.deferred none) = X at *
      exact ⟨.tuple #[rcA q, .bool (decide (0 < q.seq))], by simp [results, Tryz.results110, go_sem, hzX, v0, v1, v2, v3, rcA], by rw [hfin.out], hBX⟩
     case stop =>
      rintro D c pre W _ _ h _
      exact h.elim
   . have hok' : zc f = false := by simpa using hok
     have hfin : Hid (kh f a = (rc0, false)) := by unfold Hid kh; rw [if_neg (fun e => hok e.2)]
     have hFc : ∀ w, Fl w A f -> Hid (Calls Tryz.prog 29 #[.slice A f.length c] w fun e w' => e = .returned (.bool false) ∧ Below w.heap.size w w') := fun w h => by have := xe f A c w h; rw [hok'] at this; exact this
     clear ha hok hok'
     gi_wp2_with (first | (refine ⟨trivial, ?_⟩; gi_at_call 74; refine (callsIn_wide.2 (hAc _).out).mono ?_; rintro e w0 ⟨rfl, rfl⟩) | (refine ⟨trivial, ?_⟩; gi_at_call 29; refine (callsIn_wide.2 (hFc _ ((hF.alloc _).alloc _)).out).mono ?_; rintro e w1 ⟨rfl, hb1⟩; obtain ⟨hc1, hf1⟩ := jr hb1; have r0 : w1.cell? ⟨w.heap.size + 1, 0, none⟩ = some (.int .i64 0) := (hc1 _ _ (by simp)).trans (by simp); have q0 : w1.frozen? ⟨w.heap.size + 1, 0, none⟩ = false := (hf1 _ _ (by simp)).trans (by simp); have r1 : w1.cell? ⟨w.heap.size + 1, 1, none⟩ = some (.int .i64 0) := (hc1 _ _ (by simp)).trans (by simp); have q1 : w1.frozen? ⟨w.heap.size + 1, 1, none⟩ = false := (hf1 _ _ (by simp)).trans (by simp); have r2 : w1.cell? ⟨w.heap.size + 1, 2, none⟩ = some (.int .i64 0) := (hc1 _ _ (by simp)).trans (by simp); have q2 : w1.frozen? ⟨w.heap.size + 1, 2, none⟩ = false := (hf1 _ _ (by simp)).trans (by simp); have r3 : w1.cell? ⟨w.heap.size + 1, 3, none⟩ = some (.int .i64 0) := (hc1 _ _ (by simp)).trans (by simp); have q3 : w1.frozen? ⟨w.heap.size + 1, 3, none⟩ = false := (hf1 _ _ (by simp)).trans (by simp); have b0 : w1.cell? ⟨w.heap.size, 0, none⟩ = some (.int .i64 a) := (hc1 _ _ (by simp <;> omega)).trans (by simp); have hs1 : w.heap.size + 2 ≤ w1.heap.size := (by have := hb1.size; simp at this; omega); clear hc1 hf1))
     have hz : w.heap.size + 1 < w1.heap.size := by omega
     have hB1 : Below w.heap.size w w1 := Below.trans bw (hb1.mono (by simp; omega))
     clear hb1
     refine ⟨.tuple #[rcA rc0, .bool false], by simp [results, Tryz.results110, go_sem, hz, r0, r1, r2, r3, rcA, rc0], by rw [hfin.out], ?_⟩
     exact bw
 . have ha' : kj a = false := by simpa using ha
   have hfin : Hid (kh f a = (rc0, false)) := by unfold Hid kh; rw [if_neg (fun e => ha e.1)]
   have hAc : ∀ w, Hid (Calls Tryz.prog 74 #[.int .i64 a] w fun e w' => e = .returned (.bool false) ∧ w = w') := fun w => by have := ym a w; rw [ha'] at this; exact this
   clear ha ha'
   gi_wp2_with (first | (refine ⟨trivial, ?_⟩; gi_at_call 74; refine (callsIn_wide.2 (hAc _).out).mono ?_; rintro e w1 ⟨rfl, rfl⟩) | (refine ⟨trivial, ?_⟩))
   refine ⟨.tuple #[rcA rc0, .bool false], by simp [results, Tryz.results110, go_sem, rcA, rc0], by rw [hfin.out], ?_⟩
   exact bw
end
end Go.Proofs.YtclnogfmmekooaaGreat
open Go.RowKit Go.IntWalk Go.Maps
namespace Go.Proofs.YtclnogfmmekooaaGreat
section
theorem zjl {f : List Bk} (hok : zc f = true) {b : Bk} (hb : b ∈ f) {p : Pg} (hp : p ∈ b.pages) (h1 : p.state = 1) : kh f p.rc.addr = (last f p.rc.addr, true) := by
 have hr := xl ((xb hok hb).2.2.2 p hp) h1
 have ha := xw hr
 have hm := Z5 (f := f) (r := p.rc) ⟨b, hb, p, hp, h1, rfl⟩
 unfold kh
 rw [if_pos ⟨X7.2 ⟨ha.1, ha.2.1⟩, hok⟩]
 congr 1
 simp; omega
theorem zdf (f : List Bk) (i j : Nat) (b : Bk) (p : Pg) (A : Option Addr) (n c : Nat) (w : World) (hn : n = f.length) (hok : zc f = true) (hb : f[i]? = some b) (hp : b.pages[j]? = some p) (hF : Fl w A f) :
 Calls Tryz.prog 65 #[.slice A n c, .int .i64 i, .int .i64 j] w fun e w' => e = .returned (.bool (live f p)) ∧ Below w.heap.size w w' := by
 subst hn
 have hl := zf hok
 have hl4 := (zm hok b (List.mem_of_getElem? hb)).1
 have hi : i < 4 := by rw [← hl]; exact (List.getElem?_eq_some_iff.1 hb).1
 have hj : j < 4 := by rw [← hl4]; exact (List.getElem?_eq_some_iff.1 hp).1
 have hbo : jy i = true := Kj.2 (by omega)
 have hFc : ∀ w, Fl w A f -> Hid (Calls Tryz.prog 29 #[.slice A f.length c] w fun e w' => e = .returned (.bool true) ∧ Below w.heap.size w w') := fun w h => by have := xe f A c w h; rw [hok] at this; exact this
 have hBc : ∀ w, Hid (Calls Tryz.prog 75 #[.int .i64 i] w fun e w' => e = .returned (.bool true) ∧ w = w') := fun w => by have := j7 i w; rw [hbo] at this; exact this
 have hFL : p.state = 1 -> Hid (kh f p.rc.addr = (last f p.rc.addr, true)) := fun h => zjl hok (List.mem_of_getElem? hb) (List.mem_of_getElem? hp) h
 have hil : (i : Int) < f.length := by omega
 have hj4 : (j : Int) < 4 := by omega
 have hjl : (j : Int) < b.pages.length := by omega
 have HL := Lib.hid hl
 clear hok hbo hl hl4
 go_enter Tryz.func65, Tryz.ntmps65
 go_wp2_with fail
 refine (hFc _ hF).out.mono ?_
 rintro e w1 ⟨rfl, hb1⟩
 have hF1 := hF.below hb1 nl
 obtain ⟨hs, hBk⟩ := hF1
 obtain ⟨g, o, rfl⟩ := hBk.addr (by rintro rfl; simp at hb)
 obtain ⟨⟨Z, cz⟩, _, z0, z1, _, _, hR, _⟩ := hBk.at_ hb
 dsimp only at z0 hR
 obtain ⟨pb, po, rfl⟩ := hR.addr (kq (by intro e; rw [e] at hp; simp at hp))
 obtain ⟨c0, c1, c2, c3, c4⟩ := hR.pg hp
 have HB := Lib.hid hb
 have HP := Lib.hid hp
 clear hb hp
 by_cases h1 : p.state = 1
 . have hfl := hFL h1
   have hfin : Hid (live f p = decide (last f p.rc.addr = p.rc)) := by unfold Hid live; simp [h1]
   rw [h1] at c0
   clear h1 hFL
   go_wp2_with (go_at_call 75; refine (hBc _).out.mono ?_; rintro e w2 ⟨rfl, rfl⟩)
   have hFx : Fl (w1.alloc (.cells #[.int .i64 1, .int .i64 p.rc.kind, .int .i64 p.rc.seq, .int .i64 p.rc.addr, .int .i64 p.rc.val] 76)) (some ⟨g, o, none⟩) f := Fl.alloc ⟨hs, hBk⟩ _
   refine (Z6 f p.rc.addr _ _ c _ rfl hFx).mono ?_
   rintro e w3 ⟨rfl, hb3⟩
   rw [hfl.out]
   have hB3 : Below w.heap.size w w3 := (hb1.alloc hb1.size _).trans (hb3.mono (by have := hb1.size; simp; omega))
   obtain ⟨hc, hfz⟩ := jr hb3
   have hs3 : w1.heap.size + 1 ≤ w3.heap.size := by have := hb3.size; simpa using this
   have x1 : w3.cell? ⟨w1.heap.size, 1, none⟩ = some (.int .i64 p.rc.kind) := (hc _ _ (by simp)).trans (by simp)
   have x2 : w3.cell? ⟨w1.heap.size, 2, none⟩ = some (.int .i64 p.rc.seq) := (hc _ _ (by simp)).trans (by simp)
   have x3 : w3.cell? ⟨w1.heap.size, 3, none⟩ = some (.int .i64 p.rc.addr) := (hc _ _ (by simp)).trans (by simp)
   have x4 : w3.cell? ⟨w1.heap.size, 4, none⟩ = some (.int .i64 p.rc.val) := (hc _ _ (by simp)).trans (by simp)
   have hle : Hid (decide (last f p.rc.addr = p.rc) = (decide ((last f p.rc.addr).kind = p.rc.kind) && (decide ((last f p.rc.addr).seq = p.rc.seq) && (decide ((last f p.rc.addr).addr = p.rc.addr) && decide ((last f p.rc.addr).val = p.rc.val))))) := by
    unfold Hid
    generalize last f p.rc.addr = x
    obtain ⟨a, b, c, d⟩ := x
    obtain ⟨st, e, g, h, i⟩ := p
    simp [Bool.and_assoc]
   generalize last f p.rc.addr = x at *
   have hne : w1.heap.size < w3.heap.size := by omega
   unfold rcA
   clear hb3 hc hfz hBk hR z0 z1 c0 c1 c2 c3 c4 hFx hFc hBc
   go_wp2
   all_goals go_ret
   all_goals exact ⟨zk (by rw [hfin.out, hle.out]; simp [*]), hB3.alloc hB3.size _⟩
 . have hfin : Hid (live f p = false) := by unfold Hid live; simp [h1]
   have h1' : (p.state == 1) = false := by simpa using h1
   clear hFL
   go_wp2_with (go_at_call 75; refine (hBc _).out.mono ?_; rintro e w2 ⟨rfl, rfl⟩)
   go_ret
   exact ⟨zk hfin.out.symm, hb1.alloc hb1.size _⟩
theorem OwnS.nul (w : World) (base : Nat) : OwnS w base (.slice none 0 0) [] := World.ownsRow_nil w base _ _
theorem OwnS.one (w : World) (base : Nat) (hb : base ≤ w.heap.size) (x : Sp) : OwnS (w.alloc (.cells #[.int .i64 x.kind, .int .i64 x.addr, .int .i64 x.val, .int .i64 x.block, .int .i64 x.rc.kind, .int .i64 x.rc.seq, .int .i64 x.rc.addr, .int .i64 x.rc.val] 81)) base (.slice (some ⟨w.heap.size, 0, none⟩) 1 1) [x] := World.ownsRow_lit w #[.int .i64 x.kind, .int .i64 x.addr, .int .i64 x.val, .int .i64 x.block, .int .i64 x.rc.kind, .int .i64 x.rc.seq, .int .i64 x.rc.addr, .int .i64 x.rc.val] 1 hb (by unfold maxLen; omega) rfl
theorem qu (f : List Bk) (kind addr val : Int) (A : Option Addr) (n c : Nat) (w : World) (hn : n = f.length) (hok : zc f = true) (hF : Fl w A f) :
 Calls Tryz.prog 36 #[.slice A n c, .int .i64 kind, .int .i64 addr, .int .i64 val] w fun e w' => ∃ v, e = .returned v ∧ OwnS w' w.heap.size v (wr f kind addr val) ∧ Below w.heap.size w w' := by
 subst hn
 obtain ⟨ib, hib, hbz0, hbz1, hbz2⟩ := info_parts Tryz.info3_step
 have HL := Lib.hid (zf hok)
 have HOK := Lib.hid hok
 have hFN : ∀ w, Fl w A f -> Hid (Calls Tryz.prog 15 #[.slice A f.length c] w fun e w' => e = .returned (.int .i64 (next f)) ∧ Below w.heap.size w w') := fun w h => by have := zde f A _ c w rfl h; rw [zhf hok] at this; exact this
 have hFO : ∀ w, Fl w A f -> Hid (Calls Tryz.prog 63 #[.slice A f.length c] w fun e w' => e = .returned (.tuple #[.int .i64 (kz f).1, .bool (kz f).2]) ∧ Below w.heap.size w w') := fun w h => by have := zdd f A _ c w rfl h; unfold Z9 at this; rw [if_pos hok] at this; exact this
 have hFD : ∀ w, Fl w A f -> Hid (Calls Tryz.prog 64 #[.slice A f.length c] w fun e w' => e = .returned (.int .i64 (old f : Nat)) ∧ Below w.heap.size w w') := fun w h => by have := ze4 f A _ c w rfl h; rw [zan hok] at this; exact this
 have hfin : Hid (wr f kind addr val = if (room f).2.2 = false ∨ xk ⟨kind, next f, addr, val⟩ = false then [] else (room f).1 ++ [⟨3, 0, 0, (room f).2.1, ⟨kind, next f, addr, val⟩⟩]) := rfl
 have hroom : Hid (room f = if (kz f).2 then ([], (kz f).1, true) else (tells f (f.getD (old f) zbk).pages ++ [⟨2, 0, 0, old f, rc0⟩], (old f : Int), decide ((f.getD (old f) zbk).worn < 200))) := rfl
 have hol := Ju (zf hok)
 have hwl : ∀ b ∈ f, b.worn ≤ 200 := fun b hb => (xb hok hb).2.1.2
 have hpl : ∀ b ∈ f, b.pages.length = 4 := fun b hb => (xb hok hb).1
 clear hok
 go_enter Tryz.func36, Tryz.ntmps36
 go_wp2_with fail
 refine (hFN _ hF).out.mono ?_
 rintro e w1 ⟨rfl, hb1⟩
 generalize next f = nx at *
 clear hFN
 go_wp2_with fail
 refine (Ke ⟨kind, nx, addr, val⟩ _).mono ?_
 rintro e w2 ⟨rfl, hb2⟩
 obtain ⟨hc, hfz⟩ := jr hb2
 have r0 : w2.cell? ⟨w1.heap.size, 0, none⟩ = some (.int .i64 kind) := (hc _ _ (by simp)).trans (by simp)
 have r1 : w2.cell? ⟨w1.heap.size, 1, none⟩ = some (.int .i64 nx) := (hc _ _ (by simp)).trans (by simp)
 have r2 : w2.cell? ⟨w1.heap.size, 2, none⟩ = some (.int .i64 addr) := (hc _ _ (by simp)).trans (by simp)
 have r3 : w2.cell? ⟨w1.heap.size, 3, none⟩ = some (.int .i64 val) := (hc _ _ (by simp)).trans (by simp)
 have hB2 : Below w.heap.size w w2 := (hb1.alloc hb1.size _).trans (hb2.mono (by have := hb1.size; simp; omega))
 have hs1 := hb1.size
 have hs2 : w1.heap.size + 1 ≤ w2.heap.size := by have := hb2.size; simpa using this
 clear hc hfz hb2 hb1
 by_cases hr : xk ⟨kind, nx, addr, val⟩ = true
 . have hfin2 : Hid (wr f kind addr val = if (room f).2.2 = false then [] else (room f).1 ++ [⟨3, 0, 0, (room f).2.1, ⟨kind, nx, addr, val⟩⟩]) := by
    rw [Hid, hfin.out, hr]; simp
   rw [hr]
   clear hr hfin
   go_wp2_with fail
   refine (hFO _ (hF.below hB2 nl)).out.mono ?_
   rintro e w3 ⟨rfl, hb3⟩
   replace r0 := (hb3.cell (p := ⟨w1.heap.size, 0, none⟩) (by show w1.heap.size < _; omega)).trans r0
   replace r1 := (hb3.cell (p := ⟨w1.heap.size, 1, none⟩) (by show w1.heap.size < _; omega)).trans r1
   replace r2 := (hb3.cell (p := ⟨w1.heap.size, 2, none⟩) (by show w1.heap.size < _; omega)).trans r2
   replace r3 := (hb3.cell (p := ⟨w1.heap.size, 3, none⟩) (by show w1.heap.size < _; omega)).trans r3
   have hs3 := hb3.size
   have hB3 := hB2.trans (hb3.mono hB2.size)
   clear hb3 hB2 hFO
   generalize kz f = ob at *
   obtain ⟨bi, bo⟩ := ob
   dsimp only at *
   cases bo
   . rw [if_neg (by decide)] at hroom
     go_wp2_with fail
     refine (hFD _ (hF.below hB3 nl)).out.mono ?_
     rintro e w4 ⟨rfl, hb4⟩
     replace r0 := (hb4.cell (p := ⟨w1.heap.size, 0, none⟩) (by show w1.heap.size < _; omega)).trans r0
     replace r1 := (hb4.cell (p := ⟨w1.heap.size, 1, none⟩) (by show w1.heap.size < _; omega)).trans r1
     replace r2 := (hb4.cell (p := ⟨w1.heap.size, 2, none⟩) (by show w1.heap.size < _; omega)).trans r2
     replace r3 := (hb4.cell (p := ⟨w1.heap.size, 3, none⟩) (by show w1.heap.size < _; omega)).trans r3
     have hs4 := hb4.size
     have hB4 := hB3.trans (hb4.mono hB3.size)
     clear hb4 hB3 hFD
     generalize old f = i at *
     have h4 := HL.out
     obtain ⟨B, hBf⟩ := zd (l := f) (k := i) (by omega)
     rw [ye hBf] at hroom
     have hbm := List.mem_of_getElem? hBf
     have hw2 := hwl B hbm
     have HB4 := Lib.hid (hpl B hbm)
     have HB := Lib.hid hBf
     have hi4 : (i : Int) < f.length := by omega
     obtain ⟨hs, hBk⟩ := hF.below hB4 nl
     obtain ⟨g, o, rfl⟩ := hBk.addr (by intro e; rw [e] at hBf; simp at hBf)
     obtain ⟨⟨Ap, cp⟩, _, z0, z1, _, _, hR, _⟩ := hBk.at_ hBf
     dsimp only at z0 hR
     clear hBf hbm h4 hol hwl hpl hBk
     by_cases hw : B.worn = 200
     . have h3 : Hid (wr f kind addr val = []) := by rw [Hid, hfin2.out, hroom.out, hw]; rfl
       rw [hw] at z1
       clear hw hw2
       go_wp2
       go_ret
       rw [h3.out]
       exact ⟨_, rfl, OwnS.nul _ _, hB4⟩
     . have h3 : Hid (wr f kind addr val = (tells f B.pages ++ [⟨2, 0, 0, i, rc0⟩]) ++ [⟨3, 0, 0, i, ⟨kind, nx, addr, val⟩⟩]) := by
        rw [Hid, hfin2.out, hroom.out]
        dsimp only
        rw [if_neg (by simp; omega)]
       have hw' : (B.worn == 200) = false := by simpa using hw
       have hT : Hid (tells f B.pages = [] ++ tells f (B.pages.drop 0)) := rfl
       clear hfin2 hroom hw hw2
       rw [HB4.out] at z0
       go_wp2
       go_loopw [13, 49] (fun u q wr => ∃ (k : Nat) (xs : List Sp) (v : Value), k ≤ 4 ∧ q = .int .i64 k ∧ v = u ∧ xs.length ≤ k ∧ OwnS wr w4.heap.size v xs ∧ Below w4.heap.size w4 wr ∧ Below w.heap.size w wr ∧ Hid (tells f B.pages = xs ++ tells f (B.pages.drop k))) (fun _ q _ => 4 - (intOf q).toNat)
       case atStart => exact ⟨0, [], _, by omega, rfl, rfl, by simp, OwnS.nul _ _, Below.refl _ _, hB4, hT⟩
       case round =>
        clear hT
        obtain ⟨k, xs, v, hk, rfl, rfl, hxk, hO, hb, hB, hT⟩ := hrel
        replace r0 := (hb.cell (p := ⟨w1.heap.size, 0, none⟩) (by show w1.heap.size < _; omega)).trans r0
        replace r1 := (hb.cell (p := ⟨w1.heap.size, 1, none⟩) (by show w1.heap.size < _; omega)).trans r1
        replace r2 := (hb.cell (p := ⟨w1.heap.size, 2, none⟩) (by show w1.heap.size < _; omega)).trans r2
        replace r3 := (hb.cell (p := ⟨w1.heap.size, 3, none⟩) (by show w1.heap.size < _; omega)).trans r3
        have hsr := hb.size
        have hRr := hR.below hb nl
        by_cases hlt : k < 4
        . obtain ⟨p, hq⟩ := zd (l := B.pages) (k := k) (by have := HB4.out; omega)
          obtain ⟨pb, po, rfl⟩ := hRr.addr (kq (by intro e; rw [e] at hq; simp at hq))
          obtain ⟨c0, c1, c2, c3, c4⟩ := hRr.pg hq
          have hT1 : Hid (tells f B.pages = (if told f p then xs ++ [Zk p] else xs) ++ tells f (B.pages.drop (k + 1))) := by rw [Hid, hT.out, zu hq, zbf]
          have htd : Hid (told f p = (live f p && decide (p.rc.kind = 1))) := rfl
          have hk4 : (k : Int) < 4 := by omega
          have HQ := Lib.hid hq
          have hFL : ∀ w, Fl w (some ⟨g, o, none⟩) f -> Hid (Calls Tryz.prog 65 #[.slice (some ⟨g, o, none⟩) f.length c, .int .i64 i, .int .i64 k] w fun e w' => e = .returned (.bool (live f p)) ∧ Below w.heap.size w w') := fun w h => zdf f i k B p _ _ c w rfl HOK.out HB.out HQ.out h
          have e1 : IntKind.i64.wrap ((k : Int) + 1) = (k : Int) + 1 := IntWalk.i64_in _ (by omega)
          clear hq hT hR hRr
          go_wp2_with fail
          refine (Xv p.rc _).mono ?_
          rintro e w5 ⟨rfl, hb5⟩
          have hBa := (Below.refl wr.heap.size wr).alloc nl (.cells #[.int .i64 p.state, .int .i64 p.rc.kind, .int .i64 p.rc.seq, .int .i64 p.rc.addr, .int .i64 p.rc.val] 76)
          obtain ⟨hc, hfz⟩ := jr hb5
          have p1 : w5.cell? ⟨wr.heap.size, 1, none⟩ = some (.int .i64 p.rc.kind) := (hc _ _ (by simp)).trans (by simp)
          have p2 : w5.cell? ⟨wr.heap.size, 2, none⟩ = some (.int .i64 p.rc.seq) := (hc _ _ (by simp)).trans (by simp)
          have p3 : w5.cell? ⟨wr.heap.size, 3, none⟩ = some (.int .i64 p.rc.addr) := (hc _ _ (by simp)).trans (by simp)
          have p4 : w5.cell? ⟨wr.heap.size, 4, none⟩ = some (.int .i64 p.rc.val) := (hc _ _ (by simp)).trans (by simp)
          have hs5 : wr.heap.size + 1 ≤ w5.heap.size := by have := hb5.size; simpa using this
          have hB5 : Below wr.heap.size wr w5 := hBa.trans (hb5.mono (by simp))
          have hO5 := hO.below hB5 nl
          clear hc hfz hb5 hBa hO c0 c1 c2 c3 c4
          by_cases hk1 : p.rc.kind = 1
          . rw [show decide (p.rc.kind = 1) = true by simpa using hk1]
            have hk1' := Lib.hid hk1
            rw [hk1] at p1
            clear hk1
            go_wp2_with fail
            refine (hFL _ (hF.below (hB.trans (hB5.mono hB.size)) nl)).out.mono ?_
            rintro e w6 ⟨rfl, hb6⟩
            replace p1 := (hb6.cell (p := ⟨wr.heap.size, 1, none⟩) (by show wr.heap.size < _; omega)).trans p1
            replace p2 := (hb6.cell (p := ⟨wr.heap.size, 2, none⟩) (by show wr.heap.size < _; omega)).trans p2
            replace p3 := (hb6.cell (p := ⟨wr.heap.size, 3, none⟩) (by show wr.heap.size < _; omega)).trans p3
            replace p4 := (hb6.cell (p := ⟨wr.heap.size, 4, none⟩) (by show wr.heap.size < _; omega)).trans p4
            have hs6 := hb6.size
            have hB6 := hB5.trans (hb6.mono hB5.size)
            have hO6 := hO5.below hb6 nl
            clear hO5 hB5 hb6 hFL
            generalize live f p = lv at *
            cases lv
            . have hT2 : Hid (tells f B.pages = xs ++ tells f (B.pages.drop (k + 1))) := by
               rw [Hid, hT1.out, if_neg (by rw [htd.out]; simp)]
              clear hT1 htd
              go_wp2
              go_roundw
              case rel => exact ⟨k + 1, xs, v, by omega, by go_num, rfl, by omega, hO6, hb.trans (hB6.mono hsr), hB.trans (hB6.mono hB.size), hT2⟩
              case measure => simp [intOf]; omega
            . have hT2 : Hid (tells f B.pages = (xs ++ [Zk p]) ++ tells f (B.pages.drop (k + 1))) := by rw [Hid, hT1.out, if_pos (by rw [htd.out, hk1'.out]; simp)]
              clear hT1 htd
              go_wp2_with fail
              refine (Jk ⟨1, p.rc.seq, p.rc.addr, p.rc.val⟩ _).mono ?_
              rintro e w7 ⟨rfl, hb7⟩
              dsimp only
              have hs7 := hb7.size
              have hB7 := hB6.trans (hb7.mono hB6.size)
              have hO7 := (hO6.below hb7 nl).below ((Below.refl w7.heap.size _).alloc nl (.cells #[.int .i64 1, .int .i64 p.rc.addr, .int .i64 p.rc.val, .int .i64 0, .int .i64 0, .int .i64 0, .int .i64 0, .int .i64 0] 81)) nl
              have hnb : ∀ q, v.ownBlock = some q -> w4.heap.size ≤ q := fun q e => (World.ownsRow.lt hO7 q e).1
              have hBs := hB.size
              clear hO6 hb7 hB6
              go_wp2_with (at_builtin; refine wpList_append_lies _ rfl (.tmp 63) (.tmp 67) _ rfl w4.heap.size 81 ib _ 8 64 Tryz.underlying39 hib hbz0 hbz1 hbz2 rfl (by omega) v xs.length (sps xs) rfl hO7 ⟨w7.heap.size, 0, none⟩ 1 1 (Zk p).vs rfl rfl (World.news_of_block (cs := #[.int .i64 1, .int .i64 p.rc.addr, .int .i64 p.rc.val, .int .i64 0, .int .i64 0, .int .i64 0, .int .i64 0, .int .i64 0]) (t := 81) (fr := (0, 0)) (heap_alloc_new w7 _)) (by simp [Value.oneCell', Zk, Sp.vs, rc0]) (by omega) (by unfold maxLen; omega) (by omega) (by simp; omega) (w7.heap.size + 1) (by simp) ?_; intro g2 c2 w8 hown2 hgrow2 hat2 hlt2)
              have hbb : Below w4.heap.size w7 w8 := ((Below.refl _ _).alloc (by omega) _).grown hgrow2 (by simp; omega) hnb
              have hB8 := (hB7.mono hsr).trans hbb
              have hOS := OwnS.snoc (x := Zk p) rfl hown2
              go_roundw
              case rel => exact ⟨k + 1, xs ++ [Zk p], _, by omega, by go_num, rfl, by simp; omega, hOS, hb.trans hB8, hB.trans (hB8.mono (by omega)), hT2⟩
              case measure => simp [intOf]; omega
          . rw [show decide (p.rc.kind = 1) = false by simpa using hk1]
            have hT2 : Hid (tells f B.pages = xs ++ tells f (B.pages.drop (k + 1))) := by
             rw [Hid, hT1.out, if_neg (by rw [htd.out]; simp [hk1])]
            clear hT1 htd hk1
            go_wp2
            go_roundw
            case rel => exact ⟨k + 1, xs, v, by omega, by go_num, rfl, by omega, hO5, hb.trans (hB5.mono hsr), hB.trans (hB5.mono hB.size), hT2⟩
            case measure => simp [intOf]; omega
        . obtain rfl : k = 4 := by omega
          have hT2 : Hid (tells f B.pages = xs) := by
           rw [Hid, hT.out, List.drop_of_length_le (by rw [HB4.out]; exact Nat.le_refl _)]
           simp [tells]
          rw [hT2.out] at h3
          have hO1 := hO.below ((Below.refl wr.heap.size _).alloc nl (.cells #[.int .i64 2, .int .i64 0, .int .i64 0, .int .i64 i, .int .i64 0, .int .i64 0, .int .i64 0, .int .i64 0] 81)) nl
          have hnb : ∀ q, v.ownBlock = some q -> w4.heap.size ≤ q := fun q e => (World.ownsRow.lt hO q e).1
          have hBs := hB.size
          clear hT hR hRr z0 hO
          go_wp2_with (first | (at_builtin; refine wpList_append_lies _ rfl (.tmp 70) (.tmp 73) _ rfl w4.heap.size 81 ib _ 8 64 Tryz.underlying39 hib hbz0 hbz1 hbz2 rfl (by omega) v xs.length (sps xs) rfl hO1 ⟨wr.heap.size, 0, none⟩ 1 1 (⟨2, 0, 0, i, rc0⟩ : Sp).vs rfl rfl (World.news_of_block (cs := #[.int .i64 2, .int .i64 0, .int .i64 0, .int .i64 i, .int .i64 0, .int .i64 0, .int .i64 0, .int .i64 0]) (t := 81) (fr := (0, 0)) (heap_alloc_new wr _)) (by simp [Value.oneCell', Sp.vs, rc0]) (by omega) (by unfold maxLen; omega) (by omega) (by simp; omega) (wr.heap.size + 1) (by simp) ?_; intro g2 c2 w8 hown2 hgrow2 hat2 hlt2; have hbb : Below w4.heap.size wr w8 := ((Below.refl _ _).alloc (by omega) _).grown hgrow2 (by simp; omega) hnb; have y0 := (hbb.cell (p := ⟨w1.heap.size, 0, none⟩) (by show w1.heap.size < _; omega)).trans r0; have y1 := (hbb.cell (p := ⟨w1.heap.size, 1, none⟩) (by show w1.heap.size < _; omega)).trans r1; have y2 := (hbb.cell (p := ⟨w1.heap.size, 2, none⟩) (by show w1.heap.size < _; omega)).trans r2; have y3 := (hbb.cell (p := ⟨w1.heap.size, 3, none⟩) (by show w1.heap.size < _; omega)).trans r3; have hOS := OwnS.snoc (x := ⟨2, 0, 0, i, rc0⟩) rfl hown2; have hs8 := hbb.size; have hO2 := hOS.below ((Below.refl w8.heap.size _).alloc nl (.cells #[.int .i64 3, .int .i64 0, .int .i64 0, .int .i64 i, .int .i64 kind, .int .i64 nx, .int .i64 addr, .int .i64 val] 81)) nl; have hnb2 : ∀ q, (Value.slice (some ⟨g2, 0, none⟩) (xs.length + 1) c2).ownBlock = some q -> w4.heap.size ≤ q := fun q e => (World.ownsRow.lt hOS q e).1; have hlx : (xs ++ [(⟨2, 0, 0, i, rc0⟩ : Sp)]).length = xs.length + 1 := (by simp); unfold OwnS at hO2; rw [hlx] at hO2; clear hown2 hgrow2 hOS hO1) | (at_builtin; refine wpList_append_lies _ rfl (.tmp 75) (.tmp 79) _ rfl w4.heap.size 81 ib _ 8 64 Tryz.underlying39 hib hbz0 hbz1 hbz2 rfl (by omega) (.slice (some ⟨g2, 0, none⟩) (xs.length + 1) c2) (xs.length + 1) (sps (xs ++ [⟨2, 0, 0, i, rc0⟩])) rfl hO2 ⟨w8.heap.size, 0, none⟩ 1 1 (⟨3, 0, 0, i, ⟨kind, nx, addr, val⟩⟩ : Sp).vs rfl rfl (World.news_of_block (cs := #[.int .i64 3, .int .i64 0, .int .i64 0, .int .i64 i, .int .i64 kind, .int .i64 nx, .int .i64 addr, .int .i64 val]) (t := 81) (fr := (0, 0)) (heap_alloc_new w8 _)) (by simp [Value.oneCell', Sp.vs]) (by omega) (by unfold maxLen; omega) (by omega) (by simp; omega) (w8.heap.size + 1) (by simp) ?_; intro g3 c3 w9 hown3 hgrow3 hat3 hlt3))
          have hbb2 : Below w4.heap.size w8 w9 := ((Below.refl _ _).alloc (by omega) _).grown hgrow3 (by simp; omega) hnb2
          have hOS := OwnS.snoc (xs := xs ++ [⟨2, 0, 0, i, rc0⟩]) (x := ⟨3, 0, 0, i, ⟨kind, nx, addr, val⟩⟩) rfl (by rw [hlx]; exact hown3)
          rw [hlx] at hOS
          go_ret
          rw [h3.out]
          exact ⟨_, rfl, hOS.mono (by omega), hB.trans ((hbb.trans hbb2).mono (by omega))⟩
   . rw [if_pos rfl] at hroom
     have h3 : Hid (wr f kind addr val = [⟨3, 0, 0, bi, ⟨kind, nx, addr, val⟩⟩]) := by rw [Hid, hfin2.out, hroom.out]; rfl
     clear hfin2 hroom
     go_wp2
     go_ret
     rw [h3.out]
     exact ⟨_, rfl, OwnS.one w3 w.heap.size (by omega) ⟨3, 0, 0, bi, ⟨kind, nx, addr, val⟩⟩, hB3.alloc hB3.size _⟩
 . have hr' : xk ⟨kind, nx, addr, val⟩ = false := by simpa using hr
   have h3 : Hid (wr f kind addr val = []) := by rw [Hid, hfin.out, if_pos (.inr hr')]
   rw [hr']
   go_wp2
   go_ret
   rw [h3.out]
   exact ⟨_, rfl, OwnS.nul _ _, hB2⟩
end
end Go.Proofs.YtclnogfmmekooaaGreat
open Go.RowKit Go.IntWalk Go.Maps
namespace Go.Proofs.YtclnogfmmekooaaGreat
section
theorem zc6 {s : St} (h : xg s = true) : s.flash.length = 4 ∧ s.disk.length = 6 ∧ zc s.flash = true ∧ (∀ b ∈ s.flash, b.pages.length = 4) ∧ (∀ b ∈ s.flash, most b < 1000000000000) := by
 have k := xx.1 h
 exact ⟨zf k.flash, k.len, k.flash, fun b hb => (xb k.flash hb).1, Jw (Jn k.flash)⟩
def x9 (s : St) (xs : List Sp) : List Sp := if xg s = true then xs else []
def jz (w : World) (xs : List Sp) (e : Ending) (w' : World) : Prop := ∃ v, e = .returned v ∧ OwnS w' w.heap.size v xs ∧ Below w.heap.size w w'
theorem zdb (s : St) (a v : Int) (A D : Option Addr) (n m c d : Nat) (w : World) (hn : n = s.flash.length) (hm : m = s.disk.length) (hF : Fl w A s.flash) (hD : Row w D (ints s.disk)) :
 Calls Tryz.prog 13 #[.agg #[.slice A n c, .slice D m d], .int .i64 a, .int .i64 v] w (jz w (x9 s (wr s.flash 1 a v))) := by
 have hF0 : Fl (w.alloc (.cells #[.slice A n c, .slice D m d] 28)) A s.flash := hF.alloc _
 have hD0 : Row (w.alloc (.cells #[.slice A n c, .slice D m d] 28)) D (ints s.disk) := hD.alloc _
 have hSO : Hid (Calls Tryz.prog 11 #[.agg #[.slice A n c, .slice D m d]] (w.alloc (.cells #[.slice A n c, .slice D m d] 28)) fun e w' => e = .returned (.bool (xg s)) ∧ Below (w.alloc (.cells #[.slice A n c, .slice D m d] 28)).heap.size (w.alloc (.cells #[.slice A n c, .slice D m d] 28)) w') := j8 s A D n m c d _ hn hm hF0 hD0
 by_cases hok : xg s = true
 . have hfin : Hid (x9 s (wr s.flash 1 a v) = wr s.flash 1 a v) := by unfold Hid x9; rw [if_pos hok]
   obtain ⟨h4, h6, hfl, hp4, hms⟩ := zc6 hok
   obtain rfl : n = 4 := by omega
   obtain rfl : m = 6 := by omega
   rw [hok] at hSO
   have HFL := Lib.hid hfl
   have H4 := Lib.hid h4
   have H6 := Lib.hid h6
   have HP := Lib.hid hp4
   have HM := Lib.hid hms
   have HOK := Lib.hid (xx.1 hok)
   clear hok h4 h6 hfl hp4 hms hm hn
   go_enter Tryz.func13, Tryz.ntmps13
   go_wp2_with fail
   with_reducible refine hSO.out.mono ?_
   rintro e w1 ⟨rfl, hb⟩
   have hB : Below w.heap.size w w1 := ((Below.refl _ _).alloc nl _).trans (hb.mono (by simp))
   have hz : w.heap.size < w1.heap.size := by have := hb.size; simp at this; omega
   obtain ⟨hc, hfz⟩ := jr hb
   have x0 : w1.cell? ⟨w.heap.size, 0, none⟩ = some (.slice A 4 c) := (hc _ _ (by simp)).trans (by simp)
   have x1 : w1.cell? ⟨w.heap.size, 1, none⟩ = some (.slice D 6 d) := (hc _ _ (by simp)).trans (by simp)
   have hF1 := hF.below hB nl
   have hD1 := hD.below hB nl
   clear hb hc hfz hSO hF0 hD0
   go_wp2_with fail
   refine (qu s.flash 1 a v A _ c _ H4.out.symm HFL.out hF1).mono ?_
   rintro e w2 ⟨v, rfl, hO, hb2⟩
   go_wp2
   go_ret
   exact ⟨_, rfl, by rw [hfin.out]; exact hO.mono hB.size, hB.trans (hb2.mono hB.size)⟩
 . have hfin : Hid (x9 s (wr s.flash 1 a v) = []) := by unfold Hid x9; rw [if_neg hok]
   rw [show xg s = false by simpa using hok] at hSO
   clear hok hn hm
   go_enter Tryz.func13, Tryz.ntmps13
   go_wp2_with fail
   with_reducible refine hSO.out.mono ?_
   rintro e w1 ⟨rfl, hb⟩
   have hB : Below w.heap.size w w1 := ((Below.refl _ _).alloc nl _).trans (hb.mono (by simp))
   have hz : w.heap.size ≤ w1.heap.size := hB.size
   go_wp2
   go_ret
   rw [jz]
   exact ⟨_, rfl, by rw [hfin.out]; exact OwnS.nul _ _, hB⟩
theorem OwnS.shape' {w : World} {base : Nat} {v : Value} {xs : List Sp} (h : OwnS w base v xs) : ∃ A c, v = .slice A xs.length c ∧ xs.length ≤ c ∧ Row w A (sps xs) ∧ ∀ b, blk A b -> base ≤ b ∧ b < w.heap.size := h.shape
theorem Xw (s : St) (a : Int) (A D : Option Addr) (n m c d : Nat) (w : World) (hn : n = s.flash.length) (hm : m = s.disk.length) (hF : Fl w A s.flash) (hD : Row w D (ints s.disk)) :
 Calls Tryz.prog 119 #[.agg #[.slice A n c, .slice D m d], .int .i64 a] w (jz w (x9 s (kg s a))) := by
 obtain ⟨ib, hib, hbz0, hbz1, hbz2⟩ := info_parts Tryz.info3_step
 have hF0 : Fl (w.alloc (.cells #[.slice A n c, .slice D m d] 28)) A s.flash := hF.alloc _
 have hD0 : Row (w.alloc (.cells #[.slice A n c, .slice D m d] 28)) D (ints s.disk) := hD.alloc _
 have hSO : Hid (Calls Tryz.prog 11 #[.agg #[.slice A n c, .slice D m d]] (w.alloc (.cells #[.slice A n c, .slice D m d] 28)) fun e w' => e = .returned (.bool (xg s)) ∧ Below (w.alloc (.cells #[.slice A n c, .slice D m d] 28)).heap.size (w.alloc (.cells #[.slice A n c, .slice D m d] 28)) w') := j8 s A D n m c d _ hn hm hF0 hD0
 by_cases hok : xg s = true
 . have hfin : Hid (x9 s (kg s a) = kg s a) := by unfold Hid x9; rw [if_pos hok]
   obtain ⟨h4, h6, hfl, hp4, hms⟩ := zc6 hok
   obtain rfl : n = 4 := by omega
   obtain rfl : m = 6 := by omega
   rw [hok] at hSO
   have HFL := Lib.hid hfl
   have H4 := Lib.hid h4
   have H6 := Lib.hid h6
   have HP := Lib.hid hp4
   have HM := Lib.hid hms
   have HOK := Lib.hid (xx.1 hok)
   clear hok h4 h6 hfl hp4 hms hm hn
   go_enter Tryz.func119, Tryz.ntmps119
   go_wp2_with fail
   with_reducible refine hSO.out.mono ?_
   rintro e w1 ⟨rfl, hb⟩
   have hB : Below w.heap.size w w1 := ((Below.refl _ _).alloc nl _).trans (hb.mono (by simp))
   have hz : w.heap.size < w1.heap.size := by have := hb.size; simp at this; omega
   obtain ⟨hc, hfz⟩ := jr hb
   have x0 : w1.cell? ⟨w.heap.size, 0, none⟩ = some (.slice A 4 c) := (hc _ _ (by simp)).trans (by simp)
   have x1 : w1.cell? ⟨w.heap.size, 1, none⟩ = some (.slice D 6 d) := (hc _ _ (by simp)).trans (by simp)
   have hF1 := hF.below hB nl
   have hD1 := hD.below hB nl
   clear hb hc hfz hSO hF0 hD0
   have hq : Hid (kg s a = if kj a = false ∨ xq s.flash a = false then [] else if wr s.flash 2 a (xh s a) = [] then [] else ⟨1, a, xh s a, 0, rc0⟩ :: wr s.flash 2 a (xh s a)) := rfl
   go_wp2_with fail
   refine (Z6 s.flash a A _ c _ H4.out.symm hF1).mono ?_
   rintro e w2 ⟨rfl, hb2⟩
   replace x0 := (hb2.cell (p := ⟨w.heap.size, 0, none⟩) hz).trans x0
   have hB2 := hB.trans (hb2.mono hB.size)
   have hz2 := hb2.size
   clear hb2 hB x1
   by_cases hfd : kj a = true ∧ 0 < (last s.flash a).seq
   . obtain ⟨ha, hpos⟩ := hfd
     have hfe : kh s.flash a = (last s.flash a, true) := by unfold kh; rw [if_pos ⟨ha, HFL.out⟩]; congr 1; simpa using hpos
     have hra : (last s.flash a).addr = a := (Kc (J2 HFL.out) hpos).2
     have hdy : Hid (xq s.flash a = decide ((last s.flash a).kind = 1)) := by unfold Hid xq; rw [show decide (0 < (last s.flash a).seq) = true by simpa using hpos]; rfl
     have hrv : xh s a = (last s.flash a).val := by unfold xh; rw [if_pos hpos]
     rw [hfe]
     rw [hrv] at hq
     have HRA := Lib.hid hra
     have HA := Lib.hid ha
     generalize last s.flash a = r at *
     clear hfe hra hrv hpos ha
     unfold rcA
     dsimp only
     go_wp2_with fail
     refine (Xv r _).mono ?_
     rintro e w3 ⟨rfl, hb3⟩
     obtain ⟨hc, hfz⟩ := jr hb3
     have r0 : w3.cell? ⟨w2.heap.size, 0, none⟩ = some (.int .i64 r.kind) := (hc _ _ (by simp)).trans (by simp)
     have r1 : w3.cell? ⟨w2.heap.size, 1, none⟩ = some (.int .i64 r.seq) := (hc _ _ (by simp)).trans (by simp)
     have r2 : w3.cell? ⟨w2.heap.size, 2, none⟩ = some (.int .i64 r.addr) := (hc _ _ (by simp)).trans (by simp)
     have r3 : w3.cell? ⟨w2.heap.size, 3, none⟩ = some (.int .i64 r.val) := (hc _ _ (by simp)).trans (by simp)
     have y0 : w3.cell? ⟨w.heap.size, 0, none⟩ = some (.slice A 4 c) := (hc _ _ (by simp; omega)).trans (y7 x0 _)
     have hB3 : Below w.heap.size w w3 := (hB2.alloc hB2.size _).trans (hb3.mono (by have := hB2.size; simp; omega))
     have hz3 : w2.heap.size + 1 ≤ w3.heap.size := by have := hb3.size; simpa using this
     clear hb3 hc hfz x0 hB2
     by_cases hk : r.kind = 1
     . rw [show decide (r.kind = 1) = true by simpa using hk]
       have hq2 : Hid (kg s a = if wr s.flash 2 a r.val = [] then [] else ⟨1, a, r.val, 0, rc0⟩ :: wr s.flash 2 a r.val) := by
        rw [Hid, hq.out, if_neg (by rw [HA.out, hdy.out]; simp [hk])]
       rw [hk] at r0
       clear hk hq hdy
       go_wp2_with fail
       refine (qu s.flash 2 a r.val A _ c _ H4.out.symm HFL.out (hF.below hB3 nl)).mono ?_
       rintro e w4 ⟨v, rfl, hO, hb4⟩
       replace r0 := (hb4.cell (p := ⟨w2.heap.size, 0, none⟩) (by show w2.heap.size < _; omega)).trans r0
       replace r1 := (hb4.cell (p := ⟨w2.heap.size, 1, none⟩) (by show w2.heap.size < _; omega)).trans r1
       replace r2 := (hb4.cell (p := ⟨w2.heap.size, 2, none⟩) (by show w2.heap.size < _; omega)).trans r2
       replace r3 := (hb4.cell (p := ⟨w2.heap.size, 3, none⟩) (by show w2.heap.size < _; omega)).trans r3
       have hB4 := hB3.trans (hb4.mono hB3.size)
       have hz4 := hb4.size
       have hwl := zdw H4.out HP.out 2 a r.val
       generalize wr s.flash 2 a r.val = xs at *
       obtain ⟨A2, c2, rfl, hcap, hRow, hblk⟩ := hO.shape'
       clear hb4 hB3 y0
       by_cases hx : xs = []
       . subst hx
         have h4' : Hid (kg s a = []) := by rw [Hid, hq2.out, if_pos rfl]
         go_wp2
         go_ret
         exact ⟨_, rfl, by rw [hfin.out, h4'.out]; exact OwnS.nul _ _, hB4⟩
       . have h4' : Hid (kg s a = [⟨1, a, r.val, 0, rc0⟩] ++ xs) := by rw [Hid, hq2.out, if_neg hx]; rfl
         have hlen : 0 < xs.length := List.length_pos_iff.2 hx
         have hle : ((xs.length : Int) == 0) = false := by rw [beq_eq_false_iff_ne]; omega
         obtain ⟨g2, o2, rfl⟩ := hRow.addr (by intro e; have := Zl xs; rw [e] at this; simp at this; omega)
         clear hq2
         go_wp2_with fail
         refine (Jk ⟨1, r.seq, r.addr, r.val⟩ _).mono ?_
         rintro e w5 ⟨rfl, hb5⟩
         dsimp only
         rw [HRA.out]
         have hB5 := hB4.trans (hb5.mono hB4.size)
         have hz5 := hb5.size
         have hRow5 := hRow.below hb5 nl
         have hlit : OwnS (w5.alloc (.cells #[.int .i64 1, .int .i64 a, .int .i64 r.val, .int .i64 0, .int .i64 0, .int .i64 0, .int .i64 0, .int .i64 0] 81)) w.heap.size (.slice (some ⟨w5.heap.size, 0, none⟩) 1 1) [⟨1, a, r.val, 0, rc0⟩] := OwnS.one w5 w.heap.size (by omega) ⟨1, a, r.val, 0, rc0⟩
         clear hRow hb5 hB4
         go_wp2_with (at_builtin; refine wpList_append_lies _ rfl (.tmp 36) (.tmp 37) _ rfl w.heap.size 81 ib _ 8 64 Tryz.underlying39 hib hbz0 hbz1 hbz2 rfl (by omega) (.slice (some ⟨w5.heap.size, 0, none⟩) 1 1) 1 (sps [⟨1, a, r.val, 0, rc0⟩]) rfl hlit ⟨g2, o2, none⟩ xs.length c2 (sps xs) rfl (Zl xs) ((hRow5.alloc _).news) (zgd xs) hlen (by unfold maxLen; omega) (by omega) (by simp; omega) (w5.heap.size + 1) (by simp) ?_; intro g3 c3 w6 hown2 hgrow2 hat2 hlt2)
         have hbb : Below w5.heap.size w5 w6 := ((Below.refl _ _).alloc (by omega) _).grown hgrow2 (by simp) (by intro q e; cases e; exact Nat.le_refl _)
         have hOS := OwnS.onto (xs := [⟨1, a, r.val, 0, rc0⟩]) rfl hown2
         go_ret
         exact ⟨_, rfl, by rw [hfin.out, h4'.out]; exact hOS, hB5.trans (hbb.mono (by omega))⟩
     . rw [show decide (r.kind = 1) = false by simpa using hk]
       have hq2 : Hid (kg s a = []) := by rw [Hid, hq.out, if_pos (.inr (by rw [hdy.out]; simpa using hk))]
       go_wp2
       go_ret
       exact ⟨_, rfl, by rw [hfin.out, hq2.out]; exact OwnS.nul _ _, hB3⟩
   . have hq2 : Hid (kg s a = []) := by
      rw [Hid, hq.out, if_pos]
      by_cases ha : kj a = true
      . right; unfold xq; rw [show decide (0 < (last s.flash a).seq) = false by simpa using fun h => hfd ⟨ha, h⟩]; rfl
      . left; simpa using ha
     have hfe : (kh s.flash a).2 = false := by
      unfold kh
      split
      . rename_i h; simpa using fun q => hfd ⟨h.1, q⟩
      . rfl
     rw [hfe]
     clear hfe hq hfd
     generalize (kh s.flash a).1 = r at *
     unfold rcA
     go_wp2
     go_ret
     exact ⟨_, rfl, by rw [hfin.out, hq2.out]; exact OwnS.nul _ _, hB2.alloc hB2.size _⟩
 . have hfin : Hid (x9 s (kg s a) = []) := by unfold Hid x9; rw [if_neg hok]
   rw [show xg s = false by simpa using hok] at hSO
   clear hok hn hm
   go_enter Tryz.func119, Tryz.ntmps119
   go_wp2_with fail
   with_reducible refine hSO.out.mono ?_
   rintro e w1 ⟨rfl, hb⟩
   have hB : Below w.heap.size w w1 := ((Below.refl _ _).alloc nl _).trans (hb.mono (by simp))
   have hz : w.heap.size ≤ w1.heap.size := hB.size
   go_wp2
   go_ret
   rw [jz]
   exact ⟨_, rfl, by rw [hfin.out]; exact OwnS.nul _ _, hB⟩
end
end Go.Proofs.YtclnogfmmekooaaGreat
open Go.RowKit Go.IntWalk Go.Maps
namespace Go.Proofs.YtclnogfmmekooaaGreat
section
theorem zba (s : St) (a : Int) (A D : Option Addr) (n m c d : Nat) (w : World) (hn : n = s.flash.length) (hm : m = s.disk.length) (hF : Fl w A s.flash) (hD : Row w D (ints s.disk)) :
 Calls Tryz.prog 134 #[.agg #[.slice A n c, .slice D m d], .int .i64 a] w (jz w (x9 s (fill s a))) := by
 have hF0 : Fl (w.alloc (.cells #[.slice A n c, .slice D m d] 28)) A s.flash := hF.alloc _
 have hD0 : Row (w.alloc (.cells #[.slice A n c, .slice D m d] 28)) D (ints s.disk) := hD.alloc _
 have hSO : Hid (Calls Tryz.prog 11 #[.agg #[.slice A n c, .slice D m d]] (w.alloc (.cells #[.slice A n c, .slice D m d] 28)) fun e w' => e = .returned (.bool (xg s)) ∧ Below (w.alloc (.cells #[.slice A n c, .slice D m d] 28)).heap.size (w.alloc (.cells #[.slice A n c, .slice D m d] 28)) w') := j8 s A D n m c d _ hn hm hF0 hD0
 by_cases hok : xg s = true
 . have hfin : Hid (x9 s (fill s a) = fill s a) := by unfold Hid x9; rw [if_pos hok]
   obtain ⟨h4, h6, hfl, hp4, hms⟩ := zc6 hok
   obtain rfl : n = 4 := by omega
   obtain rfl : m = 6 := by omega
   rw [hok] at hSO
   have HFL := Lib.hid hfl
   have H4 := Lib.hid h4
   have H6 := Lib.hid h6
   have HP := Lib.hid hp4
   have HM := Lib.hid hms
   have HOK := Lib.hid (xx.1 hok)
   clear hok h4 h6 hfl hp4 hms hm hn
   go_enter Tryz.func134, Tryz.ntmps134
   go_wp2_with fail
   with_reducible refine hSO.out.mono ?_
   rintro e w1 ⟨rfl, hb⟩
   have hB : Below w.heap.size w w1 := ((Below.refl _ _).alloc nl _).trans (hb.mono (by simp))
   have hz : w.heap.size < w1.heap.size := by have := hb.size; simp at this; omega
   obtain ⟨hc, hfz⟩ := jr hb
   have x0 : w1.cell? ⟨w.heap.size, 0, none⟩ = some (.slice A 4 c) := (hc _ _ (by simp)).trans (by simp)
   have x1 : w1.cell? ⟨w.heap.size, 1, none⟩ = some (.slice D 6 d) := (hc _ _ (by simp)).trans (by simp)
   have hF1 := hF.below hB nl
   have hD1 := hD.below hB nl
   clear hb hc hfz hSO hF0 hD0
   by_cases ha : kj a = true
   . obtain ⟨ha1, ha2⟩ := X7.1 ha
     have hAc : ∀ w, Hid (Calls Tryz.prog 74 #[.int .i64 a] w fun e w' => e = .returned (.bool true) ∧ w = w') := fun w => by have := ym a w; rw [ha] at this; exact this
     have hq : Hid (fill s a = if kj a = false ∨ 0 < (last s.flash a).seq then [] else wr s.flash 2 a (s.disk.getD (a - 1).toNat 0)) := rfl
     have hfe : kh s.flash a = (last s.flash a, decide (0 < (last s.flash a).seq)) := by unfold kh; rw [if_pos ⟨ha, HFL.out⟩]
     have HFE := Lib.hid hfe
     have HA := Lib.hid ha
     obtain ⟨i, rfl⟩ : ∃ i : Nat, a = i + 1 := ⟨(a - 1).toNat, by omega⟩
     have hi : i < 6 := by omega
     obtain ⟨v, hv⟩ := zd (l := s.disk) (k := i) (by have := H6.out; omega)
     have hgd : s.disk.getD ((i : Int) + 1 - 1).toNat 0 = v := by rw [show ((i : Int) + 1 - 1).toNat = i by omega, List.getD_eq_getElem?_getD, hv]; rfl
     rw [hgd] at hq
     obtain ⟨db, dO, rfl⟩ := hD1.addr (yc (by intro e; rw [e] at hv; simp at hv))
     have hi6 : (i : Int) < 6 := by omega
     have HV := Lib.hid hv
     clear hv hgd ha hfe
     go_wp2_with (go_at_call 74; with_reducible refine (hAc _).out.mono ?_; rintro e w2 ⟨rfl, rfl⟩)
     with_reducible refine (Z6 s.flash (i + 1) A _ c _ H4.out.symm hF1).mono ?_
     rintro e w2 ⟨rfl, hb2⟩
     rw [HFE.out]
     replace x0 := (hb2.cell (p := ⟨w.heap.size, 0, none⟩) hz).trans x0
     replace x1 := (hb2.cell (p := ⟨w.heap.size, 1, none⟩) hz).trans x1
     have hB2 := hB.trans (hb2.mono hB.size)
     have hz2 := hb2.size
     obtain ⟨hcv, _⟩ := (hD1.below hb2 nl).int_ HV.out
     have hdb := ze hcv
     have hF2 := hF.below hB2 nl
     clear hb2 hB hAc HFE
     generalize last s.flash (i + 1) = x at *
     unfold rcA
     dsimp only
     have hzz : w.heap.size < w2.heap.size := by omega
     by_cases h1 : 0 < x.seq
     . have h3 : Hid (fill s (i + 1) = []) := by rw [Hid, hq.out, if_pos (.inr h1)]
       rw [show decide (0 < x.seq) = true by simpa using h1]
       go_wp2
       go_ret
       exact ⟨_, rfl, by rw [hfin.out, h3.out]; exact OwnS.nul _ _, hB2.alloc hB2.size _⟩
     . have h3 : Hid (fill s (i + 1) = wr s.flash 2 (i + 1) v) := by
        rw [Hid, hq.out, if_neg (by rw [HA.out]; simp; omega)]
       rw [show decide (0 < x.seq) = false by simpa using h1]
       have e1 : IntKind.i64.wrap ((i : Int) + 1 - 1) = i := by rw [show (i : Int) + 1 - 1 = i by omega]; exact IntWalk.i64_in _ (by omega)
       have e2 : IntKind.i64.wrap (i : Int) = i := IntWalk.i64_in _ (by omega)
       have e3 : (i : Int) + 1 - 1 = i := by omega
       have e4 : (0 : Int) ≤ i := by omega
       clear hq h1
       go_wp2
       go_region_with (first | (go_at_call 36; with_reducible refine (qu s.flash 2 (i + 1) v A _ c _ H4.out.symm HFL.out (Fl.drew' (hF2.alloc _))).mono ?_; rintro e w3 ⟨u, rfl, hO, hb3⟩))
       all_goals
        have hle : w.heap.size ≤ (w2.alloc (.cells #[.int .i64 x.kind, .int .i64 x.seq, .int .i64 x.addr, .int .i64 x.val] 64)).drew.heap.size := by show w.heap.size ≤ (w2.alloc _).heap.size; simp; omega
        have hB3 : Below w.heap.size w w3 := ((hB2.alloc hB2.size _).drew).trans (hb3.mono hle)
        clear hb3
        go_wp2
        go_ret
        exact ⟨_, rfl, by rw [hfin.out, h3.out]; exact hO.mono hle, hB3⟩
   . have ha' : kj a = false := by simpa using ha
     have hAc : ∀ w, Hid (Calls Tryz.prog 74 #[.int .i64 a] w fun e w' => e = .returned (.bool false) ∧ w = w') := fun w => by have := ym a w; rw [ha'] at this; exact this
     have h3 : Hid (fill s a = []) := by unfold Hid fill; rw [if_pos (.inl ha')]
     clear ha ha'
     go_wp2_with (go_at_call 74; with_reducible refine (hAc _).out.mono ?_; rintro e w2 ⟨rfl, rfl⟩)
     go_ret
     exact ⟨_, rfl, by rw [hfin.out, h3.out]; exact OwnS.nul _ _, hB⟩
 . have hfin : Hid (x9 s (fill s a) = []) := by unfold Hid x9; rw [if_neg hok]
   rw [show xg s = false by simpa using hok] at hSO
   clear hok hn hm
   go_enter Tryz.func134, Tryz.ntmps134
   go_wp2_with fail
   with_reducible refine hSO.out.mono ?_
   rintro e w1 ⟨rfl, hb⟩
   have hB : Below w.heap.size w w1 := ((Below.refl _ _).alloc nl _).trans (hb.mono (by simp))
   have hz : w.heap.size ≤ w1.heap.size := hB.size
   go_wp2
   go_ret
   rw [jz]
   exact ⟨_, rfl, by rw [hfin.out]; exact OwnS.nul _ _, hB⟩
end
end Go.Proofs.YtclnogfmmekooaaGreat
open Go.RowKit Go.IntWalk Go.Maps
namespace Go.Proofs.YtclnogfmmekooaaGreat
section
theorem zac (s : St) (e : Ev) (A D : Option Addr) (n m c d : Nat) (w : World) (hn : n = s.flash.length) (hm : m = s.disk.length) (hF : Fl w A s.flash) (hD : Row w D (ints s.disk)) :
 Calls Tryz.prog 120 #[.agg #[.slice A n c, .slice D m d], .agg #[.int .i64 e.kind, .int .i64 e.a, .int .i64 e.b, .int .i64 e.c, .bool e.torn]] w (jz w (x9 s (wr s.flash 1 e.a e.b))) := by
 have hB0 : Below w.heap.size w ((w.alloc (.cells #[.slice A n c, .slice D m d] 168)).alloc (.cells #[.int .i64 e.kind, .int .i64 e.a, .int .i64 e.b, .int .i64 e.c, .bool e.torn] 33)) := bw
 have HC := Lib.hid (zdb s e.a e.b A D n m c d _ hn hm (hF.below hB0 nl) (hD.below hB0 nl))
 clear hn hm
 go_enter Tryz.func120, Tryz.ntmps120
 go_wp2_with fail
 with_reducible refine HC.out.mono ?_
 rintro r w1 ⟨v, rfl, hO, hb⟩
 go_wp2
 go_ret
 exact ⟨_, rfl, hO.mono (by simp; omega), hB0.trans (hb.mono (by simp; omega))⟩
theorem J5 (s : St) (e : Ev) (A D : Option Addr) (n m c d : Nat) (w : World) (hn : n = s.flash.length) (hm : m = s.disk.length) (hF : Fl w A s.flash) (hD : Row w D (ints s.disk)) :
 Calls Tryz.prog 121 #[.agg #[.slice A n c, .slice D m d], .agg #[.int .i64 e.kind, .int .i64 e.a, .int .i64 e.b, .int .i64 e.c, .bool e.torn]] w (jz w (x9 s (kg s e.a))) := by
 have hB0 : Below w.heap.size w ((w.alloc (.cells #[.slice A n c, .slice D m d] 168)).alloc (.cells #[.int .i64 e.kind, .int .i64 e.a, .int .i64 e.b, .int .i64 e.c, .bool e.torn] 33)) := bw
 have HC := Lib.hid (Xw s e.a A D n m c d _ hn hm (hF.below hB0 nl) (hD.below hB0 nl))
 clear hn hm
 go_enter Tryz.func121, Tryz.ntmps121
 go_wp2_with fail
 with_reducible refine HC.out.mono ?_
 rintro r w1 ⟨v, rfl, hO, hb⟩
 go_wp2
 go_ret
 exact ⟨_, rfl, hO.mono (by simp; omega), hB0.trans (hb.mono (by simp; omega))⟩
theorem Y0 (s : St) (e : Ev) (A D : Option Addr) (n m c d : Nat) (w : World) (hn : n = s.flash.length) (hm : m = s.disk.length) (hF : Fl w A s.flash) (hD : Row w D (ints s.disk)) :
 Calls Tryz.prog 122 #[.agg #[.slice A n c, .slice D m d], .agg #[.int .i64 e.kind, .int .i64 e.a, .int .i64 e.b, .int .i64 e.c, .bool e.torn]] w (jz w (x9 s (fill s e.a))) := by
 have hB0 : Below w.heap.size w ((w.alloc (.cells #[.slice A n c, .slice D m d] 168)).alloc (.cells #[.int .i64 e.kind, .int .i64 e.a, .int .i64 e.b, .int .i64 e.c, .bool e.torn] 33)) := bw
 have HC := Lib.hid (zba s e.a A D n m c d _ hn hm (hF.below hB0 nl) (hD.below hB0 nl))
 clear hn hm
 go_enter Tryz.func122, Tryz.ntmps122
 go_wp2_with fail
 with_reducible refine HC.out.mono ?_
 rintro r w1 ⟨v, rfl, hO, hb⟩
 go_wp2
 go_ret
 exact ⟨_, rfl, hO.mono (by simp; omega), hB0.trans (hb.mono (by simp; omega))⟩
theorem zbb (s : St) (e : Ev) (A D : Option Addr) (n m c d : Nat) (w : World) (hn : n = s.flash.length) (hm : m = s.disk.length) (hF : Fl w A s.flash) (hD : Row w D (ints s.disk)) :
 Calls Tryz.prog 84 #[.agg #[.slice A n c, .slice D m d], .agg #[.int .i64 e.kind, .int .i64 e.a, .int .i64 e.b, .int .i64 e.c, .bool e.torn]] w (jz w (x9 s (zz s e))) := by
 have hmf : ∀ (fn : Fn) (first cap : Array Value) (w : World), (Instr.makeFunc fn first cap).run Tryz.prog w = .ok (.func fn first cap) w := fun _ _ _ _ => rfl
 have hB0 : Below w.heap.size w ((((w.alloc (.cells #[.slice A n c, .slice D m d] 28)).alloc (.cells #[.int .i64 e.kind, .int .i64 e.a, .int .i64 e.b, .int .i64 e.c, .bool e.torn] 33)).alloc (.cells #[.slice A n c, .slice D m d] 168)).alloc (.cells #[.nilFunc, .func (.func 120) #[.agg #[.slice A n c, .slice D m d]] #[], .func (.func 121) #[.agg #[.slice A n c, .slice D m d]] #[], .func (.func 122) #[.agg #[.slice A n c, .slice D m d]] #[]] 170)) := bw
 have hF0 : Fl ((((w.alloc (.cells #[.slice A n c, .slice D m d] 28)).alloc (.cells #[.int .i64 e.kind, .int .i64 e.a, .int .i64 e.b, .int .i64 e.c, .bool e.torn] 33)).alloc (.cells #[.slice A n c, .slice D m d] 168)).alloc (.cells #[.nilFunc, .func (.func 120) #[.agg #[.slice A n c, .slice D m d]] #[], .func (.func 121) #[.agg #[.slice A n c, .slice D m d]] #[], .func (.func 122) #[.agg #[.slice A n c, .slice D m d]] #[]] 170)).drew A s.flash := (hF.below hB0 nl).drew'
 have hD0 : Row ((((w.alloc (.cells #[.slice A n c, .slice D m d] 28)).alloc (.cells #[.int .i64 e.kind, .int .i64 e.a, .int .i64 e.b, .int .i64 e.c, .bool e.torn] 33)).alloc (.cells #[.slice A n c, .slice D m d] 168)).alloc (.cells #[.nilFunc, .func (.func 120) #[.agg #[.slice A n c, .slice D m d]] #[], .func (.func 121) #[.agg #[.slice A n c, .slice D m d]] #[], .func (.func 122) #[.agg #[.slice A n c, .slice D m d]] #[]] 170)).drew D (ints s.disk) := (hD.below hB0 nl).drew
 have H1 := Lib.hid (zac s e A D n m c d _ hn hm hF0 hD0)
 have H2 := Lib.hid (J5 s e A D n m c d _ hn hm hF0 hD0)
 have H3 := Lib.hid (Y0 s e A D n m c d _ hn hm hF0 hD0)
 clear hn hm hF0 hD0 hF hD
 obtain ⟨k, a, b, ec, t⟩ := e
 dsimp only at *
 by_cases h1 : k = 1
 . subst h1
   have hq : Hid (zz s ⟨1, a, b, ec, t⟩ = wr s.flash 1 a b) := rfl
   go_enter Tryz.func84, Tryz.ntmps84
   go_wp2
   go_region_with (first | (go_at_call 120; (with_reducible refine H1.out.mono ?_); rintro r w1 ⟨v, rfl, hO, hb⟩))
   all_goals
    go_wp2
    go_ret
    exact ⟨_, rfl, by rw [hq.out]; exact hO.mono hB0.size, hB0.drew.trans (hb.mono hB0.size)⟩
 by_cases h2 : k = 2
 . subst h2
   have hq : Hid (zz s ⟨2, a, b, ec, t⟩ = kg s a) := rfl
   go_enter Tryz.func84, Tryz.ntmps84
   go_wp2
   go_region_with (first | (go_at_call 121; (with_reducible refine H2.out.mono ?_); rintro r w1 ⟨v, rfl, hO, hb⟩))
   all_goals
    go_wp2
    go_ret
    exact ⟨_, rfl, by rw [hq.out]; exact hO.mono hB0.size, hB0.drew.trans (hb.mono hB0.size)⟩
 by_cases h3 : k = 3
 . subst h3
   have hq : Hid (zz s ⟨3, a, b, ec, t⟩ = fill s a) := rfl
   go_enter Tryz.func84, Tryz.ntmps84
   go_wp2
   go_region_with (first | (go_at_call 122; (with_reducible refine H3.out.mono ?_); rintro r w1 ⟨v, rfl, hO, hb⟩))
   all_goals
    go_wp2
    go_ret
    exact ⟨_, rfl, by rw [hq.out]; exact hO.mono hB0.size, hB0.drew.trans (hb.mono hB0.size)⟩
 have hq : Hid (x9 s (zz s ⟨k, a, b, ec, t⟩) = []) := by
  unfold Hid zz x9
  dsimp only
  rw [if_neg h1, if_neg h2, if_neg h3]
  split <;> rfl
 have hk : k < 1 ∨ 3 < k := by omega
 rcases hk with hk | hk
 . go_enter Tryz.func84, Tryz.ntmps84
   go_wp2
   go_ret
   exact ⟨_, rfl, by rw [hq.out]; exact OwnS.nul _ _, hB0⟩
 . have hk2 : ¬ k < 1 := by omega
   go_enter Tryz.func84, Tryz.ntmps84
   go_wp2
   go_ret
   exact ⟨_, rfl, by rw [hq.out]; exact OwnS.nul _ _, hB0⟩
end
end Go.Proofs.YtclnogfmmekooaaGreat
