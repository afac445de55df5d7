/- Plain laws: wear and torn pages of a flash of which a block is wiped, or written. -/
import Derived.Test.YtclnogfmmekooaaV7
import Derived.Test.YtclnogfmmekooaaZ9
import Derived.Test.YtclnogfmmekooaaZ8
import Derived.Test.YtclnogfmmekooaaV5
namespace Go.Proofs.Ytclnogfmmekooaa
set_option linter.unusedVariables false
set_option linter.unusedSimpArgs false
theorem fold_add (g : Bk → Int) : ∀ (l : List Bk) (s t : Int), l.foldl (fun a b => a + g b) (s + t) = l.foldl (fun a b => a + g b) s + t
 | [], _, _ => rfl
 | b :: l, s, t => by
   rw [List.foldl_cons, List.foldl_cons, show s + t + g b = s + g b + t by omega]
   exact fold_add g l _ t
theorem fold_set (g : Bk → Int) : ∀ (l : List Bk) (i : Nat) (b c : Bk) (s : Int), l[i]? = some b → (l.set i c).foldl (fun a b => a + g b) s = l.foldl (fun a b => a + g b) s - g b + g c
 | [], _, _, _, _, h => by simp at h
 | x :: l, 0, b, c, s, h => by
   rw [List.getElem?_cons_zero, Option.some.injEq] at h
   subst h
   rw [List.set_cons_zero, List.foldl_cons, List.foldl_cons, fold_add, fold_add g l s (g x)]
   omega
 | x :: l, i + 1, b, c, s, h => by
   rw [List.getElem?_cons_succ] at h
   rw [List.set_cons_succ, List.foldl_cons, List.foldl_cons]
   exact fold_set g l i b c _ h
theorem wSum_set {f : List Bk} {i : Nat} {b : Bk} (h : f[i]? = some b) (c : Bk) : wSum (f.set i c) = wSum f - b.worn + c.worn := fold_set (fun b => b.worn) f i b c 0 h
theorem wTorn_set {f : List Bk} {i : Nat} {b : Bk} (h : f[i]? = some b) (c : Bk) : wTorn (f.set i c) = wTorn f - (tornN b.pages : Int) + (tornN c.pages : Int) := fold_set (fun b => (tornN b.pages : Int)) f i b c 0 h
/-- A block wiped. -/
def wipedBk (b : Bk) (torn : Bool) : Bk := ⟨List.replicate 4 (if torn then ⟨2, rc0⟩ else pg0), b.worn + 1⟩
theorem wipe_set {f : List Bk} {i : Nat} {b : Bk} (h : f[i]? = some b) (torn : Bool) : wipe f i torn = f.set i (wipedBk b torn) := by
 unfold wipe wipedBk
 rw [List.getD_eq_getElem?_getD, h]
 rfl
theorem tornN_wiped (b : Bk) (torn : Bool) : (tornN (wipedBk b torn).pages : Int) = if torn then 4 else 0 := by
 cases torn <;> rfl
theorem blockB_nat {k : Nat} (h : k < 4) : blockB (k : Int) = true := by unfold blockB; simp; omega
theorem flashWipe_at {f : List Bk} (hok : flashOk f = true) {k : Nat} {b : Bk} (hb : f[k]? = some b) (torn : Bool) : flashWipe f (k : Int) torn = if b.worn = 200 then (f, false) else (f.set k (wipedBk b torn), true) := by
 have hk : k < 4 := by rw [← (flash_four hok).1]; exact (List.getElem?_eq_some_iff.1 hb).1
 unfold flashWipe
 rw [if_neg (by rw [hok, blockB_nat hk]; simp), Int.toNat_natCast, List.getD_eq_getElem?_getD, hb, wipe_set hb]
 rfl
/-- What a wipe leaves. -/
theorem wiped_keeps {f : List Bk} (hok : flashOk f = true) {k : Nat} {b : Bk} (hb : f[k]? = some b) (hw : b.worn ≠ 200) (torn : Bool) : flashOk (f.set k (wipedBk b torn)) = true := by
 have hk : k < 4 := by rw [← (flash_four hok).1]; exact (List.getElem?_eq_some_iff.1 hb).1
 rw [← wipe_set hb]
 exact wiped_ok hok hk torn (by rw [List.getD_eq_getElem?_getD, hb]; exact hw)
theorem wiped_sum {f : List Bk} {k : Nat} {b : Bk} (hb : f[k]? = some b) (torn : Bool) : wSum (f.set k (wipedBk b torn)) = wSum f + 1 := by
 rw [wSum_set hb]; show _ - b.worn + (b.worn + 1) = _; omega
theorem wiped_torn {f : List Bk} {k : Nat} {b : Bk} (hb : f[k]? = some b) (torn : Bool) : wTorn (f.set k (wipedBk b torn)) = wTorn f - (tornN b.pages : Int) + (if torn then 4 else 0) := by
 rw [wTorn_set hb, tornN_wiped]
theorem wLo_mem {f : List Bk} (hok : flashOk f = true) : ∃ b ∈ f, b.worn = wLo f := by
 have key : ∀ (l : List Bk) (a : Int), l.foldl loS a = a ∨ ∃ b ∈ l, b.worn = l.foldl loS a := by
  intro l
  induction l with
  | nil => intro a; exact .inl rfl
  | cons x l ih =>
    intro a
    rw [List.foldl_cons]
    rcases ih (loS a x) with h | ⟨b, hb, h⟩
    · rw [h]
      unfold loS
      split
      · exact .inr ⟨x, List.mem_cons_self .., rfl⟩
      · exact .inl rfl
    · exact .inr ⟨b, List.mem_cons_of_mem _ hb, h⟩
 obtain ⟨b, hb⟩ := flash_ne hok
 rcases key f 200 with h | h
 · have h1 := wLo_le hb
   have h2 := ((flash_four hok).2 b hb).2.2
   refine ⟨b, hb, ?_⟩
   have : wLo f = 200 := h
   omega
 · exact h
theorem wHi_mem {f : List Bk} (hok : flashOk f = true) : ∃ b ∈ f, b.worn = wHi f := by
 have key : ∀ (l : List Bk) (a : Int), l.foldl hiS a = a ∨ ∃ b ∈ l, b.worn = l.foldl hiS a := by
  intro l
  induction l with
  | nil => intro a; exact .inl rfl
  | cons x l ih =>
    intro a
    rw [List.foldl_cons]
    rcases ih (hiS a x) with h | ⟨b, hb, h⟩
    · rw [h]
      unfold hiS
      split
      · exact .inr ⟨x, List.mem_cons_self .., rfl⟩
      · exact .inl rfl
    · exact .inr ⟨b, List.mem_cons_of_mem _ hb, h⟩
 obtain ⟨b, hb⟩ := flash_ne hok
 rcases key f 0 with h | h
 · have h1 := le_wHi hb
   have h2 := ((flash_four hok).2 b hb).2.1
   refine ⟨b, hb, ?_⟩
   have : wHi f = 0 := h
   omega
 · exact h
theorem set_mem {f : List Bk} {k : Nat} {b c x : Bk} (hb : f[k]? = some b) (h : x ∈ f.set k c) : x = c ∨ ∃ j, j ≠ k ∧ f[j]? = some x := by
 obtain ⟨j, hj⟩ := List.mem_iff_getElem?.1 h
 by_cases e : k = j
 · subst e
   rw [List.getElem?_set_self (List.getElem?_eq_some_iff.1 hb).1] at hj
   cases hj
   exact .inl rfl
 · rw [List.getElem?_set_ne e] at hj
   exact .inr ⟨j, fun x => e x.symm, hj⟩
/-- The least worn wiped. -/
theorem spread_low {f : List Bk} (hok : flashOk f = true) {k : Nat} {b : Bk} (hb : f[k]? = some b) (hl : b.worn = wLo f) (hw : b.worn ≠ 200) (torn : Bool) :
 wHi (f.set k (wipedBk b torn)) - wLo (f.set k (wipedBk b torn)) ≤ max (wHi f - wLo f) 1 := by
 have hok' := wiped_keeps hok hb hw torn
 obtain ⟨x, hx, ex⟩ := wHi_mem hok'
 obtain ⟨y, hy, ey⟩ := wLo_mem hok'
 have h1 : x.worn ≤ wHi f ∨ x.worn = wLo f + 1 := by
  rcases set_mem hb hx with rfl | ⟨j, _, hj⟩
  · right; show b.worn + 1 = _; omega
  · exact .inl (le_wHi (List.mem_of_getElem? hj))
 have h2 : wLo f ≤ y.worn := by
  rcases set_mem hb hy with rfl | ⟨j, _, hj⟩
  · show _ ≤ b.worn + 1; omega
  · exact wLo_le (List.mem_of_getElem? hj)
 omega
/-- The most worn wiped. -/
theorem spread_high {f : List Bk} (hok : flashOk f = true) {k : Nat} {b : Bk} (hb : f[k]? = some b) (hl : b.worn = wHi f) (hw : b.worn ≠ 200) (torn : Bool) :
 wHi (f.set k (wipedBk b torn)) - wLo (f.set k (wipedBk b torn)) = wHi f - wLo f + 1 := by
 have hok' := wiped_keeps hok hb hw torn
 have hk := (List.getElem?_eq_some_iff.1 hb).1
 have h4 := (flash_four hok).1
 obtain ⟨x, hx, ex⟩ := wHi_mem hok'
 obtain ⟨y, hy, ey⟩ := wLo_mem hok'
 have h1 : x.worn ≤ wHi f + 1 := by
  rcases set_mem hb hx with rfl | ⟨j, _, hj⟩
  · show b.worn + 1 ≤ _; omega
  · have := le_wHi (List.mem_of_getElem? hj); omega
 have h2 : wLo f ≤ y.worn := by
  rcases set_mem hb hy with rfl | ⟨j, _, hj⟩
  · have := wLo_le (List.mem_of_getElem? hb); show _ ≤ b.worn + 1; omega
  · exact wLo_le (List.mem_of_getElem? hj)
 have h3 : wHi f + 1 ≤ wHi (f.set k (wipedBk b torn)) := by
  have : (wipedBk b torn) ∈ f.set k (wipedBk b torn) := List.mem_iff_getElem?.2 ⟨k, List.getElem?_set_self hk⟩
  have := le_wHi this
  have e : (wipedBk b torn).worn = b.worn + 1 := rfl
  omega
 have h5 : ∃ j c, j ≠ k ∧ f[j]? = some c ∧ c.worn = wLo f := by
  obtain ⟨c, hc, ec⟩ := wLo_mem hok
  obtain ⟨j, hj⟩ := List.mem_iff_getElem?.1 hc
  by_cases e : j = k
  · subst e
    rw [hb] at hj; cases hj
    obtain ⟨j', hj', hlt⟩ : ∃ j', j' ≠ j ∧ j' < f.length := by
     by_cases h0 : j = 0
     · exact ⟨1, by omega, by omega⟩
     · exact ⟨0, by omega, by omega⟩
    obtain ⟨d, hd⟩ := get_some hlt
    have u1 := wLo_le (List.mem_of_getElem? hd)
    have u2 := le_wHi (List.mem_of_getElem? hd)
    exact ⟨j', d, hj', hd, by omega⟩
  · exact ⟨j, c, e, hj, ec⟩
 obtain ⟨j, c, hjk, hj, ec⟩ := h5
 have h6 : c ∈ f.set k (wipedBk b torn) := List.mem_iff_getElem?.2 ⟨j, by rw [List.getElem?_set_ne (fun e => hjk e.symm)]; exact hj⟩
 have h7 := wLo_le h6
 omega
/-- What is written wears nothing. -/
theorem written_sum {f : List Bk} {k : Nat} {b : Bk} (hb : f[k]? = some b) (r : Rc) (torn : Bool) : wSum (f.set k (putBk b r torn)) = wSum f := by
 rw [wSum_set hb]; show _ - b.worn + b.worn = _; omega
theorem tornN_set : ∀ (ps : List Pg) (k : Nat) (p q : Pg), ps[k]? = some p → p.state ≠ 2 → (tornN (ps.set k q) : Int) = (tornN ps : Int) + if q.state = 2 then 1 else 0
 | [], _, _, _, h, _ => by simp at h
 | x :: ps, 0, p, q, h, h2 => by
   rw [List.getElem?_cons_zero, Option.some.injEq] at h
   subst h
   rw [List.set_cons_zero, tornN_cons, tornN_cons, if_neg h2]
   omega
 | x :: ps, k + 1, p, q, h, h2 => by
   rw [List.getElem?_cons_succ] at h
   have ih := tornN_set ps k p q h h2
   rw [List.set_cons_succ, tornN_cons, tornN_cons]
   omega
/-- What is torn is one more. -/
theorem written_torn {f : List Bk} (hok : flashOk f = true) {k : Nat} {b : Bk} (hb : f[k]? = some b) (hc : clean b ≠ 0) (r : Rc) : wTorn (f.set k (putBk b r true)) = wTorn f + 1 := by
 obtain ⟨l4, _, hs, hbp⟩ := bk_parts hok (List.mem_of_getElem? hb)
 obtain ⟨_, ⟨p, hp, hp0⟩, _⟩ := shape_put l4 hs (q := ⟨2, rc0⟩) (by show (2 : Int) ≠ 0; decide) hc
 rw [wTorn_set hb, show (tornN (putBk b r true).pages : Int) = (tornN b.pages : Int) + 1 from by
  have := tornN_set b.pages (4 - b.pages.countP isClean) p ⟨2, rc0⟩ hp (by omega)
  rw [if_pos rfl] at this
  exact this]
 omega
/-- What FlashWrite answers, of an ok flash. -/
theorem flashWrite_cases {f : List Bk} (hok : flashOk f = true) (k : Int) (r : Rc) (torn : Bool) :
 (flashWrite f k r torn).2 = false ∨ ∃ (i : Nat) (b : Bk), f[i]? = some b ∧ clean b ≠ 0 ∧ flashOk (f.set i (putBk b r torn)) = true ∧ flashWrite f k r torn = (f.set i (putBk b r torn), true) := by
 by_cases hc : blockB k = true ∧ recOk r = true
 · obtain ⟨hk, hr⟩ := hc
   unfold blockB at hk
   simp only [Bool.and_eq_true, decide_eq_true_iff] at hk
   obtain ⟨i, rfl⟩ := Int.eq_ofNat_of_zero_le hk.1
   have hi : i < 4 := by omega
   obtain ⟨b, hb⟩ := get_some (l := f) (k := i) (by rw [(flash_four hok).1]; exact hi)
   rw [write_some hok hb hr]
   split
   · exact .inl rfl
   · rename_i h
     exact .inr ⟨i, b, hb, fun e => h (.inl e), put_ok4 hok hb hr torn (fun e => h (.inl e)) (fun e => h (.inr e)), rfl⟩
 · left
   unfold flashWrite
   rw [if_pos]
   by_cases hk : blockB k = true
   · exact .inr (.inr (by simpa using fun e => hc ⟨hk, e⟩))
   · exact .inr (.inl (by simpa using hk))
/-- The first k blocks wiped. -/
def wipeN (f : List Bk) : Nat → List Bk
 | 0 => f
 | k + 1 => match (wipeN f k)[k]? with
   | some b => (wipeN f k).set k (wipedBk b false)
   | none => wipeN f k
theorem wipeN_from (f : List Bk) : ∀ (k j : Nat), k ≤ j → (wipeN f k)[j]? = f[j]?
 | 0, _, _ => rfl
 | k + 1, j, h => by
   rw [wipeN]
   split
   · rw [List.getElem?_set_ne (by omega)]
     exact wipeN_from f k j (by omega)
   · exact wipeN_from f k j (by omega)
theorem wipeN_succ {f : List Bk} {k : Nat} {b : Bk} (hb : f[k]? = some b) : wipeN f (k + 1) = (wipeN f k).set k (wipedBk b false) := by
 rw [wipeN, wipeN_from f k k (Nat.le_refl _), hb]
theorem wipeN_below (f : List Bk) : ∀ (k j : Nat) (b : Bk), j < k → (wipeN f k)[j]? = some b → tornN b.pages = 0
 | 0, _, _, h, _ => by omega
 | k + 1, j, b, h, hb => by
   rw [wipeN] at hb
   split at hb
   · rename_i c hc
     by_cases e : k = j
     · subst e
       rw [List.getElem?_set_self (List.getElem?_eq_some_iff.1 hc).1] at hb
       cases hb
       rfl
     · rw [List.getElem?_set_ne e] at hb
       exact wipeN_below f k j b (by omega) hb
   · rename_i hc
     by_cases e : k = j
     · subst e; rw [hc] at hb; cases hb
     · exact wipeN_below f k j b (by omega) hb
theorem torn_nought : ∀ (l : List Bk), (∀ b ∈ l, tornN b.pages = 0) → ∀ a : Int, l.foldl (fun a b => a + (tornN b.pages : Int)) a = a
 | [], _, _ => rfl
 | x :: l, h, a => by
   rw [List.foldl_cons, h x (List.mem_cons_self ..), torn_nought l (fun b hb => h b (List.mem_cons_of_mem _ hb))]
   simp
theorem wipeN_all {f : List Bk} (h4 : (wipeN f 4).length = 4) : wTorn (wipeN f 4) = 0 :=
 torn_nought _ (fun b hb => by
  obtain ⟨j, hj⟩ := List.mem_iff_getElem?.1 hb
  exact wipeN_below f 4 j b (by have := (List.getElem?_eq_some_iff.1 hj).1; omega) hj) 0
theorem new_flash : flashOk flashNew = true ∧ wHi flashNew - wLo flashNew = 0 := by decide
end Go.Proofs.Ytclnogfmmekooaa
