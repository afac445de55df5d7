/- Words: a flash in memory (a row of blocks, each with a row of pages); who owns which blocks. -/
import Derived.Test.YtlchlhjjoddocaaW
namespace Go.Proofs.Ytlchlhjjoddocaa
set_option linter.unusedVariables false
set_option linter.unusedSimpArgs false
open Go.RowKit

/-- a page's five cells -/
theorem Row.pg {w : World} {b o k : Nat} {ps : List Pg} {p : Pg} (h : Row w (some ⟨b, o, none⟩) (pgs ps)) (hk : ps[k]? = some p) :
    w.cell? ⟨b, o + k * 5, none⟩ = some (.int .i64 p.state) ∧ w.cell? ⟨b, o + k * 5 + 1, none⟩ = some (.int .i64 p.rc.kind) ∧ w.cell? ⟨b, o + k * 5 + 2, none⟩ = some (.int .i64 p.rc.seq) ∧
      w.cell? ⟨b, o + k * 5 + 3, none⟩ = some (.int .i64 p.rc.addr) ∧ w.cell? ⟨b, o + k * 5 + 4, none⟩ = some (.int .i64 p.rc.val) := by
  have hlt := (List.getElem?_eq_some_iff.1 hk).1
  obtain ⟨b', o', he, hc⟩ := h (by intro e; have := pgs_len ps; rw [e] at this; simp at this; omega)
  cases he
  have hg : ∀ j u, p.vs[j]? = some u → j < 5 → w.cell? ⟨b, o + (k * 5 + j), none⟩ = some u := fun j u hj hl => (hc (k * 5 + j) u (by rw [pgs, flat_get _ 5 (fun _ => rfl) ps k j p hk hl]; exact hj)).1
  exact ⟨hg 0 _ rfl (by omega), hg 1 _ rfl (by omega), hg 2 _ rfl (by omega), hg 3 _ rfl (by omega), hg 4 _ rfl (by omega)⟩
theorem Row.pgf {w : World} {b o k : Nat} {ps : List Pg} {p : Pg} (h : Row w (some ⟨b, o, none⟩) (pgs ps)) (hk : ps[k]? = some p) :
    w.frozen? ⟨b, o + k * 5, none⟩ = false ∧ w.frozen? ⟨b, o + k * 5 + 1, none⟩ = false ∧ w.frozen? ⟨b, o + k * 5 + 2, none⟩ = false ∧
      w.frozen? ⟨b, o + k * 5 + 3, none⟩ = false ∧ w.frozen? ⟨b, o + k * 5 + 4, none⟩ = false := by
  have hlt := (List.getElem?_eq_some_iff.1 hk).1
  obtain ⟨b', o', he, hc⟩ := h (by intro e; have := pgs_len ps; rw [e] at this; simp at this; omega)
  cases he
  have hg : ∀ j u, p.vs[j]? = some u → j < 5 → w.frozen? ⟨b, o + (k * 5 + j), none⟩ = false := fun j u hj hl => (hc (k * 5 + j) u (by rw [pgs, flat_get _ 5 (fun _ => rfl) ps k j p hk hl]; exact hj)).2
  exact ⟨hg 0 _ rfl (by omega), hg 1 _ rfl (by omega), hg 2 _ rfl (by omega), hg 3 _ rfl (by omega), hg 4 _ rfl (by omega)⟩
theorem Row.int_ {w : World} {b o k : Nat} {xs : List Int} {x : Int} (h : Row w (some ⟨b, o, none⟩) (ints xs)) (hk : xs[k]? = some x) :
    w.cell? ⟨b, o + k, none⟩ = some (.int .i64 x) ∧ w.frozen? ⟨b, o + k, none⟩ = false := by
  have hlt := (List.getElem?_eq_some_iff.1 hk).1
  obtain ⟨b', o', he, hc⟩ := h (by intro e; have := ints_len xs; rw [e] at this; simp at this; omega)
  cases he
  exact hc k _ (by simp [ints, hk])
theorem Row.news {w : World} {b o : Nat} {vs : List Value} (h : Row w (some ⟨b, o, none⟩) vs) : ∀ j u, vs[j]? = some u → w.cell? ((⟨b, o, none⟩ : Addr).add j) = some u := fun j u hj => by
  obtain ⟨b', o', he, hc⟩ := h (by intro e; rw [e] at hj; cases hj)
  cases he
  rw [addr_add]
  exact (hc j u hj).1
theorem Row.addr {w : World} {A : Option Addr} {vs : List Value} (h : Row w A vs) (hn : vs ≠ []) : ∃ b o, A = some ⟨b, o, none⟩ := by
  obtain ⟨b, o, rfl, _⟩ := h hn; exact ⟨b, o, rfl⟩
theorem pgs_ne {ps : List Pg} (h : ps ≠ []) : pgs ps ≠ [] := by
  cases ps with
  | nil => exact absurd rfl h
  | cons p ps => simp [pgs, Pg.vs]

/-- the headers of blocks: where each one's pages lie, how many there are, its wear -/
def hdrs : List Bk → List (Option Addr × Nat) → List Value
  | b :: f, h :: hs => .slice h.1 b.pages.length h.2 :: .int .i64 b.worn :: hdrs f hs
  | _, _ => []
theorem hdrs_len : ∀ (f : List Bk) (hs : List (Option Addr × Nat)), hs.length = f.length → (hdrs f hs).length = f.length * 2
  | [], _, _ => by simp [hdrs]
  | b :: f, [], h => by simp at h
  | b :: f, x :: hs, h => by
    simp only [hdrs, List.length_cons]
    rw [hdrs_len f hs (by simpa using h)]; omega
theorem hdrs_get : ∀ (f : List Bk) (hs : List (Option Addr × Nat)) (i : Nat) (b : Bk) (x : Option Addr × Nat), f[i]? = some b → hs[i]? = some x →
    (hdrs f hs)[i * 2]? = some (.slice x.1 b.pages.length x.2) ∧ (hdrs f hs)[i * 2 + 1]? = some (.int .i64 b.worn)
  | [], _, _, _, _, h, _ => by simp at h
  | _ :: _, [], _, _, _, _, h => by simp at h
  | b :: f, x :: hs, 0, b', x', h, h' => by simp at h h'; subst h; subst h'; simp [hdrs]
  | b :: f, x :: hs, i + 1, b', x', h, h' => by
    have ih := hdrs_get f hs i b' x' (by simpa using h) (by simpa using h')
    rw [show (i + 1) * 2 = i * 2 + 1 + 1 by omega]
    simpa [hdrs] using ih
theorem hdrs_append : ∀ (f g : List Bk) (hs ks : List (Option Addr × Nat)), hs.length = f.length → hdrs (f ++ g) (hs ++ ks) = hdrs f hs ++ hdrs g ks
  | [], g, [], ks, _ => by simp [hdrs]
  | [], g, _ :: _, ks, h => by simp at h
  | b :: f, g, [], ks, h => by simp at h
  | b :: f, g, x :: hs, ks, h => by simp [hdrs, hdrs_append f g hs ks (by simpa using h)]

/-- a flash that can be read: hs says where the pages lie -/
structure Bks (w : World) (A : Option Addr) (f : List Bk) (hs : List (Option Addr × Nat)) : Prop where
  len : hs.length = f.length
  row : Row w A (hdrs f hs)
  pg : ∀ (i : Nat) (b : Bk) (x : Option Addr × Nat), f[i]? = some b → hs[i]? = some x → Row w x.1 (pgs b.pages) ∧ b.pages.length ≤ x.2
def Fl (w : World) (A : Option Addr) (f : List Bk) : Prop := ∃ hs, Bks w A f hs
theorem Bks.keep {w w' : World} {A : Option Addr} {f : List Bk} {hs : List (Option Addr × Nat)} (h : Bks w A f hs)
    (hk : ∀ b, (blk A b ∨ ∃ x ∈ hs, blk x.1 b) → b < w.heap.size → w'.heap[b]? = w.heap[b]?) : Bks w' A f hs :=
  ⟨h.len, h.row.keep fun b hb => hk b (.inl hb), fun i b x hb hx => ⟨(h.pg i b x hb hx).1.keep fun c hc => hk c (.inr ⟨x, List.mem_of_getElem? hx, hc⟩), (h.pg i b x hb hx).2⟩⟩
theorem Bks.below {w w' : World} {A : Option Addr} {f : List Bk} {hs : List (Option Addr × Nat)} {B : Nat} (h : Bks w A f hs) (hb : Below B w w') (hB : w.heap.size ≤ B) : Bks w' A f hs :=
  h.keep fun b _ hl => hb.block b (by omega)
theorem Bks.alloc {w : World} {A : Option Addr} {f : List Bk} {hs : List (Option Addr × Nat)} (h : Bks w A f hs) (o : Obj) : Bks (w.alloc o) A f hs := h.keep fun b _ hl => Below.heap_alloc w o b hl
theorem Bks.drew {w : World} {A : Option Addr} {f : List Bk} {hs : List (Option Addr × Nat)} (h : Bks w A f hs) : Bks w.drew A f hs := ⟨h.len, h.row, h.pg⟩
theorem Bks.drewN {w : World} {A : Option Addr} {f : List Bk} {hs : List (Option Addr × Nat)} (h : Bks w A f hs) (n : Nat) : Bks (w.drewN n) A f hs := ⟨h.len, h.row, h.pg⟩
theorem Fl.below {w w' : World} {A : Option Addr} {f : List Bk} {B : Nat} (h : Fl w A f) (hb : Below B w w') (hB : w.heap.size ≤ B) : Fl w' A f := by
  obtain ⟨hs, h⟩ := h; exact ⟨hs, h.below hb hB⟩
theorem Fl.alloc {w : World} {A : Option Addr} {f : List Bk} (h : Fl w A f) (o : Obj) : Fl (w.alloc o) A f := by
  obtain ⟨hs, h⟩ := h; exact ⟨hs, h.alloc o⟩
theorem Bks.addr {w : World} {A : Option Addr} {f : List Bk} {hs : List (Option Addr × Nat)} (h : Bks w A f hs) (hn : f ≠ []) : ∃ b o, A = some ⟨b, o, none⟩ :=
  h.row.addr (by
    intro e
    have hl := hdrs_len f hs h.len
    rw [e] at hl
    exact hn (List.eq_nil_of_length_eq_zero (by simp at hl; omega)))
/-- block i: its header's cells, its pages -/
theorem Bks.at_ {w : World} {g o i : Nat} {f : List Bk} {hs : List (Option Addr × Nat)} {b : Bk} (h : Bks w (some ⟨g, o, none⟩) f hs) (hi : f[i]? = some b) :
    ∃ x, hs[i]? = some x ∧ w.cell? ⟨g, o + i * 2, none⟩ = some (.slice x.1 b.pages.length x.2) ∧ w.cell? ⟨g, o + i * 2 + 1, none⟩ = some (.int .i64 b.worn) ∧
      w.frozen? ⟨g, o + i * 2, none⟩ = false ∧ w.frozen? ⟨g, o + i * 2 + 1, none⟩ = false ∧ Row w x.1 (pgs b.pages) ∧ b.pages.length ≤ x.2 := by
  have hlt := (List.getElem?_eq_some_iff.1 hi).1
  obtain ⟨x, hx⟩ := get_some (l := hs) (k := i) (by rw [h.len]; exact hlt)
  obtain ⟨g1, g2⟩ := hdrs_get f hs i b x hi hx
  obtain ⟨b', o', he, hc⟩ := h.row (by intro e; rw [e] at g1; simp at g1)
  cases he
  obtain ⟨h1, h2⟩ := h.pg i b x hi hx
  exact ⟨x, hx, (hc _ _ g1).1, (hc _ _ g2).1, (hc _ _ g1).2, (hc _ _ g2).2, h1, h2⟩

/-- the blocks of a flash lie from lo on and below hi, and no two are one -/
structure Apt (lo hi : Nat) (A : Option Addr) (hs : List (Option Addr × Nat)) : Prop where
  top : ∀ b : Nat, blk A b → lo ≤ b ∧ b < hi
  in_ : ∀ (i : Nat) (x : Option Addr × Nat) (b : Nat), hs[i]? = some x → blk x.1 b → lo ≤ b ∧ b < hi ∧ ¬ blk A b
  two : ∀ (i j : Nat) (x y : Option Addr × Nat) (b : Nat), hs[i]? = some x → hs[j]? = some y → blk x.1 b → blk y.1 b → i = j
theorem Apt.mono {lo hi lo' hi' : Nat} {A : Option Addr} {hs : List (Option Addr × Nat)} (h : Apt lo hi A hs) (h1 : lo' ≤ lo) (h2 : hi ≤ hi') : Apt lo' hi' A hs :=
  ⟨fun b hb => by have := h.top b hb; omega, fun i x b hx hb => by have := h.in_ i x b hx hb; exact ⟨by omega, by omega, this.2.2⟩, h.two⟩
/-- a flash of one's own -/
def OFl (w : World) (lo hi : Nat) (A : Option Addr) (f : List Bk) : Prop := ∃ hs, Bks w A f hs ∧ Apt lo hi A hs
theorem OFl.fl {w : World} {lo hi : Nat} {A : Option Addr} {f : List Bk} (h : OFl w lo hi A f) : Fl w A f := by obtain ⟨hs, h, _⟩ := h; exact ⟨hs, h⟩
theorem OFl.mono {w : World} {lo hi lo' hi' : Nat} {A : Option Addr} {f : List Bk} (h : OFl w lo hi A f) (h1 : lo' ≤ lo) (h2 : hi ≤ hi') : OFl w lo' hi' A f := by
  obtain ⟨hs, h, k⟩ := h; exact ⟨hs, h, k.mono h1 h2⟩
theorem OFl.keep {w w' : World} {lo hi : Nat} {A : Option Addr} {f : List Bk} (h : OFl w lo hi A f) (hk : ∀ b, lo ≤ b → b < hi → b < w.heap.size → w'.heap[b]? = w.heap[b]?) : OFl w' lo hi A f := by
  obtain ⟨hs, h, k⟩ := h
  refine ⟨hs, h.keep fun b hb hl => ?_, k⟩
  rcases hb with hb | ⟨x, hx, hb⟩
  · have := k.top b hb; exact hk b this.1 this.2 hl
  · obtain ⟨i, hi'⟩ := List.getElem?_of_mem hx
    have := k.in_ i x b hi' hb; exact hk b this.1 this.2.1 hl
theorem OFl.agr {w w' : World} {lo hi : Nat} {A : Option Addr} {f : List Bk} {S : Nat → Prop} (h : OFl w lo hi A f) (hb : Agr S w w') (hS : ∀ b, lo ≤ b → b < hi → ¬ S b) : OFl w' lo hi A f :=
  h.keep fun b h1 h2 hl => hb.block b hl (hS b h1 h2)
theorem OFl.below {w w' : World} {lo hi B : Nat} {A : Option Addr} {f : List Bk} (h : OFl w lo hi A f) (hb : Below B w w') (hB : w.heap.size ≤ B) : OFl w' lo hi A f :=
  h.keep fun b _ _ hl => hb.block b (by omega)
theorem OFl.alloc {w : World} {lo hi : Nat} {A : Option Addr} {f : List Bk} (h : OFl w lo hi A f) (o : Obj) : OFl (w.alloc o) lo hi A f := h.keep fun b _ _ hl => Below.heap_alloc w o b hl

theorem hdrs_set : ∀ (f : List Bk) (hs : List (Option Addr × Nat)) (i : Nat) (b c : Bk) (x : Option Addr × Nat), f[i]? = some b → hs[i]? = some x →
    hdrs (f.set i c) hs = setL (hdrs f hs) (i * 2) [.slice x.1 c.pages.length x.2, .int .i64 c.worn]
  | [], _, _, _, _, _, h, _ => by simp at h
  | _ :: _, [], _, _, _, _, _, h => by simp at h
  | b :: f, x :: hs, 0, b', c, x', h, h' => by simp at h'; subst h'; simp [hdrs, setL]
  | b :: f, x :: hs, i + 1, b', c, x', h, h' => by
    have ih := hdrs_set f hs i b' c x' (by simpa using h) (by simpa using h')
    rw [List.set_cons_succ, hdrs, hdrs, ih]
    exact (by rw [show (i + 1) * 2 = 2 + i * 2 by omega]; exact (setL_right [_, _] _ _ _).symm)
theorem pgs_set : ∀ (ps : List Pg) (k : Nat) (p : Pg), k < ps.length → pgs (ps.set k p) = setL (pgs ps) (k * 5) p.vs
  | [], _, _, h => by simp at h
  | q :: ps, 0, p, _ => by simp [pgs, Pg.vs, setL]
  | q :: ps, k + 1, p, h => by
    have ih := pgs_set ps k p (by simpa using h)
    rw [List.set_cons_succ]
    show q.vs ++ pgs (ps.set k p) = setL (q.vs ++ pgs ps) _ _
    rw [ih, show (k + 1) * 5 = q.vs.length + k * 5 by simp [Pg.vs]; omega, setL_right]
theorem ints_set (xs : List Int) (k : Nat) (x : Int) : ints (xs.set k x) = setL (ints xs) k [.int .i64 x] := by simp [ints, setL, List.map_set]

/-- block i's header was written; its pages lie at x still -/
theorem Bks.setHdr {w w' : World} {g o i : Nat} {f : List Bk} {hs : List (Option Addr × Nat)} {b : Bk} {x : Option Addr × Nat} {n : Int} {lo hi : Nat} (h : Bks w (some ⟨g, o, none⟩) f hs) (k : Apt lo hi (some ⟨g, o, none⟩) hs)
    (hb : f[i]? = some b) (hx : hs[i]? = some x) (hw : Wrote w w' g (o + i * 2) [.slice x.1 b.pages.length x.2, .int .i64 n]) : Bks w' (some ⟨g, o, none⟩) (f.set i { b with worn := n }) hs := by
  have hlt := (List.getElem?_eq_some_iff.1 hb).1
  refine ⟨by simp [h.len], ?_, fun j c y hc hy => ?_⟩
  · rw [hdrs_set f hs i b { b with worn := n } x hb hx]
    exact hw.row h.row (by rw [hdrs_len f hs h.len]; simp; omega)
  · have hfar : ¬ blk y.1 g := fun e => (k.in_ j y g hy e).2.2 rfl
    by_cases hj : j = i
    · subst hj
      rw [List.getElem?_set_self hlt] at hc
      cases hc
      obtain ⟨h1, h2⟩ := h.pg j b y hb hy
      exact ⟨hw.far h1 hfar, h2⟩
    · rw [List.getElem?_set_ne (by omega)] at hc
      obtain ⟨h1, h2⟩ := h.pg j c y hc hy
      exact ⟨hw.far h1 hfar, h2⟩
/-- page j of block i was written -/
theorem Bks.setPage {w w' : World} {A : Option Addr} {i j pb po : Nat} {f : List Bk} {hs : List (Option Addr × Nat)} {b : Bk} {c : Nat} {p : Pg} {lo hi : Nat} (h : Bks w A f hs) (k : Apt lo hi A hs)
    (hb : f[i]? = some b) (hx : hs[i]? = some (some ⟨pb, po, none⟩, c)) (hj : j < b.pages.length) (hw : Wrote w w' pb (po + j * 5) p.vs) : Bks w' A (f.set i { b with pages := b.pages.set j p }) hs := by
  have hlt := (List.getElem?_eq_some_iff.1 hb).1
  have htop : ¬ blk A pb := (k.in_ i _ pb hx rfl).2.2
  refine ⟨by simp [h.len], ?_, fun m d y hd hy => ?_⟩
  · have e : hdrs (f.set i { b with pages := b.pages.set j p }) hs = hdrs f hs := by
      rw [hdrs_set f hs i b _ _ hb hx]
      obtain ⟨g1, g2⟩ := hdrs_get f hs i b _ hb hx
      refine List.ext_getElem? fun m => ?_
      rw [setL_get _ _ _ _ (by rw [hdrs_len f hs h.len]; simp; omega)]
      split
      · rename_i hm
        simp at hm
        rcases (by omega : m = i * 2 ∨ m = i * 2 + 1) with rfl | rfl
        · rw [g1]; simp
        · rw [g2]; simp
      · rfl
    rw [e]; exact hw.far h.row htop
  · by_cases hm : m = i
    · subst hm
      rw [List.getElem?_set_self hlt] at hd
      cases hd
      rw [hx] at hy; cases hy
      obtain ⟨h1, h2⟩ := h.pg m b _ hb hx
      refine ⟨?_, by simpa using h2⟩
      show Row w' _ (pgs (b.pages.set j p))
      rw [pgs_set b.pages j p hj]
      exact hw.row h1 (by rw [pgs_len]; simp [Pg.vs]; omega)
    · rw [List.getElem?_set_ne (by omega)] at hd
      obtain ⟨h1, h2⟩ := h.pg m d y hd hy
      refine ⟨hw.far h1 fun e => hm (k.two m i y _ pb hy hx e rfl), h2⟩
/-- block i was replaced: its pages lie elsewhere now -/
theorem Bks.setBlock {w w' : World} {g o i : Nat} {f : List Bk} {hs : List (Option Addr × Nat)} {c : Bk} {x : Option Addr × Nat} (h : Bks w (some ⟨g, o, none⟩) f hs) (hi : i < f.length)
    (hg : ∀ (j : Nat) (y : Option Addr × Nat), hs[j]? = some y → ¬ blk y.1 g) (hx : ¬ blk x.1 g) (hr : Row w x.1 (pgs c.pages)) (hc : c.pages.length ≤ x.2)
    (hw : Wrote w w' g (o + i * 2) [.slice x.1 c.pages.length x.2, .int .i64 c.worn]) : Bks w' (some ⟨g, o, none⟩) (f.set i c) (hs.set i x) := by
  refine ⟨by simp [h.len], ?_, fun j d y hd hy => ?_⟩
  · have e : hdrs (f.set i c) (hs.set i x) = setL (hdrs f hs) (i * 2) [.slice x.1 c.pages.length x.2, .int .i64 c.worn] := by
      have hl := h.len
      clear h hw hg hr
      induction f generalizing i hs with
      | nil => simp at hi
      | cons a f ih =>
        cases hs with
        | nil => simp at hl
        | cons z hs =>
          cases i with
          | zero => simp [hdrs, setL]
          | succ i =>
            rw [List.set_cons_succ, List.set_cons_succ, hdrs, hdrs, ih (hs := hs) (i := i) (by simpa using hi) (by simpa using hl)]
            exact (by rw [show (i + 1) * 2 = 2 + i * 2 by omega]; exact (setL_right [_, _] _ _ _).symm)
    rw [e]
    exact hw.row h.row (by rw [hdrs_len f hs h.len]; simp; omega)
  · by_cases hj : j = i
    · subst hj
      rw [List.getElem?_set_self hi] at hd
      rw [List.getElem?_set_self (by rw [h.len]; exact hi)] at hy
      cases hd; cases hy
      exact ⟨hw.far hr hx, hc⟩
    · rw [List.getElem?_set_ne (by omega)] at hd
      rw [List.getElem?_set_ne (by omega)] at hy
      obtain ⟨h1, h2⟩ := h.pg j d y hd hy
      exact ⟨hw.far h1 (hg j y hy), h2⟩
/-- the pages of block i were written, as many as before -/
theorem Bks.newPages {w w' : World} {A : Option Addr} {i : Nat} {f : List Bk} {hs : List (Option Addr × Nat)} {b : Bk} {x : Option Addr × Nat} {ps : List Pg} {lo hi : Nat} (h : Bks w A f hs) (k : Apt lo hi A hs)
    (hb : f[i]? = some b) (hx : hs[i]? = some x) (hl : ps.length = b.pages.length) (hr : Row w' x.1 (pgs ps)) (ha : Agr (blk x.1) w w') : Bks w' A (f.set i { b with pages := ps }) hs := by
  have hlt := (List.getElem?_eq_some_iff.1 hb).1
  refine ⟨by simp [h.len], ?_, fun m d y hd hy => ?_⟩
  · have e : hdrs (f.set i { b with pages := ps }) hs = hdrs f hs := by
      rw [hdrs_set f hs i b _ _ hb hx]
      obtain ⟨g1, g2⟩ := hdrs_get f hs i b _ hb hx
      refine List.ext_getElem? fun m => ?_
      rw [setL_get _ _ _ _ (by rw [hdrs_len f hs h.len]; simp; omega)]
      split
      · rename_i hm
        simp at hm
        rcases (by omega : m = i * 2 ∨ m = i * 2 + 1) with rfl | rfl
        · rw [g1]; simp [hl]
        · rw [g2]; simp
      · rfl
    rw [e]
    exact h.row.agr ha fun c hA hc => (k.in_ i x c hx hc).2.2 hA
  · by_cases hm : m = i
    · subst hm
      rw [List.getElem?_set_self hlt] at hd
      cases hd
      rw [hx] at hy; cases hy
      exact ⟨hr, by have := (h.pg m b _ hb hx).2; simp only; omega⟩
    · rw [List.getElem?_set_ne (by omega)] at hd
      obtain ⟨h1, h2⟩ := h.pg m d y hd hy
      exact ⟨h1.agr ha fun c hc hc' => hm (k.two m i y x c hy hx hc hc'), h2⟩
theorem Apt.set {lo hi hi' : Nat} {A : Option Addr} {hs : List (Option Addr × Nat)} (h : Apt lo hi A hs) (i : Nat) (x : Option Addr × Nat) (hx : ∀ b, blk x.1 b → hi ≤ b ∧ b < hi') (hlh : lo ≤ hi) (hh : hi ≤ hi') : Apt lo hi' A (hs.set i x) := by
  have key : ∀ (j : Nat) (y : Option Addr × Nat), (hs.set i x)[j]? = some y → (j = i ∧ y = x) ∨ (j ≠ i ∧ hs[j]? = some y) := fun j y hy => by
    by_cases hj : j = i
    · subst hj
      have hl := (List.getElem?_eq_some_iff.1 hy).1
      rw [List.getElem?_set_self (by simpa using hl)] at hy
      cases hy; exact .inl ⟨rfl, rfl⟩
    · rw [List.getElem?_set_ne (by omega)] at hy; exact .inr ⟨hj, hy⟩
  refine ⟨fun b hb => by have := h.top b hb; omega, fun j y b hy hb => ?_, fun j m y z b hy hz hb hc => ?_⟩
  · rcases key j y hy with ⟨rfl, rfl⟩ | ⟨hj, hy⟩
    · have := hx b hb; exact ⟨by omega, by omega, fun e => by have := h.top b e; omega⟩
    · have := h.in_ j y b hy hb; exact ⟨by omega, by omega, this.2.2⟩
  · rcases key j y hy with ⟨ej, ey⟩ | ⟨_, hy'⟩ <;> rcases key m z hz with ⟨em, ez⟩ | ⟨_, hz'⟩
    · omega
    · have h1 := hx b (ey ▸ hb); have h2 := h.in_ m z b hz' hc; omega
    · have h1 := hx b (ez ▸ hc); have h2 := h.in_ j y b hy' hb; omega
    · exact h.two j m y z b hy' hz' hb hc
/-- a header stored: two cells -/
theorem wrote_hdr {w : World} {g o i : Nat} {f : List Bk} {hs : List (Option Addr × Nat)} {b : Bk} (h : Bks w (some ⟨g, o, none⟩) f hs) (hi : f[i]? = some b) (v u : Value) :
    Wrote w ((w.setCell ⟨g, o + i * 2, none⟩ v).setCell ⟨g, o + i * 2 + 1, none⟩ u) g (o + i * 2) [v, u] := by
  obtain ⟨x, _, c0, c1, _⟩ := h.at_ hi
  refine wrote_setRow g [v, u] (o + i * 2) w fun j hj => ?_
  match j, hj with
  | 0, _ => exact ⟨_, c0⟩
  | 1, _ => exact ⟨_, c1⟩
def zbk : Bk := ⟨[], 0⟩
theorem Bks.new (w : World) (n : Nat) (t : TypeId) (cs : Array Value) (hc : cs.toList = hdrs (List.replicate n zbk) (List.replicate n (none, 0))) : Bks (w.alloc (.cells cs t)) (some ⟨w.heap.size, 0, none⟩) (List.replicate n zbk) (List.replicate n (none, 0)) :=
  ⟨by simp, hc ▸ Row.new w cs t, fun i b x hb hx => by
    have h1 := List.mem_of_getElem? hb; have h2 := List.mem_of_getElem? hx
    rw [List.mem_replicate] at h1 h2
    obtain ⟨_, rfl⟩ := h1; obtain ⟨_, rfl⟩ := h2
    exact ⟨Row.nil _ _, Nat.le_refl _⟩⟩
theorem Apt.new (g : Nat) (n : Nat) : Apt g (g + 1) (some ⟨g, 0, none⟩) (List.replicate n ((none : Option Addr), 0)) :=
  have key : ∀ (i : Nat) (x : Option Addr × Nat) (b : Nat), (List.replicate n ((none : Option Addr), 0))[i]? = some x → ¬ blk x.1 b := fun i x b hx hb => by
    have h2 := List.mem_of_getElem? hx
    rw [List.mem_replicate] at h2
    obtain ⟨_, rfl⟩ := h2
    cases hb
  ⟨fun b hb => by cases hb; exact ⟨Nat.le_refl _, Nat.lt_succ_self _⟩, fun i x b hx hb => absurd hb (key i x b hx), fun i j x y b hx hy hb _ => absurd hb (key i x b hx)⟩
theorem copy_step {α : Type} (z : α) (f : List α) (n k : Nat) (x : α) (h : f[k]? = some x) (hn : f.length = n) : (f.take k ++ (List.replicate n z).drop k).set k x = f.take (k + 1) ++ (List.replicate n z).drop (k + 1) := by
  obtain ⟨hl, rfl⟩ := List.getElem?_eq_some_iff.1 h
  rw [List.set_append_right _ _ (by simp; omega), show k - (f.take k).length = 0 by simp; omega, List.drop_eq_getElem_cons (by simp; omega), List.set_cons_zero, List.take_succ_eq_append_getElem hl, List.append_assoc]
  rfl
/-- the blocks that a flash lies in -/
def fblk (A : Option Addr) (hs : List (Option Addr × Nat)) (b : Nat) : Prop := blk A b ∨ ∃ (i : Nat) (x : Option Addr × Nat), hs[i]? = some x ∧ blk x.1 b
theorem Apt.fblk {lo hi b : Nat} {A : Option Addr} {hs : List (Option Addr × Nat)} (h : Apt lo hi A hs) (hb : fblk A hs b) : lo ≤ b ∧ b < hi := by
  rcases hb with hb | ⟨i, x, hx, hb⟩
  · exact h.top b hb
  · have := h.in_ i x b hx hb; exact ⟨this.1, this.2.1⟩
end Go.Proofs.Ytlchlhjjoddocaa
