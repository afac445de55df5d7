/- Walks: the reader of a code. -/
import Derived.Test.YtfkjhnfbajflaaaB
import Derived.Test.YtfkjhnfbajflaaaR
import Derived.BigQuiet
import Derived.Laws.Bits64
import Derived.Deep.Slices
namespace Go.Proofs.Ytfkjhnfbajflaaa
set_option linter.unusedVariables false
set_option linter.unusedSimpArgs false
open Go.RowKit Go.Maps
set_option maxHeartbeats 400000
theorem xor_i64 (a b : Nat) (ha : a < 9223372036854775808) (hb : b < 9223372036854775808) : bits .xor .i64 (a : Int) (b : Int) = ((a ^^^ b : Nat) : Int) := by
  have hx : a ^^^ b < 2 ^ 63 := Nat.xor_lt_two_pow (by omega) (by omega)
  have h1 : (BitVec.ofInt 64 (a : Int)).toNat = a := by
    rw [BitVec.ofInt_natCast, BitVec.toNat_ofNat]; exact Nat.mod_eq_of_lt (by omega)
  have h2 : (BitVec.ofInt 64 (b : Int)).toNat = b := by
    rw [BitVec.ofInt_natCast, BitVec.toNat_ofNat]; exact Nat.mod_eq_of_lt (by omega)
  show IntKind.i64.wrap ((BitVec.ofInt 64 (a : Int) ^^^ BitVec.ofInt 64 (b : Int)).toNat : Int) = _
  rw [BitVec.toNat_xor, h1, h2]
  exact IntWalk.i64_in _ (by omega)
def bytes (bs : List Nat) : List Value := bs.map fun (b : Nat) => Value.int .u8 (b : Int)
/-- a reader in block R, above B, of a code that lies below B; its place is not above m -/
def Rd (w : World) (B R m : Nat) : Prop :=
  ∃ (A : Option Addr) (bs : List Nat) (c p : Nat), w.cell? ⟨R, 0, none⟩ = some (.slice A bs.length c) ∧ w.cell? ⟨R, 1, none⟩ = some (.int .i64 p) ∧ w.frozen? ⟨R, 1, none⟩ = false ∧ p ≤ m ∧ bs.length ≤ 2000 ∧ (∀ b ∈ bs, b < 256) ∧
    RRow w A (bytes bs) ∧ (bs ≠ [] → ∀ b, blk A b → b < B) ∧ B ≤ R
theorem Rd.lt {w : World} {B R m : Nat} (h : Rd w B R m) : R < w.heap.size := by obtain ⟨A, bs, c, p, h1, _⟩ := h; exact lt_of_cell h1
theorem Rd.le {w : World} {B R m : Nat} (h : Rd w B R m) : B ≤ R := by obtain ⟨A, bs, c, p, _, _, _, _, _, _, _, _, h⟩ := h; exact h
theorem Rd.mono {w : World} {B R m n : Nat} (h : Rd w B R m) (hm : m ≤ n) : Rd w B R n := by
  obtain ⟨A, bs, c, p, h1, h2, h3, h4, h5⟩ := h
  exact ⟨A, bs, c, p, h1, h2, h3, by omega, h5⟩
theorem bytes_ne {bs : List Nat} (h : bytes bs ≠ []) : bs ≠ [] := fun e => h (by rw [e]; rfl)
theorem ne_bytes {bs : List Nat} (h : bs ≠ []) : bytes bs ≠ [] := fun e => h (by simpa [bytes] using e)
theorem RRow.low {w : World} {A : Option Addr} {bs : List Nat} (h : RRow w A (bytes bs)) (hn : bs ≠ []) : ∀ b, blk A b → b < w.heap.size := fun b hb => by
  obtain ⟨b', o, rfl, hc⟩ := h (ne_bytes hn)
  rw [blk_some] at hb
  subst hb
  cases bs with
  | nil => exact absurd rfl hn
  | cons x bs => exact lt_of_cell (hc 0 _ rfl)
theorem RRow.keep {w w' : World} {A : Option Addr} {vs : List Value} (h : RRow w A vs) (hk : vs ≠ [] → ∀ b, blk A b → b < w.heap.size → w'.heap[b]? = w.heap[b]?) : RRow w' A vs := fun hn => by
  replace hk := hk hn
  obtain ⟨b, o, rfl, hc⟩ := h hn
  refine ⟨b, o, rfl, fun j u hj => ?_⟩
  have h1 := hc j u hj
  exact (World.cell?_of_block (a := ⟨b, o + j, none⟩) (hk b (blk_some.2 rfl) (lt_of_cell h1))).trans h1
/-- what leaves R's block and the blocks below B as they are leaves the reader -/
theorem Rd.keep {w w' : World} {B R m : Nat} (h : Rd w B R m) (hk : ∀ b, b = R ∨ b < B → b < w.heap.size → w'.heap[b]? = w.heap[b]?) : Rd w' B R m := by
  obtain ⟨A, bs, c, p, h1, h2, h3, h4, h5, h6, h7, h8, h9⟩ := h
  have hR := hk R (.inl rfl) (lt_of_cell h1)
  exact ⟨A, bs, c, p, (World.cell?_of_block (a := ⟨R, 0, none⟩) hR).trans h1, (World.cell?_of_block (a := ⟨R, 1, none⟩) hR).trans h2, (World.frozen?_of_block (a := ⟨R, 1, none⟩) hR).trans h3, h4, h5, h6, h7.keep fun hn b hb hl => hk b (.inr (h8 (bytes_ne hn) b hb)) hl, h8, h9⟩
theorem Rd.agr {w w' : World} {B R m : Nat} {S : Nat → Prop} (h : Rd w B R m) (ha : Agr S w w') (h1 : ¬ S R) (h2 : ∀ b, b < B → ¬ S b) : Rd w' B R m :=
  h.keep fun b hb hl => ha.block b hl (by rcases hb with rfl | hb; exact h1; exact h2 b hb)
theorem Rd.below {w w' : World} {B R m C : Nat} (h : Rd w B R m) (hb : Below C w w') (hC : w.heap.size ≤ C) : Rd w' B R m :=
  h.keep fun b _ hl => hb.block b (by omega)
theorem Rd.alloc {w : World} {B R m : Nat} (h : Rd w B R m) (o : Obj) : Rd (w.alloc o) B R m := h.below (C := w.heap.size) ((Below.refl _ _).alloc (Nat.le_refl _) _) (Nat.le_refl _)
theorem Rd.drew {w : World} {B R m : Nat} (h : Rd w B R m) : Rd w.drew B R m := h.keep fun _ _ _ => rfl
theorem Rd.drewN {w : World} {B R m : Nat} (h : Rd w B R m) (n : Nat) : Rd (w.drewN n) B R m := h.keep fun _ _ _ => rfl
theorem spec_l6Open (A : Option Addr) (bs : List Nat) (c : Nat) (w : World) (hbc : bs.length ≤ c) (hc : c ≤ 9223372036854775807) (hb : ∀ b ∈ bs, b < 256) (hA : RRow w A (bytes bs)) :
    Calls Try.prog 34 #[.slice A bs.length c] w fun e w' => e = .returned (.pointer (some ⟨w.heap.size, 0, none⟩)) ∧ Rd w' w.heap.size w.heap.size 0 ∧ Below w.heap.size w w' := by
  have key : ∀ (bs' : List Nat) (c' : Nat), (bs' ≠ [] → bs ≠ []) → bs'.length ≤ 2000 → (∀ b ∈ bs', b < 256) → RRow w A (bytes bs') → Rd (w.alloc (.cells #[.slice A bs'.length c', .int .i64 0] 88)) w.heap.size w.heap.size 0 := fun bs' c' h0 h1 h2 h3 =>
    ⟨A, bs', c', 0, by simp, by simp, by simp, Nat.le_refl _, h1, h2, h3.alloc _, fun hn => hA.low (h0 hn), Nat.le_refl _⟩
  by_cases hl : bs.length ≤ 2000
  · have hk := key bs c id hl hb hA
    go_enter Try.func34, Try.ntmps34
    go_wp2
    go_ret
    exact ⟨rfl, hk, by (repeat (first | (with_reducible exact Below.refl _ _) | (with_reducible assumption) | (refine Below.setCell ?_ (by first | omega | exact hB.size | exact hb.size | (have h := hB.size; simp; omega) | (have h := hb.size; simp; omega) | (simp; omega) | simp) _) | (refine Below.alloc ?_ (by first | omega | exact hB.size | exact hb.size | (have h := hB.size; simp; omega) | (have h := hb.size; simp; omega) | (simp; omega) | simp) _) | (refine Below.drew ?_)))⟩
  · have hk := key (bs.take 2000) c (fun h e => h (by rw [e]; rfl)) (by simp; omega) (fun b h => hb b (List.mem_of_mem_take h)) (fun hn => by
      have hne : bytes bs ≠ [] := by
        intro e
        have : bs = [] := by simpa [bytes] using e
        exact hn (by rw [this]; simp [bytes])
      obtain ⟨b, o, rfl, hcl⟩ := hA hne
      refine ⟨b, o, rfl, fun j u hj => hcl j u ?_⟩
      rw [bytes, List.map_take] at hj
      rw [List.getElem?_take] at hj
      split at hj
      · exact hj
      · cases hj)
    have hl2 : (2000 : Int) ≤ bs.length := by omega
    have hl3 : (2000 : Int) < bs.length := by omega
    rw [show (bs.take 2000).length = 2000 by simp; omega] at hk
    go_enter Try.func34, Try.ntmps34
    go_wp2
    go_ret
    exact ⟨rfl, hk, by (repeat (first | (with_reducible exact Below.refl _ _) | (with_reducible assumption) | (refine Below.setCell ?_ (by first | omega | exact hB.size | exact hb.size | (have h := hB.size; simp; omega) | (have h := hb.size; simp; omega) | (simp; omega) | simp) _) | (refine Below.alloc ?_ (by first | omega | exact hB.size | exact hb.size | (have h := hB.size; simp; omega) | (have h := hb.size; simp; omega) | (simp; omega) | simp) _) | (refine Below.drew ?_)))⟩
theorem byte_at {w : World} {b o k : Nat} {bs : List Nat} {x : Nat} (h : RRow w (some ⟨b, o, none⟩) (bytes bs)) (hk : bs[k]? = some x) : w.cell? ⟨b, o + k, none⟩ = some (.int .u8 (x : Int)) := by
  have hlt := (List.getElem?_eq_some_iff.1 hk).1
  obtain ⟨b', o', he, hc⟩ := h (by
    intro e
    have : bs = [] := by simpa [bytes] using e
    subst this; simp at hk)
  cases he
  exact hc k _ (by simp [bytes, hk])
theorem mod_lt' {x n : Nat} (h : 1 ≤ n) : x % n < n := Nat.mod_lt _ h
set_option maxHeartbeats 1000000 in
theorem spec_pick (n B R m : Nat) (w : World) (hn : 1 ≤ n) (hn2 : n ≤ 1000000) (hm : m ≤ 1000000) (hR : Rd w B R m) :
    Calls Try.prog 45 #[.pointer (some ⟨R, 0, none⟩), .int .i64 n] w fun e w' => ∃ k : Nat, e = .returned (.int .i64 k) ∧ k < n ∧ Rd w' B R (m + 1) ∧ Agr (· = R) w w' := by
  obtain ⟨A, bs, c, p, h0, h1, h2, h3, h4, h5, h6, h7, h8⟩ := hR
  have hRl := lt_of_cell h0
  have hW := wrote_one h1 (.int .i64 (p + 1))
  have hA : Agr (· = R) w (w.setCell ⟨R, 1, none⟩ (.int .i64 (p + 1))) := hW.agr
  have g0 : (w.setCell ⟨R, 1, none⟩ (.int .i64 (p + 1))).cell? ⟨R, 0, none⟩ = some (.slice A bs.length c) := (hW.old_ 0 (by omega)).trans h0
  have g1 : (w.setCell ⟨R, 1, none⟩ (.int .i64 (p + 1))).cell? ⟨R, 1, none⟩ = some (.int .i64 ((p + 1 : Nat) : Int)) := hW.new_ 0 _ rfl
  have hRd : Rd (w.setCell ⟨R, 1, none⟩ (.int .i64 (p + 1))) B R (m + 1) :=
    ⟨A, bs, c, p + 1, g0, g1, (hW.frozen _).trans h2, by omega, h4, h5, h6.keep fun hn b hb hl => hA.block b hl (by have := h7 (bytes_ne hn) b hb; omega), h7, h8⟩
  have hrow : RRow (w.setCell ⟨R, 1, none⟩ (.int .i64 (p + 1))) A (bytes bs) := h6.keep fun hn b hb hl => hA.block b hl (by have := h7 (bytes_ne hn) b hb; omega)
  clear hW
  have e1 : IntKind.i64.wrap ((p : Int) + 1) = (p : Int) + 1 := IntWalk.i64_in _ (by omega)
  have g1' : (w.setCell ⟨R, 1, none⟩ (.int .i64 (p + 1))).cell? ⟨R, 1, none⟩ = some (.int .i64 ((p : Int) + 1)) := by rw [g1]; rfl
  clear g1
  by_cases hb0 : bs.length = 0
  · have hnil : bs = [] := List.length_eq_zero_iff.1 hb0
    subst hnil
    clear hrow hb0
    go_enter Try.func45, Try.ntmps45
    go_wp2
    go_ret
    exact ⟨0, rfl, by omega, hRd, hA⟩
  · have hbe : ((bs.length : Int) == 0) = false := by rw [beq_eq_false_iff_ne]; omega
    have hn1 : ¬ (n : Int) < 1 := by omega
    by_cases hlt : p < bs.length
    · obtain ⟨x, hx⟩ := get_some hlt
      obtain ⟨b, o, rfl⟩ : ∃ b o, A = some ⟨b, o, none⟩ := h6.addr (by
        intro e
        have : bs = [] := by simpa [bytes] using e
        rw [this] at hlt; simp at hlt)
      have hbR : b < R := by have := h7 (by rintro rfl; simp at *) b (blk_some.2 rfl); omega
      have hc := byte_at h6 hx
      have hx2 := h5 x (List.mem_of_getElem? hx)
      have hpl : (p : Int) < bs.length := by omega
      have hmod : ((x : Int).tmod (n : Int)) = ((x % n : Nat) : Int) := by rw [Int.tmod_eq_emod_of_nonneg (by omega)]; rfl
      have hk := mod_lt' (x := x) hn
      clear hrow
      have HX := Lib.hid hx
      have HM := Lib.hid hmod
      clear hx hmod
      go_enter Try.func45, Try.ntmps45
      go_wp2
      go_ret
      exact ⟨x % n, ret_int (by simp), hk, hRd, hA⟩
    · obtain ⟨b, o, rfl⟩ : ∃ b o, A = some ⟨b, o, none⟩ := h6.addr (by
        intro e
        have : bs = [] := by simpa [bytes] using e
        rw [this] at hb0; simp at hb0)
      have hbR : b < R := by have := h7 (by rintro rfl; simp at *) b (blk_some.2 rfl); omega
      have hL0 : 1 ≤ bs.length := by omega
      obtain ⟨x, hx⟩ := get_some (mod_lt' (x := p) hL0)
      obtain ⟨y, hy⟩ := get_some (mod_lt' (x := p * 7 + 3) hL0)
      have hc := byte_at h6 hx
      have hc' := byte_at h6 hy
      have hx2 := h5 x (List.mem_of_getElem? hx)
      have hy2 := h5 y (List.mem_of_getElem? hy)
      have hpl : (bs.length : Int) ≤ p := by omega
      have hL1 : (1 : Int) ≤ bs.length := by omega
      have hdl : p / bs.length ≤ p := Nat.div_le_self _ _
      have m1 := mod_lt' (x := p) hL0
      have m2 := mod_lt' (x := p * 7 + 3) hL0
      have v1 : (p : Int).tmod (bs.length : Int) = ((p % bs.length : Nat) : Int) := by rw [Int.tmod_eq_emod_of_nonneg (by omega)]; rfl
      have v2 : ((p : Int) * 7 + 3).tmod (bs.length : Int) = (((p * 7 + 3) % bs.length : Nat) : Int) := by rw [Int.tmod_eq_emod_of_nonneg (by omega)]; rfl
      have v3 : (p : Int).tdiv (bs.length : Int) = ((p / bs.length : Nat) : Int) := by rw [Int.tdiv_eq_ediv_of_nonneg (by omega)]; rfl
      generalize p / bs.length = q at *
      generalize p % bs.length = q1 at *
      generalize (p * 7 + 3) % bs.length = q2 at *
      have n1 : (q1 : Int) < bs.length := by omega
      have n2 : (q2 : Int) < bs.length := by omega
      have w1 : IntKind.i64.wrap ((p : Int) * 7) = (p : Int) * 7 := IntWalk.i64_in _ (by omega)
      have w2 : IntKind.i64.wrap ((p : Int) * 7 + 3) = (p : Int) * 7 + 3 := IntWalk.i64_in _ (by omega)
      have w3 : IntKind.i64.wrap ((x : Int) * 131) = (x : Int) * 131 := IntWalk.i64_in _ (by omega)
      have w4 : IntKind.i64.wrap ((y : Int) * 1117) = (y : Int) * 1117 := IntWalk.i64_in _ (by omega)
      have w5 : IntKind.i64.wrap ((x : Int) * 131 + (y : Int) * 1117) = (x : Int) * 131 + (y : Int) * 1117 := IntWalk.i64_in _ (by omega)
      have w6 : IntKind.i64.wrap ((p : Int) * 29) = (p : Int) * 29 := IntWalk.i64_in _ (by omega)
      have w7 : IntKind.i64.wrap ((x : Int) * 131 + (y : Int) * 1117 + (p : Int) * 29) = (x : Int) * 131 + (y : Int) * 1117 + (p : Int) * 29 := IntWalk.i64_in _ (by omega)
      have w8 : IntKind.i64.wrap ((q : Int) * 53) = (q : Int) * 53 := IntWalk.i64_in _ (by omega)
      have w9 : IntKind.i64.wrap ((x : Int) * 131 + (y : Int) * 1117 + (p : Int) * 29 + (q : Int) * 53) = (x : Int) * 131 + (y : Int) * 1117 + (p : Int) * 29 + (q : Int) * 53 := IntWalk.i64_in _ (by omega)
      clear hx hy
      go_enter Try.func45, Try.ntmps45
      go_wp2
      go_quiet (fail)
      obtain ⟨X, hX, hXl⟩ : ∃ X : Nat, (x : Int) * 131 + (y : Int) * 1117 + (p : Int) * 29 + (q : Int) * 53 = (X : Int) ∧ X < 1000000000000 := ⟨x * 131 + y * 1117 + p * 29 + q * 53, by simp, by omega⟩
      rw [hX]
      clear hX w1 w2 w3 w4 w5 w6 w7 w8 w9 v1 v2 v3
      have hx1 : bits .xor .i64 (X : Int) ((X : Int) / 64) = ((X ^^^ X / 64 : Nat) : Int) := xor_i64 X (X / 64) (by omega) (by omega)
      have hx2 : bits .xor .i64 (X : Int) ((X : Int).tdiv 64) = ((X ^^^ X / 64 : Nat) : Int) := by rw [Int.tdiv_eq_ediv_of_nonneg (by omega)]; exact hx1
      generalize X ^^^ X / 64 = z at *
      have hk := mod_lt' (x := z) hn
      have hmod : ((z : Int).tmod (n : Int)) = ((z % n : Nat) : Int) := by rw [Int.tmod_eq_emod_of_nonneg (by omega)]; rfl
      have HM := Lib.hid hmod
      clear hmod
      go_wp2
      go_ret
      exact ⟨z % n, ret_int (by simp), hk, hRd.drewN _, hA.drewN _⟩
end Go.Proofs.Ytfkjhnfbajflaaa
