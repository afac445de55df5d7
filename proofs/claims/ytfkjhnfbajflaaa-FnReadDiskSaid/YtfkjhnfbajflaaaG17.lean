/- Walks: a drawn play: events, and the store that comes of them. -/
import Derived.Test.YtfkjhnfbajflaaaG16
import Derived.Test.YtfkjhnfbajflaaaG10
namespace Go.Proofs.Ytfkjhnfbajflaaa
set_option linter.unusedVariables false
set_option linter.unusedSimpArgs false
open Go.RowKit Go.Maps
set_option maxHeartbeats 400000
theorem Try.info3_event : (Try.prog.info? 101).map (fun i => (i.zero, i.size, i.bytes)) = some (some (.agg #[.int .i64 0, .int .i64 0, .int .i64 0, .int .i64 0, .bool false]), 5, 40) := by kernel_rfl
/-- a row of events of one's own, in a block from base on -/
def OwnE (w : World) (base : Nat) (v : Value) (xs : List Ev) : Prop := w.ownsRow base 101 5 v xs.length (evs xs)
theorem OwnE.below {w w' : World} {base B : Nat} {v : Value} {xs : List Ev} (h : OwnE w base v xs) (hb : Below B w w') (hB : w.heap.size ≤ B) : OwnE w' base v xs := ownsRow_keep h fun b _ hl => hb.block b (by omega)
theorem OwnE.agr {w w' : World} {base : Nat} {v : Value} {xs : List Ev} {S : Nat → Prop} (h : OwnE w base v xs) (hb : Agr S w w') (hS : ∀ b, base ≤ b → ¬ S b) : OwnE w' base v xs := by
  refine ownsRow_keep h fun b hbl hl => hb.block b hl (hS b ?_)
  exact (World.ownsRow.lt h b hbl).1
theorem OwnE.mono {w : World} {base base' : Nat} {v : Value} {xs : List Ev} (h : OwnE w base v xs) (hb : base' ≤ base) : OwnE w base' v xs := World.ownsRow.mono h hb
theorem OwnE.nil (w : World) (base : Nat) (hb : base ≤ w.heap.size) : OwnE (w.alloc (.cells #[] 101)) base (.slice (some ⟨w.heap.size, 0, none⟩) 0 0) [] := World.ownsRow_lit w #[] 0 hb (by unfold maxLen; omega) rfl
theorem OwnE.snoc {w : World} {base g n c : Nat} {xs : List Ev} {x : Ev} (hn : n = xs.length + 1) (h : w.ownsRow base 101 5 (.slice (some ⟨g, 0, none⟩) (xs.length + 1) c) (xs.length + 1) (evs xs ++ x.vs)) : OwnE w base (.slice (some ⟨g, 0, none⟩) n c) (xs ++ [x]) := by
  subst hn
  unfold OwnE
  rw [List.length_append, evs, List.flatMap_append, show [x].flatMap Ev.vs = x.vs by simp]
  exact h
theorem OwnE.alloc {w : World} {base : Nat} {v : Value} {xs : List Ev} (h : OwnE w base v xs) (o : Obj) : OwnE (w.alloc o) base v xs := h.below (B := w.heap.size) ((Below.refl _ _).alloc (Nat.le_refl _) _) (Nat.le_refl _)
theorem new_fine : stFine ⟨flashNew, disk0⟩ := by
  refine ⟨⟨rfl, fun b hb => ?_⟩, rfl, ?_⟩
  · have := List.eq_of_mem_replicate hb
    subst this
    refine ⟨rfl, by decide, by decide, ?_⟩
    decide
  · decide
/-- what l71Play answers -/
def PlayPost (B R m : Nat) (w : World) (e : Ending) (w' : World) : Prop :=
  ∃ (v : Value) (A D : Option Addr) (c lo hi : Nat) (s : St) (xs : List Ev), e = .returned (.tuple #[v, .agg #[.slice A 4 c, .slice D 6 6]]) ∧ w.heap.size ≤ lo ∧ hi ≤ w'.heap.size ∧ 4 ≤ c ∧
    OSt w' lo hi A s.flash D s.disk ∧ stFine s ∧ OwnE w' hi v xs ∧ xs.length ≤ 58 ∧ (∀ x ∈ xs, evFine x) ∧ Rd w' B R (m + 500) ∧ Agr (· = R) w w'
set_option maxHeartbeats 4000000 in
set_option maxRecDepth 100000 in
theorem spec_l71Play (B R m : Nat) (w : World) (hm : m ≤ 800000) (hR : Rd w B R m) :
    Calls Try.prog 60 #[.pointer (some ⟨R, 0, none⟩)] w (PlayPost B R m w) := by
  obtain ⟨ib, hib, hbz0, hbz1, hbz2⟩ := info_parts Try.info3_event
  have hRl := hR.lt
  have hq := Row.new w #[.slice none 0 0, .slice none 0 0] 39
  obtain ⟨q0, f0⟩ := hq.at0 (j := 0) rfl
  obtain ⟨q1, f1⟩ := hq.at0 (j := 1) rfl
  have hR0 := hR.alloc (.cells #[.slice none 0 0, .slice none 0 0] 39)
  have hs0 : w.heap.size < (w.alloc (.cells #[.slice none 0 0, .slice none 0 0] 39)).heap.size := by simp
  have hB0 : Below w.heap.size w (w.alloc (.cells #[.slice none 0 0, .slice none 0 0] 39)) := by (repeat (first | (with_reducible exact Below.refl _ _) | (with_reducible assumption) | (refine Below.setCell ?_ (by first | omega | exact hB.size | exact hb.size | (have h := hB.size; simp; omega) | (have h := hb.size; simp; omega) | (simp; omega) | simp) _) | (refine Below.alloc ?_ (by first | omega | exact hB.size | exact hb.size | (have h := hB.size; simp; omega) | (have h := hb.size; simp; omega) | (simp; omega) | simp) _) | (refine Below.drew ?_)))
  have hne : ¬ w.heap.size = R := by omega
  clear hq
  go_enter Try.func60, Try.ntmps60
  go_wp2_with fail
  refine (spec_StoreNew _).mono ?_
  rintro e w1 ⟨A, c, D, rfl, hc, hO, hb⟩
  replace q0 := (hb.cell (p := ⟨w.heap.size, 0, none⟩) hs0).trans q0
  replace q1 := (hb.cell (p := ⟨w.heap.size, 1, none⟩) hs0).trans q1
  replace f0 := (hb.frozen (p := ⟨w.heap.size, 0, none⟩) hs0).trans f0
  replace f1 := (hb.frozen (p := ⟨w.heap.size, 1, none⟩) hs0).trans f1
  have hR1 := hR0.below hb (Nat.le_refl _)
  have hs1 : w.heap.size < w1.heap.size := Nat.lt_of_lt_of_le hs0 hb.size
  have hB1 : Below w.heap.size w w1 := hB0.trans (hb.mono (by simp))
  replace hO : OSt w1 (w.heap.size + 1) w1.heap.size A flashNew D disk0 := hO.mono (by simp) (Nat.le_refl _)
  clear hb hB0 hs0 hR0
  obtain ⟨W2, hW2⟩ : ∃ W, W = (w1.alloc (.cells #[.slice A 4 c, .slice D 6 6] 39)).alloc (.cells #[] 101) := ⟨_, rfl⟩
  have hBW : Below w1.heap.size w1 W2 := by rw [hW2]; (repeat (first | (with_reducible exact Below.refl _ _) | (with_reducible assumption) | (refine Below.setCell ?_ (by first | omega | exact hB.size | exact hb.size | (have h := hB.size; simp; omega) | (have h := hb.size; simp; omega) | (simp; omega) | simp) _) | (refine Below.alloc ?_ (by first | omega | exact hB.size | exact hb.size | (have h := hB.size; simp; omega) | (have h := hb.size; simp; omega) | (simp; omega) | simp) _) | (refine Below.drew ?_)))
  have hM := (Row.new w1 #[.slice A 4 c, .slice D 6 6] 39).alloc (.cells #[] 101)
  rw [← hW2] at hM
  obtain ⟨b0, b2⟩ := hM.at0 (j := 0) rfl
  obtain ⟨b1, b3⟩ := hM.at0 (j := 1) rfl
  have hE : OwnE W2 (w1.heap.size + 1) (.slice (some ⟨w1.heap.size + 1, 0, none⟩) 0 0) [] := by
    have := OwnE.nil (w1.alloc (.cells #[.slice A 4 c, .slice D 6 6] 39)) (w1.heap.size + 1) (by simp)
    simp only [World.size_alloc] at this
    rw [hW2]; exact this
  replace q0 := (hBW.cell (p := ⟨w.heap.size, 0, none⟩) hs1).trans q0
  replace q1 := (hBW.cell (p := ⟨w.heap.size, 1, none⟩) hs1).trans q1
  replace f0 := (hBW.frozen (p := ⟨w.heap.size, 0, none⟩) hs1).trans f0
  replace f1 := (hBW.frozen (p := ⟨w.heap.size, 1, none⟩) hs1).trans f1
  have hR2 := hR1.below hBW (Nat.le_refl _)
  have hO2 := hO.below hBW (Nat.le_refl _)
  have hs2 : w1.heap.size < W2.heap.size := by rw [hW2]; simp; omega
  have hA2 : Agr (· = R) w W2 := Agr.of_below (hB1.trans (hBW.mono (by omega)))
  have HW2 := Lib.hid hW2
  clear hBW hM hW2 hR1 hO hB1
  go_wp2_with fail
  rw [← HW2.out]
  refine (spec_pickI 58 58 B R m _ rfl (by omega) (by omega) (by omega) hR2).mono ?_
  rintro e w3 ⟨k, rfl, hk, hR3, hA3⟩
  generalize w1.heap.size = n1 at *
  have hRn : R < n1 := by omega
  replace q0 := (hA3.cell (b := w.heap.size) (by omega) (by omega) 0).trans q0
  replace q1 := (hA3.cell (b := w.heap.size) (by omega) (by omega) 1).trans q1
  replace f0 := (hA3.fz (b := w.heap.size) (by omega) (by omega) 0).trans f0
  replace f1 := (hA3.fz (b := w.heap.size) (by omega) (by omega) 1).trans f1
  replace b0 := (hA3.cell (b := n1) (by omega) (by omega) 0).trans b0
  replace b1 := (hA3.cell (b := n1) (by omega) (by omega) 1).trans b1
  replace b2 := (hA3.fz (b := n1) (by omega) (by omega) 0).trans b2
  replace b3 := (hA3.fz (b := n1) (by omega) (by omega) 1).trans b3
  have hO3 : OSt w3 (w.heap.size + 1) n1 A flashNew D disk0 := hO2.keep fun b h1 h2 hl => hA3.block b hl (by omega)
  have hE3 : OwnE w3 (n1 + 1) (.slice (some ⟨n1 + 1, 0, none⟩) 0 0) [] := hE.agr hA3 (by intro b h1 h2; omega)
  have hs3 : n1 < w3.heap.size := Nat.lt_of_lt_of_le hs2 hA3.size
  have hA3' := hA2.trans hA3 (fun _ _ h => h)
  clear hA3 hA2 hs2 hO2 hE hR2
  go_wp2
  go_loopw [5, 6] (fun t5 t6 wr => ∃ (j p : Nat) (xs : List Ev) (s : St), t6 = .int .i64 j ∧ j ≤ 57 ∧ xs.length + j ≤ 58 ∧ p + 7 * j ≤ m + 400 ∧ OwnE wr (n1 + 1) t5 xs ∧ Hid (∀ x ∈ xs, evFine x) ∧ Hid (stFine s) ∧
    OSt wr (w.heap.size + 1) n1 A s.flash D s.disk ∧ Rd wr B R p ∧ Agr (· = R) w wr ∧ n1 < wr.heap.size ∧
    (wr.cell? ⟨n1, 0, none⟩ = some (.slice A 4 c) ∧ wr.cell? ⟨n1, 1, none⟩ = some (.slice D 6 6) ∧ wr.frozen? ⟨n1, 0, none⟩ = false ∧ wr.frozen? ⟨n1, 1, none⟩ = false) ∧
    (wr.cell? ⟨w.heap.size, 0, none⟩ = some (.slice none 0 0) ∧ wr.cell? ⟨w.heap.size, 1, none⟩ = some (.slice none 0 0) ∧ wr.frozen? ⟨w.heap.size, 0, none⟩ = false ∧ wr.frozen? ⟨w.heap.size, 1, none⟩ = false)) (fun _ t6 _ => (intOf t6).toNat)
  case atStart => exact ⟨k, m + 1, [], ⟨flashNew, disk0⟩, rfl, by omega, by simp; omega, by omega, hE3, Lib.hid (by simp), Lib.hid new_fine, hO3, hR3, hA3', hs3, ⟨b0, b1, b2, b3⟩, ⟨q0, q1, f0, f1⟩⟩
  case round =>
    clear b0 b1 b2 b3 q0 q1 f0 f1
    obtain ⟨j, p, xs, s, rfl, hj, hxl, hp, hEk, hXs, hst, hOk, hRk, hAk, hsk, ⟨b0, b1, b2, b3⟩, ⟨q0, q1, f0, f1⟩⟩ := hrel
    by_cases hj0 : 0 < j
    · have hj1 : (0 : Int) < j := by omega
      go_wp2_with fail
      refine (spec_l71Event B R p _ (by omega) hRk).mono ?_
      rintro e w4 ⟨x, rfl, hx, hR4, hA4⟩
      have hs4 : n1 < w4.heap.size := Nat.lt_of_lt_of_le hsk hA4.size
      have hO4 : OSt w4 (w.heap.size + 1) n1 A s.flash D s.disk := hOk.keep fun b h1 h2 hl => hA4.block b hl (by omega)
      have hE4 : OwnE w4 (n1 + 1) u5 xs := hEk.agr hA4 (by intro b h1 h2; omega)
      have hA4' := hAk.trans hA4 (fun _ _ h => h)
      replace q0 := (hA4.cell (b := w.heap.size) (by omega) (by omega) 0).trans q0
      replace q1 := (hA4.cell (b := w.heap.size) (by omega) (by omega) 1).trans q1
      replace f0 := (hA4.fz (b := w.heap.size) (by omega) (by omega) 0).trans f0
      replace f1 := (hA4.fz (b := w.heap.size) (by omega) (by omega) 1).trans f1
      replace b0 := (hA4.cell (b := n1) (by omega) (by omega) 0).trans b0
      replace b1 := (hA4.cell (b := n1) (by omega) (by omega) 1).trans b1
      replace b2 := (hA4.fz (b := n1) (by omega) (by omega) 0).trans b2
      replace b3 := (hA4.fz (b := n1) (by omega) (by omega) 1).trans b3
      have hQ : ∀ q, u5.ownBlock = some q → n1 + 1 ≤ q ∧ q < w4.heap.size := fun q e => World.ownsRow.lt hE4 q e
      have hE6 : OwnE ((w4.alloc (.cells #[.int .i64 x.kind, .int .i64 x.a, .int .i64 x.b, .int .i64 x.c, .bool x.torn] 101)).alloc (.cells #[.int .i64 x.kind, .int .i64 x.a, .int .i64 x.b, .int .i64 x.c, .bool x.torn] 101)) (n1 + 1) u5 xs := (hE4.alloc _).alloc _
      have hx4 := (Row.new w4 #[.int .i64 x.kind, .int .i64 x.a, .int .i64 x.b, .int .i64 x.c, .bool x.torn] 101).alloc (.cells #[.int .i64 x.kind, .int .i64 x.a, .int .i64 x.b, .int .i64 x.c, .bool x.torn] 101)
      obtain ⟨x0, y0⟩ := hx4.at0 (j := 0) rfl
      obtain ⟨x1, y1⟩ := hx4.at0 (j := 1) rfl
      obtain ⟨x2, y2⟩ := hx4.at0 (j := 2) rfl
      obtain ⟨x3, y3⟩ := hx4.at0 (j := 3) rfl
      obtain ⟨x4, y4⟩ := hx4.at0 (j := 4) rfl
      have hAa : Agr (fun b => n1 + 1 ≤ b) w4 ((w4.alloc (.cells #[.int .i64 x.kind, .int .i64 x.a, .int .i64 x.b, .int .i64 x.c, .bool x.torn] 101)).alloc (.cells #[.int .i64 x.kind, .int .i64 x.a, .int .i64 x.b, .int .i64 x.c, .bool x.torn] 101)) := ((Agr.refl _ _).alloc _).alloc _
      have hs6 : ((w4.alloc (.cells #[.int .i64 x.kind, .int .i64 x.a, .int .i64 x.b, .int .i64 x.c, .bool x.torn] 101)).alloc (.cells #[.int .i64 x.kind, .int .i64 x.a, .int .i64 x.b, .int .i64 x.c, .bool x.torn] 101)).heap.size = w4.heap.size + 1 + 1 := by simp
      have hrow := Row.new (w4.alloc (.cells #[.int .i64 x.kind, .int .i64 x.a, .int .i64 x.b, .int .i64 x.c, .bool x.torn] 101)) #[.int .i64 x.kind, .int .i64 x.a, .int .i64 x.b, .int .i64 x.c, .bool x.torn] 101
      simp only [World.size_alloc] at hrow
      have hnews : ∀ j u, x.vs[j]? = some u → ((w4.alloc (.cells #[.int .i64 x.kind, .int .i64 x.a, .int .i64 x.b, .int .i64 x.c, .bool x.torn] 101)).alloc (.cells #[.int .i64 x.kind, .int .i64 x.a, .int .i64 x.b, .int .i64 x.c, .bool x.torn] 101)).cell? ((⟨w4.heap.size + 1, 0, none⟩ : Addr).add j) = some u := hrow.news
      clear hE4 hA4 hEk hOk hRk hAk hx4 hrow
      have hBa : Below w4.heap.size w4 ((w4.alloc (.cells #[.int .i64 x.kind, .int .i64 x.a, .int .i64 x.b, .int .i64 x.c, .bool x.torn] 101)).alloc (.cells #[.int .i64 x.kind, .int .i64 x.a, .int .i64 x.b, .int .i64 x.c, .bool x.torn] 101)) := by (repeat (first | (with_reducible exact Below.refl _ _) | (with_reducible assumption) | (refine Below.setCell ?_ (by first | omega | exact hB.size | exact hb.size | (have h := hB.size; simp; omega) | (have h := hb.size; simp; omega) | (simp; omega) | simp) _) | (refine Below.alloc ?_ (by first | omega | exact hB.size | exact hb.size | (have h := hB.size; simp; omega) | (have h := hb.size; simp; omega) | (simp; omega) | simp) _) | (refine Below.drew ?_)))
      have Qq0 := (hBa.cell (p := ⟨w.heap.size, 0, none⟩) (by show w.heap.size < w4.heap.size; omega)).trans q0
      have Qq1 := (hBa.cell (p := ⟨w.heap.size, 1, none⟩) (by show w.heap.size < w4.heap.size; omega)).trans q1
      have Qf0 := (hBa.frozen (p := ⟨w.heap.size, 0, none⟩) (by show w.heap.size < w4.heap.size; omega)).trans f0
      have Qf1 := (hBa.frozen (p := ⟨w.heap.size, 1, none⟩) (by show w.heap.size < w4.heap.size; omega)).trans f1
      have Qb0 := (hBa.cell (p := ⟨n1, 0, none⟩) (by show n1 < w4.heap.size; omega)).trans b0
      have Qb1 := (hBa.cell (p := ⟨n1, 1, none⟩) (by show n1 < w4.heap.size; omega)).trans b1
      have Qb2 := (hBa.frozen (p := ⟨n1, 0, none⟩) (by show n1 < w4.heap.size; omega)).trans b2
      have Qb3 := (hBa.frozen (p := ⟨n1, 1, none⟩) (by show n1 < w4.heap.size; omega)).trans b3
      go_wp2_with (at_builtin; refine wpList_append_lies _ rfl (.tmp 18) (.tmp 20) _ rfl (n1 + 1) 101 ib _ 5 40 Try.underlying83 hib hbz0 hbz1 hbz2 rfl (by omega) u5 xs.length (evs xs) rfl hE6 ⟨w4.heap.size + 1, 0, none⟩ 1 1 x.vs rfl rfl hnews (by simp [Value.oneCell', Ev.vs]) (by omega) (by unfold maxLen; omega) (by omega) (by simp; omega) (w4.heap.size + 1 + 1) (by simp) ?_; intro g2 c2 w7 hown2 hgrow2 hat2 hlt2; have hAg := (Agr.refl (fun b => u5.ownBlock = some b) _).grown hgrow2 (fun g hg => .inr hg); have zq0 := (hAg.cell (b := w.heap.size) (by omega) (fun e => by have := hQ _ e; omega) 0).trans Qq0; have zq1 := (hAg.cell (b := w.heap.size) (by omega) (fun e => by have := hQ _ e; omega) 1).trans Qq1; have zf0 := (hAg.fz (b := w.heap.size) (by omega) (fun e => by have := hQ _ e; omega) 0).trans Qf0; have zf1 := (hAg.fz (b := w.heap.size) (by omega) (fun e => by have := hQ _ e; omega) 1).trans Qf1; have zb0 := (hAg.cell (b := n1) (by omega) (fun e => by have := hQ _ e; omega) 0).trans Qb0; have zb1 := (hAg.cell (b := n1) (by omega) (fun e => by have := hQ _ e; omega) 1).trans Qb1; have zb2 := (hAg.fz (b := n1) (by omega) (fun e => by have := hQ _ e; omega) 0).trans Qb2; have zb3 := (hAg.fz (b := n1) (by omega) (fun e => by have := hQ _ e; omega) 1).trans Qb3; have zx0 := (hAg.cell (b := w4.heap.size) (by omega) (fun e => by have := hQ _ e; omega) 0).trans x0; have zx1 := (hAg.cell (b := w4.heap.size) (by omega) (fun e => by have := hQ _ e; omega) 1).trans x1; have zx2 := (hAg.cell (b := w4.heap.size) (by omega) (fun e => by have := hQ _ e; omega) 2).trans x2; have zx3 := (hAg.cell (b := w4.heap.size) (by omega) (fun e => by have := hQ _ e; omega) 3).trans x3; have zx4 := (hAg.cell (b := w4.heap.size) (by omega) (fun e => by have := hQ _ e; omega) 4).trans x4; clear b0 b1 b2 b3 q0 q1 f0 f1 x0 x1 x2 x3 x4 y0 y1 y2 y3 y4)
      have hAll : Agr (fun b => n1 + 1 ≤ b) w4 w7 := hAa.trans hAg (fun b _ h => (hQ _ h).1)
      have hO7 : OSt w7 (w.heap.size + 1) n1 A s.flash D s.disk := hO4.keep fun b h1 h2 hl => hAll.block b hl (by omega)
      have hR7 : Rd w7 B R (p + 7) := hR4.agr hAll (by omega) (fun b hb e => by have := hR4.le; omega)
      have hA7 : Agr (· = R) w w7 := hA4'.trans hAll (fun b hb e => by omega)
      have hs7 : n1 < w7.heap.size := Nat.lt_of_lt_of_le hs4 hAll.size
      have hE7 : OwnE w7 (n1 + 1) (.slice (some ⟨g2, 0, none⟩) (xs.length + 1) c2) (xs ++ [x]) := OwnE.snoc rfl hown2
      clear hAa hAg hAll hO4 hR4 hA4' hQ hE6 hnews hBa Qq0 Qq1 Qf0 Qf1 Qb0 Qb1 Qb2 Qb3 hown2 hgrow2 hat2 hs6
      refine (spec_l21Do s x A D c 6 (w.heap.size + 1) n1 _ hst.out (by omega) hO7).mono ?_
      rintro e w8 ⟨rfl, hO8, hA8⟩
      have hst8 := Lib.hid (doEv_fine hst.out x)
      generalize doEv s x = s8 at *
      replace zq0 := (hA8.cell (b := w.heap.size) (by omega) (by omega) 0).trans zq0
      replace zq1 := (hA8.cell (b := w.heap.size) (by omega) (by omega) 1).trans zq1
      replace zf0 := (hA8.fz (b := w.heap.size) (by omega) (by omega) 0).trans zf0
      replace zf1 := (hA8.fz (b := w.heap.size) (by omega) (by omega) 1).trans zf1
      replace zb0 := (hA8.cell (b := n1) (by omega) (by omega) 0).trans zb0
      replace zb1 := (hA8.cell (b := n1) (by omega) (by omega) 1).trans zb1
      replace zb2 := (hA8.fz (b := n1) (by omega) (by omega) 0).trans zb2
      replace zb3 := (hA8.fz (b := n1) (by omega) (by omega) 1).trans zb3
      have hR8 : Rd w8 B R (p + 7) := hR7.agr hA8 (by omega) (fun b hb e => by have := hR7.le; omega)
      have hE8 : OwnE w8 (n1 + 1) (.slice (some ⟨g2, 0, none⟩) (xs.length + 1) c2) (xs ++ [x]) := hE7.agr hA8 (by intro b h1 h2; omega)
      have hAw8 : Agr (· = R) w w8 := hA7.trans hA8 (fun b hb e => by omega)
      have hs8 : n1 < w8.heap.size := Nat.lt_of_lt_of_le hs7 hA8.size
      clear hO7 hR7 hE7 hA7 hA8 hs7 zx0 zx1 zx2 zx3 zx4
      have hW : Wrote w8 ((w8.setCell ⟨n1, 0, none⟩ (.slice A 4 c)).setCell ⟨n1, 1, none⟩ (.slice D 6 6)) n1 0 [.slice A 4 c, .slice D 6 6] := wrote_setRow n1 [.slice A 4 c, .slice D 6 6] 0 w8 (fun j hj => by
        match j, hj with
        | 0, _ => exact ⟨_, zb0⟩
        | 1, _ => exact ⟨_, zb1⟩)
      have hO9 : OSt _ (w.heap.size + 1) n1 A s8.flash D s8.disk := hO8.keep fun b h1 h2 _ => hW.block b (by omega)
      have hR9 : Rd _ B R (p + 7) := hR8.agr hW.agr (by omega) (fun b hb e => by have := hR8.le; omega)
      have hE9 : OwnE _ (n1 + 1) (.slice (some ⟨g2, 0, none⟩) (xs.length + 1) c2) (xs ++ [x]) := hE8.agr hW.agr (by intro b h1 h2; omega)
      have hA9 : Agr (· = R) w _ := hAw8.trans (S' := (· = n1)) hW.agr (fun b hb e => by omega)
      have t0 := hW.new_ 0 _ rfl
      have t1 := hW.new_ 1 _ rfl
      have t2 := (hW.frozen ⟨n1, 0, none⟩).trans zb2
      have t3 := (hW.frozen ⟨n1, 1, none⟩).trans zb3
      have s0 := (hW.agr.cell (b := w.heap.size) (by omega) (by omega) 0).trans zq0
      have s1 := (hW.agr.cell (b := w.heap.size) (by omega) (by omega) 1).trans zq1
      have s2 := (hW.frozen ⟨w.heap.size, 0, none⟩).trans zf0
      have s3 := (hW.frozen ⟨w.heap.size, 1, none⟩).trans zf1
      have hss := hW.size
      have hXs2 := Lib.hid (show ∀ y ∈ xs ++ [x], evFine y from fun y hy => by
        rcases List.mem_append.1 hy with hy | hy
        · exact hXs.out y hy
        · rw [List.mem_singleton] at hy; subst hy; exact hx)
      have hxl2 : (xs ++ [x]).length + (j - 1) ≤ 58 := by rw [List.length_append]; simp only [List.length_cons, List.length_nil]; omega
      have e1 : IntKind.i64.wrap ((j : Int) - 1) = (j : Int) - 1 := IntWalk.i64_in _ (by omega)
      have e2 : ((j - 1 : Nat) : Int) = (j : Int) - 1 := by omega
      clear hW hO8 hR8 hE8 hAw8 hXs
      have E2 := Lib.hid e2
      clear e2
      go_wp2
      go_roundw
      (case rel => exact ⟨j - 1, p + 7, xs ++ [x], s8, by rw [E2.out], by omega, hxl2, by omega, hE9, hXs2, hst8, hO9, hR9, hA9, by omega, ⟨t0, t1, t2, t3⟩, ⟨s0, s1, s2, s3⟩⟩)
      (case measure => simp [intOf]; omega)
    · obtain rfl : j = 0 := by omega
      go_wp2
      have d0 : wr.drew.cell? ⟨n1, 0, none⟩ = some (.slice A 4 c) := b0
      have d1 : wr.drew.cell? ⟨n1, 1, none⟩ = some (.slice D 6 6) := b1
      have d2 : wr.drew.cell? ⟨w.heap.size, 0, none⟩ = some (.slice none 0 0) := q0
      have d3 : wr.drew.cell? ⟨w.heap.size, 1, none⟩ = some (.slice none 0 0) := q1
      go_region
      all_goals
        go_wp2
        have hF : Agr (· = w.heap.size) wr ((wr.setCell ⟨w.heap.size, 0, none⟩ (.slice A 4 c)).setCell ⟨w.heap.size, 1, none⟩ (.slice D 6 6)).drew := Agr.drew (Agr.setCell (S := fun b => b = w.heap.size) (Agr.setCell (S := fun b => b = w.heap.size) (Agr.refl _ _) (p := ⟨w.heap.size, 0, none⟩) (.inr rfl) _) (p := ⟨w.heap.size, 1, none⟩) (.inr rfl) _)
        refine bodyPost_ret (v := .tuple #[u5, .agg #[.slice A 4 c, .slice D 6 6]]) (by simp [results, Try.results60, go_sem, q0, q1]) rfl ⟨u5, A, D, c, w.heap.size + 1, n1, s, xs, rfl, by omega, ?_, hc, ?_, hst.out, ?_, by omega, hXs.out, ?_, ?_⟩
        · have := hF.size; omega
        · exact hOk.keep fun b h1 h2 hl => hF.block b hl (by omega)
        · exact (hEk.agr hF (by intro b h1 h2; omega)).mono (by omega)
        · exact (hRk.agr hF (by omega) (fun b hb e => by have := hRk.le; omega)).mono (by omega)
        · exact hAk.trans hF (fun b hb e => by omega)
end Go.Proofs.Ytfkjhnfbajflaaa
