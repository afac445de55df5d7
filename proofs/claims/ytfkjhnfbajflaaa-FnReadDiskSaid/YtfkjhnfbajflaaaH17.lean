/- Walks: the reference's StoreAll; lqInts. -/
import Derived.Test.YtfkjhnfbajflaaaG21
import Derived.Test.YtfkjhnfbajflaaaH16
import Derived.BigQuiet
namespace Go.Proofs.Ytfkjhnfbajflaaa
set_option linter.unusedVariables false
set_option linter.unusedSimpArgs false
open Go.RowKit Go.Maps
set_option maxHeartbeats 400000
theorem OwnI.lit (w : World) (base : Nat) (hb : base ≤ w.heap.size) : OwnI (w.alloc (.cells #[] 3)) base (.slice (some ⟨w.heap.size, 0, none⟩) 0 0) [] := World.ownsRow_lit w #[] 0 hb (by unfold maxLen; omega) rfl
def allSp (s : St) : List Int := if storeOk s = true then allV s else []
theorem allSp_len (s : St) : (allSp s).length ≤ 6 := by
  unfold allSp
  split
  · rw [allV_len]; omega
  · simp
theorem allV_step (s : St) {k : Nat} (h : k < 6) : (allV s).take (k + 1) = (allV s).take k ++ [readV s ((k : Int) + 1)] := by
  rw [List.take_add_one, allV_get s h]; rfl
set_option maxHeartbeats 4000000 in
set_option maxRecDepth 100000 in
theorem spec_StoreAll (s : St) (A D : Option Addr) (n m c d : Nat) (w : World) (hn : n = s.flash.length) (hm : m = s.disk.length) (hl : s.flash.length < 1000000000000) (hF : Fl w A s.flash) (hD : Row w D (ints s.disk)) :
    Calls Try.prog 24 #[.agg #[.slice A n c, .slice D m d]] w fun e w' => ∃ v, e = .returned v ∧ OwnI w' w.heap.size v (allSp s) ∧ Below w.heap.size w w' := by
  subst hn; subst hm
  obtain ⟨ib, hib, hbz0, hbz1, hbz2⟩ := info_parts Try.info_int
  obtain ⟨W0, hW0⟩ : ∃ W0, (w.alloc (.cells #[.slice A s.flash.length c, .slice D s.disk.length d] 39)).alloc (.cells #[] 3) = W0 := ⟨_, rfl⟩
  have hB0 : Below w.heap.size w W0 := by rw [← hW0]; (repeat (first | (with_reducible exact Below.refl _ _) | (with_reducible assumption) | (refine Below.setCell ?_ (by first | omega | exact hB.size | exact hb.size | (have h := hB.size; simp; omega) | (have h := hb.size; simp; omega) | (simp; omega) | simp) _) | (refine Below.alloc ?_ (by first | omega | exact hB.size | exact hb.size | (have h := hB.size; simp; omega) | (have h := hb.size; simp; omega) | (simp; omega) | simp) _) | (refine Below.drew ?_)))
  have hs0 : W0.heap.size = w.heap.size + 2 := by rw [← hW0]; simp
  have hO0 : OwnI W0 (w.heap.size + 1) (.slice (some ⟨w.heap.size + 1, 0, none⟩) 0 0) [] := by
    have := OwnI.lit (w.alloc (.cells #[.slice A s.flash.length c, .slice D s.disk.length d] 39)) (w.heap.size + 1) (by simp)
    simp only [World.size_alloc] at this
    rw [← hW0]; exact this
  have x0 : W0.cell? ⟨w.heap.size, 0, none⟩ = some (.slice A s.flash.length c) := by rw [← hW0]; simp [go_sem]
  have x1 : W0.cell? ⟨w.heap.size, 1, none⟩ = some (.slice D s.disk.length d) := by rw [← hW0]; simp [go_sem]
  have hF0 := hF.below hB0 (Nat.le_refl _)
  have hD0 := hD.below hB0 (Nat.le_refl _)
  go_enter Try.func24, Try.ntmps24
  go_wp2_with fail
  refine (spec_StoreOk s A D _ _ c d _ rfl rfl hl hF0 hD0).mono ?_
  rintro e w1 ⟨rfl, hb⟩
  have hs1 := hb.size
  replace x0 := (hb.cell (p := ⟨w.heap.size, 0, none⟩) (by show w.heap.size < _; omega)).trans x0
  replace x1 := (hb.cell (p := ⟨w.heap.size, 1, none⟩) (by show w.heap.size < _; omega)).trans x1
  have hF1 := hF0.below hb (Nat.le_refl _)
  have hD1 := hD0.below hb (Nat.le_refl _)
  have hO1 := hO0.below hb (Nat.le_refl _)
  have hB1 := hB0.trans (hb.mono (by omega))
  have hww : w.heap.size + 2 ≤ w1.heap.size := by omega
  clear hb hF0 hD0 hB0 hO0 hW0 hs0 hs1
  by_cases hsok : storeOk s = true
  · obtain ⟨h6, hord, _⟩ := storeOk_parts hsok
    have hok := order_ok hord
    have hfin : Hid (allSp s = allV s) := by unfold Hid allSp; rw [if_pos hsok]
    have HPL := Lib.hid (show ∀ b ∈ s.flash, b.pages.length < 1000000000000 from fun b hb => by rw [(flashOk_shape hok b hb).1]; omega)
    have H6 := Lib.hid h6
    rw [hsok]
    rw [h6] at x1
    clear hsok hord hok h6
    go_wp2
    go_loopw [3, 4] (fun q i wr => ∃ k : Nat, k ≤ 6 ∧ i = .int .i64 ((k : Int) + 1) ∧ Below (w.heap.size + 1) w1 wr ∧ OwnI wr (w.heap.size + 1) q ((allV s).take k)) (fun _ i _ => 8 - (intOf i).toNat)
    case atStart => exact ⟨0, by omega, rfl, Below.refl _ _, hO1⟩
    case round =>
      obtain ⟨k, hk, rfl, hB, hO⟩ := hrel
      have hBw := hB1.trans (hB.mono (by omega))
      by_cases hlt : k < 6
      · have hk1 : (k : Int) + 1 ≤ 6 := by omega
        have e1 : IntKind.i64.wrap ((k : Int) + 1 + 1) = (k : Int) + 1 + 1 := IntWalk.i64_in _ (by omega)
        have hstep := Lib.hid (allV_step s hlt)
        have hxl : ((allV s).take k).length ≤ 6 := by rw [List.length_take, allV_len]; omega
        have y0 := (hB.cell (p := ⟨w.heap.size, 0, none⟩) (by show w.heap.size < _; omega)).trans x0
        have y1 := (hB.cell (p := ⟨w.heap.size, 1, none⟩) (by show w.heap.size < _; omega)).trans x1
        have hcall := spec_l11Read s ((k : Int) + 1) A D c d wr hl HPL.out H6.out (by omega) hk1 (hF.below hBw (Nat.le_refl _)) (hD.below hBw (Nat.le_refl _))
        generalize readV s ((k : Int) + 1) = v at *
        generalize (allV s).take k = xs at *
        have hsw := hB.size
        go_wp2_with fail
        refine hcall.mono ?_
        clear hcall
        rintro e w3 ⟨rfl, hb3⟩
        have hs3 := hb3.size
        have hO3 := hO.below hb3 (Nat.le_refl _)
        have hB3 := hB.trans (hb3.mono (by omega))
        have hO4 := hO3.alloc (.cells #[.int .i64 v] 3)
        have hrow := Row.new w3 #[.int .i64 v] 3
        have hnews : ∀ j u, [Value.int .i64 v][j]? = some u → (w3.alloc (.cells #[.int .i64 v] 3)).cell? ((⟨w3.heap.size, 0, none⟩ : Addr).add j) = some u := hrow.news
        have hQ : ∀ q, u3.ownBlock = some q → w.heap.size + 1 ≤ q ∧ q < w3.heap.size := fun q e => World.ownsRow.lt hO3 q e
        have hB4 := hB3.alloc (by omega) (.cells #[.int .i64 v] 3)
        clear hb3 hO hrow
        go_wp2_with (at_builtin; refine wpList_append_lies _ rfl (.tmp 14) (.tmp 18) _ rfl (w.heap.size + 1) 3 ib _ 1 8 Try.underlying37 hib hbz0 hbz1 hbz2 rfl (by omega) u3 xs.length (ints xs) rfl hO4 ⟨w3.heap.size, 0, none⟩ 1 1 [.int .i64 v] rfl rfl hnews (by simp [Value.oneCell']) (by omega) (by unfold maxLen; omega) (by omega) (by simp; omega) (w3.heap.size + 1) (by simp) ?_; intro g2 c2 w7 hown2 hgrow2 hat2 hlt2)
        have hB7 : Below (w.heap.size + 1) w1 w7 := hB4.trans ((Agr.refl (fun b => u3.ownBlock = some b) _).grown hgrow2 (fun g hg => .inr hg) |>.below (by simp; omega) (fun i hi => (hQ i hi).1))
        have hO7 : OwnI w7 (w.heap.size + 1) (.slice (some ⟨g2, 0, none⟩) (xs.length + 1) c2) (xs ++ [v]) := OwnI.snoc rfl hown2
        rw [← hstep.out] at hO7
        clear hown2 hgrow2 hat2 hO4 hO3 hQ hnews hB4 hB3
        go_wp2
        go_roundw
        (case rel => exact ⟨k + 1, by omega, by go_num, hB7, hO7⟩)
        (case measure => simp [intOf]; omega)
      · have hk4 : ¬ ((k : Int) + 1 ≤ 6) := by omega
        have hkk : k = 6 := by omega
        have hOf : OwnI wr w.heap.size u3 (allSp s) := by rw [hfin.out]; rw [hkk] at hO; exact World.ownsRow.mono hO (by omega)
        clear hO hkk
        go_wp2
        go_ret
        exact ⟨u3, rfl, hOf, hBw⟩
  · have hfin : allSp s = [] := by unfold allSp; rw [if_neg hsok]
    rw [show storeOk s = false from by simpa using hsok]
    have hOf : OwnI w1 w.heap.size (.slice (some ⟨w.heap.size + 1, 0, none⟩) 0 0) (allSp s) := by rw [hfin]; exact World.ownsRow.mono hO1 (by omega)
    clear hsok hfin hO1
    go_wp2
    go_ret
    exact ⟨_, rfl, hOf, hB1⟩
theorem laws_lqInts (A A' : Option Addr) (n m c c' : Nat) (xs ys : List Int) (w : World) (hn : n = xs.length) (hm : m = ys.length) (hl : xs.length < 1000000000000) (hR : Row w A (ints xs)) (hR' : Row w A' (ints ys)) :
    Calls Try.prog 23 #[.slice A n c, .slice A' m c'] w fun e w' => e = .returned (.bool (decide (xs = ys))) ∧ Below w.heap.size w w' := by
  subst hn; subst hm
  by_cases hlen : xs.length = ys.length
  · have HL := Lib.hid hlen
    rw [← hlen]
    clear hlen
    go_enter Try.func23, Try.ntmps23
    go_wp2
    go_loopw [5] (fun i wr => ∃ k : Nat, k ≤ xs.length ∧ i = .int .i64 k ∧ Below w.heap.size w wr ∧ Hid (decide (xs = ys) = decide (xs.drop k = ys.drop k))) (fun i _ => xs.length - (intOf i).toNat)
    case atStart => exact ⟨0, by omega, rfl, Below.refl _ _, rfl⟩
    case round =>
      obtain ⟨k, hk, rfl, hB, hT⟩ := hrel
      by_cases hlt : k < xs.length
      · obtain ⟨x, hx⟩ := get_some hlt
        obtain ⟨y, hy⟩ := get_some (l := ys) (k := k) (by rw [← HL.out]; exact hlt)
        obtain ⟨b, o, rfl⟩ := hR.addr (ints_ne' (by intro e; rw [e] at hx; simp at hx))
        obtain ⟨b', o', rfl⟩ := hR'.addr (ints_ne' (by intro e; rw [e] at hy; simp at hy))
        obtain ⟨c0, _⟩ := (hR.below hB (Nat.le_refl _)).int_ hx
        obtain ⟨d0, _⟩ := (hR'.below hB (Nat.le_refl _)).int_ hy
        have hk1 : (k : Int) < xs.length := by omega
        have e1 : IntKind.i64.wrap ((k : Int) + 1) = (k : Int) + 1 := IntWalk.i64_in _ (by omega)
        have hT2 : Hid (decide (xs = ys) = decide (x :: xs.drop (k + 1) = y :: ys.drop (k + 1))) := by rw [Hid, hT.out, drop_cons hx, drop_cons hy]
        clear hx hy hT
        by_cases he : x = y
        · subst he
          have hz : Hid (decide (xs = ys) = decide (xs.drop (k + 1) = ys.drop (k + 1))) := by rw [Hid, hT2.out]; simp
          clear hT2
          go_wp2
          go_quiet (fail)
          have hBq := below_drewN hB nq
          go_wp2
          go_roundw
          (case rel => exact ⟨k + 1, by omega, by go_num, hBq, hz⟩)
          (case measure => simp [intOf]; omega)
        · have hz : Hid (decide (xs = ys) = false) := by rw [Hid, hT2.out]; simp [he]
          have hne : (x != y) = true := by rw [bne_iff_ne]; exact he
          clear hT2 he
          go_wp2
          go_quiet (fail)
          have hBq := below_drewN hB nq
          go_wp2
          go_ret
          exact ⟨ret_bool hz.out.symm, hBq⟩
      · have hk4 : (xs.length : Int) ≤ (k : Int) := by omega
        have hz : Hid (decide (xs = ys) = true) := by rw [Hid, hT.out, List.drop_of_length_le (by omega), List.drop_of_length_le (by have := HL.out; omega)]; simp
        clear hT
        go_wp2
        go_ret
        exact ⟨ret_bool hz.out.symm, hB⟩
  · have hz : Hid (decide (xs = ys) = false) := by rw [Hid]; exact decide_eq_false (fun e => hlen (by rw [e]))
    have hne : ((xs.length : Int) != (ys.length : Int)) = true := by rw [bne_iff_ne]; omega
    clear hlen
    go_enter Try.func23, Try.ntmps23
    go_wp2
    go_ret
    exact ⟨ret_bool hz.out.symm, Below.refl _ _⟩
end Go.Proofs.Ytfkjhnfbajflaaa
