/- What the laws' walks share: words, plain laws, and the walks of functions, part 5. -/
import Derived.BigQuiet
import Derived.Laws.EntriesVeiled
import Derived.Laws.ResultCell
import Derived.Test.YtbekihiiildgmaaV4
namespace Go.Proofs.Ytbekihiiildgmaa
set_option linter.unusedVariables false
set_option linter.unusedSimpArgs false
open Go.RowKit Go.Maps
set_option maxHeartbeats 400000
set_option maxHeartbeats 8000000 in
set_option maxRecDepth 100000 in
theorem spec_StoreOk (s : St) (A D : Option Addr) (n m c d : Nat) (w : World) (hn : n = s.flash.length) (hm : m = s.disk.length) (hl : s.flash.length < 1000000000000) (hF : Fl w A s.flash) (hD : Row w D (ints s.disk)) :
    Calls Try.prog 19 #[.agg #[.slice A n c, .slice D m d]] w fun e w' => e = .returned (.bool (storeOk s)) ∧ Below w.heap.size w w' := by
  subst hn; subst hm
  have hB0 : Below w.heap.size w (w.alloc (.cells #[.slice A s.flash.length c, .slice D s.disk.length d] 26)) := (Below.refl _ _).alloc (Nat.le_refl _) _
  have hF0 := hF.below hB0 (Nat.le_refl _)
  have hD0 := hD.below hB0 (Nat.le_refl _)
  go_enter Try.func19, Try.ntmps19
  go_wp2_with fail
  refine (spec_FindOrder s.flash A _ c _ rfl hl hF0).mono ?_
  rw [← findOrder_eq]
  rintro e w1 ⟨rfl, hb⟩
  have hs1 := hb.size
  simp only [World.size_alloc] at hs1
  have x0 : w1.cell? ⟨w.heap.size, 0, none⟩ = some (.slice A s.flash.length c) := (hb.cell (p := ⟨w.heap.size, 0, none⟩) (by simp)).trans (by simp)
  have x1 : w1.cell? ⟨w.heap.size, 1, none⟩ = some (.slice D s.disk.length d) := (hb.cell (p := ⟨w.heap.size, 1, none⟩) (by simp)).trans (by simp)
  have hF1 := hF0.below hb (Nat.le_refl _)
  have hD1 := hD0.below hb (Nat.le_refl _)
  have hB1 := hB0.trans (hb.mono (by simp))
  clear hb hF0 hD0 hB0
  by_cases hord : findOrderI s.flash = true
  · have hok := order_ok hord
    have HPL := Lib.hid (show ∀ b ∈ s.flash, b.pages.length < 1000000000000 from fun b hb => by rw [(flashOk_shape hok b hb).1]; omega)
    have hfin : Hid (storeOk s = if s.disk.length = 6 then diskGo s.flash 0 s.disk else false) := by unfold Hid storeOk; rw [if_pos hord]
    rw [hord]
    clear hord hok
    by_cases h6 : s.disk.length = 6
    · have H6 := Lib.hid h6
      have hfin2 : Hid (storeOk s = diskGo s.flash 0 s.disk) := by rw [Hid, hfin.out, if_pos h6]
      obtain ⟨db, dO, rfl⟩ := hD1.addr (ints_ne' (by intro e; rw [e] at h6; simp at h6))
      rw [h6] at x1 ⊢
      clear h6 hfin hF hD
      go_wp2
      go_loopw [3] (fun i wr => ∃ k : Nat, k ≤ 6 ∧ i = .int .i64 k ∧ Below w1.heap.size w1 wr ∧ Hid (diskGo s.flash 0 s.disk = diskGo s.flash k (s.disk.drop k))) (fun i _ => 6 - (intOf i).toNat)
      case atStart => exact ⟨0, by omega, rfl, Below.refl _ _, rfl⟩
      case round =>
        obtain ⟨k, hk, rfl, hB, hT⟩ := hrel
        by_cases hlt : k < 6
        · obtain ⟨v, hv⟩ := get_some (l := s.disk) (k := k) (by rw [H6.out]; exact hlt)
          have hk1 : (k : Int) < 6 := by omega
          have e1 : IntKind.i64.wrap ((k : Int) + 1) = (k : Int) + 1 := IntWalk.i64_in _ (by omega)
          have hT2 : Hid (diskGo s.flash 0 s.disk = if valB v = true then (if diskBad s.flash k v then false else diskGo s.flash (k + 1) (s.disk.drop (k + 1))) else false) := by rw [Hid, hT.out, drop_cons hv, diskGo]
          have hdb : Hid (diskBad s.flash k v ↔ (0 < (last s.flash ((k : Int) + 1)).seq ∧ (last s.flash ((k : Int) + 1)).kind = 2 ∧ (last s.flash ((k : Int) + 1)).val ≠ v)) := Iff.rfl
          have HV := Lib.hid hv
          have hwn : w.heap.size < wr.heap.size := by have := hB.size; omega
          replace x0 := (hB.cell (p := ⟨w.heap.size, 0, none⟩) (by show w.heap.size < _; omega)).trans x0
          replace x1 := (hB.cell (p := ⟨w.heap.size, 1, none⟩) (by show w.heap.size < _; omega)).trans x1
          clear hv hT
          go_wp2_with fail
          refine (spec_l3Last s.flash ((k : Int) + 1) A c _ hl HPL.out (hF1.below hB (Nat.le_refl _))).mono ?_
          generalize last s.flash ((k : Int) + 1) = r at *
          rintro e w3 ⟨rfl, hb3⟩
          have hB3 := hB.trans (hb3.mono hB.size)
          have hs3 := hb3.size
          obtain ⟨R, hR⟩ : ∃ R, w3.heap.size = R := ⟨_, rfl⟩
          have hBn : Below w1.heap.size w1 (w3.alloc (.cells #[.int .i64 r.kind, .int .i64 r.seq, .int .i64 r.addr, .int .i64 r.val] 45)).drew := (hB3.alloc hB3.size _).drew
          have hBf := hB1.trans (hBn.mono (by omega))
          have y1 : (w3.alloc (.cells #[.int .i64 r.kind, .int .i64 r.seq, .int .i64 r.addr, .int .i64 r.val] 45)).cell? ⟨w.heap.size, 1, none⟩ = some (.slice (some ⟨db, dO, none⟩) 6 d) := (((Below.refl w3.heap.size w3).alloc (Nat.le_refl _) _).cell (p := ⟨w.heap.size, 1, none⟩) (by show w.heap.size < _; omega)).trans ((hb3.cell (p := ⟨w.heap.size, 1, none⟩) hwn).trans x1)
          obtain ⟨cv, _⟩ := ((hD1.below hB3 (Nat.le_refl _)).alloc (.cells #[.int .i64 r.kind, .int .i64 r.seq, .int .i64 r.addr, .int .i64 r.val] 45)).int_ HV.out
          have z0 : (w3.alloc (.cells #[.int .i64 r.kind, .int .i64 r.seq, .int .i64 r.addr, .int .i64 r.val] 45)).cell? ⟨R, 0, none⟩ = some (.int .i64 r.kind) := by rw [← hR]; simp
          have z3 : (w3.alloc (.cells #[.int .i64 r.kind, .int .i64 r.seq, .int .i64 r.addr, .int .i64 r.val] 45)).cell? ⟨R, 3, none⟩ = some (.int .i64 r.val) := by rw [← hR]; simp
          clear hb3 hB3
          by_cases hr : 0 < r.seq
          · have dr : decide (0 < r.seq) = true := decide_eq_true hr
            go_wp2
            (try rw [hR])
            by_cases hvo : valB v = true
            · have hT3 := hT2.out
              rw [if_pos hvo] at hT3
              replace hT3 := Lib.hid hT3
              have HIN := Lib.hid (fun X => (spec_l6In v 0 9 X).mono (fun e w' (h : e = .returned (.bool (valB v)) ∧ X = w') => (show e = .returned (.bool true) ∧ X = w' from by rw [hvo] at h; exact h)))
              clear hT2 hvo
              refine wp_region_held_drew (S := fun X => X.cell? ⟨w.heap.size, 1, none⟩ = some (.slice (some ⟨db, dO, none⟩) 6 d) ∧ X.cell? ⟨db, dO + k, none⟩ = some (.int .i64 v) ∧ X.cell? ⟨R, 0, none⟩ = some (.int .i64 r.kind) ∧ X.cell? ⟨R, 3, none⟩ = some (.int .i64 r.val)) (by kernel_rfl) ⟨y1, cv, z0, z3⟩ (fun hHeld0 => ?_)
              refine wpAnyH_take (i := 0) (v := ?vqtt1) rfl (by kernel_rfl) (by kernel_rfl) (by kernel_rfl) (fun _ _ _ h => h) (Or.inl ⟨by kernel_rfl, ?yqtt1⟩) hHeld0 ?rqtt1
              case yqtt1 => (intro w' hS; (try dsimp only at hS); obtain ⟨s0, s1, s2, s3⟩ := hS; (try go_simp); (try with_reducible rfl))
              try simp only [Act.put, List.getElem_toArray, List.getElem_cons_zero, List.getElem_cons_succ, List.setIfInBounds_toArray, List.set_cons_zero, List.set_cons_succ]
              refine wpAnyH_take (i := 1) (v := ?vqtt2) rfl (by kernel_rfl) (by kernel_rfl) (by kernel_rfl) (fun _ _ _ h => h) (Or.inl ⟨by kernel_rfl, ?yqtt2⟩) hHeld0 ?rqtt2
              case yqtt2 => (intro w' hS; (try dsimp only at hS); obtain ⟨s0, s1, s2, s3⟩ := hS; (try go_simp); (try with_reducible rfl))
              try simp only [Act.put, List.getElem_toArray, List.getElem_cons_zero, List.getElem_cons_succ, List.setIfInBounds_toArray, List.set_cons_zero, List.set_cons_succ]
              refine wpAnyH_take (i := 2) (v := ?vqtt3) rfl (by kernel_rfl) (by kernel_rfl) (by kernel_rfl) (fun _ _ _ h => h) (Or.inl ⟨by kernel_rfl, ?yqtt3⟩) hHeld0 ?rqtt3
              case yqtt3 => (intro w' hS; (try dsimp only at hS); obtain ⟨s0, s1, s2, s3⟩ := hS; (try go_simp); (try with_reducible rfl))
              try simp only [Act.put, List.getElem_toArray, List.getElem_cons_zero, List.getElem_cons_succ, List.setIfInBounds_toArray, List.set_cons_zero, List.set_cons_succ]
              refine wpAnyH_take (i := 3) (v := ?vqtt4) rfl (by kernel_rfl) (by kernel_rfl) (by kernel_rfl) (fun _ _ _ h => h) (Or.inl ⟨by kernel_rfl, ?yqtt4⟩) hHeld0 ?rqtt4
              case yqtt4 => (intro w' hS; (try dsimp only at hS); obtain ⟨s0, s1, s2, s3⟩ := hS; (try go_simp); (try with_reducible rfl))
              try simp only [Act.put, List.getElem_toArray, List.getElem_cons_zero, List.getElem_cons_succ, List.setIfInBounds_toArray, List.set_cons_zero, List.set_cons_succ]
              refine wpAnyH_take (i := 4) (v := ?vqtt5) rfl (by kernel_rfl) (by kernel_rfl) (by kernel_rfl) (fun _ _ _ h => h) (Or.inl ⟨by kernel_rfl, ?yqtt5⟩) hHeld0 ?rqtt5
              case yqtt5 => (intro w' hS; (try dsimp only at hS); obtain ⟨s0, s1, s2, s3⟩ := hS; (try go_simp); (try with_reducible rfl))
              try simp only [Act.put, List.getElem_toArray, List.getElem_cons_zero, List.getElem_cons_succ, List.setIfInBounds_toArray, List.set_cons_zero, List.set_cons_succ]
              refine wpAnyH_ready (rs := [5]) (by kernel_rfl) (by simp) ?_
              refine AllReadyH.cons rfl (fun K hK => ?_) AllReadyH.nil
              go_simp
              refine (HIN.out _).mono ?_
              rintro e x1 ⟨rfl, rfl⟩
              go_wp2_with fail
              refine hK.out _ _ ((by first | exact hHeld0 | (obtain ⟨a1, a2, a3, a4⟩ := hHeld0; exact ⟨a1, a2, a3, a4⟩))) (fun hHeld1 => ?_)
              clear hK K
              try simp only [Act.put, List.getElem_toArray, List.getElem_cons_zero, List.getElem_cons_succ, List.setIfInBounds_toArray, List.set_cons_zero, List.set_cons_succ]
              refine wpAnyH_take (i := 6) (v := ?vqtt6) rfl (by kernel_rfl) (by kernel_rfl) (by kernel_rfl) (fun _ _ _ h => h) (Or.inl ⟨by kernel_rfl, ?yqtt6⟩) hHeld1 ?rqtt6
              case yqtt6 => (intro w' hS; (try dsimp only at hS); obtain ⟨s0, s1, s2, s3⟩ := hS; (try go_simp); (try with_reducible rfl))
              try simp only [Act.put, List.getElem_toArray, List.getElem_cons_zero, List.getElem_cons_succ, List.setIfInBounds_toArray, List.set_cons_zero, List.set_cons_succ]
              refine wpAnyH_take (i := 7) (v := ?vqtt7) rfl (by kernel_rfl) (by kernel_rfl) (by kernel_rfl) (fun _ _ _ h => h) (Or.inl ⟨by kernel_rfl, ?yqtt7⟩) hHeld1 ?rqtt7
              case yqtt7 => (intro w' hS; (try dsimp only at hS); obtain ⟨s0, s1, s2, s3⟩ := hS; (try go_simp); (try with_reducible rfl))
              try simp only [Act.put, List.getElem_toArray, List.getElem_cons_zero, List.getElem_cons_succ, List.setIfInBounds_toArray, List.set_cons_zero, List.set_cons_succ]
              refine wpAnyH_take (i := 8) (v := ?vqtt8) rfl (by kernel_rfl) (by kernel_rfl) (by kernel_rfl) (fun _ _ _ h => h) (Or.inl ⟨by kernel_rfl, ?yqtt8⟩) hHeld1 ?rqtt8
              case yqtt8 => (intro w' hS; (try dsimp only at hS); obtain ⟨s0, s1, s2, s3⟩ := hS; (try go_simp); (try with_reducible rfl))
              try simp only [Act.put, List.getElem_toArray, List.getElem_cons_zero, List.getElem_cons_succ, List.setIfInBounds_toArray, List.set_cons_zero, List.set_cons_succ]
              refine wpAnyH_take (i := 9) (v := ?vqtt9) rfl (by kernel_rfl) (by kernel_rfl) (by kernel_rfl) (fun _ _ _ h => h) (Or.inl ⟨by kernel_rfl, ?yqtt9⟩) hHeld1 ?rqtt9
              case yqtt9 => (intro w' hS; (try dsimp only at hS); obtain ⟨s0, s1, s2, s3⟩ := hS; (try go_simp); (try with_reducible rfl))
              try simp only [Act.put, List.getElem_toArray, List.getElem_cons_zero, List.getElem_cons_succ, List.setIfInBounds_toArray, List.set_cons_zero, List.set_cons_succ]
              refine wpAnyH_take (i := 10) (v := ?vqtt10) rfl (by kernel_rfl) (by kernel_rfl) (by kernel_rfl) (fun _ _ _ h => h) (Or.inl ⟨by kernel_rfl, ?yqtt10⟩) hHeld1 ?rqtt10
              case yqtt10 => (intro w' hS; (try dsimp only at hS); obtain ⟨s0, s1, s2, s3⟩ := hS; (try go_simp); (try with_reducible rfl))
              try simp only [Act.put, List.getElem_toArray, List.getElem_cons_zero, List.getElem_cons_succ, List.setIfInBounds_toArray, List.set_cons_zero, List.set_cons_succ]
              refine wpAnyH_take (i := 11) (v := ?vqtt11) rfl (by kernel_rfl) (by kernel_rfl) (by kernel_rfl) (fun _ _ _ h => h) (Or.inl ⟨by kernel_rfl, ?yqtt11⟩) hHeld1 ?rqtt11
              case yqtt11 => (intro w' hS; (try dsimp only at hS); obtain ⟨s0, s1, s2, s3⟩ := hS; (try go_simp); (try with_reducible rfl))
              try simp only [Act.put, List.getElem_toArray, List.getElem_cons_zero, List.getElem_cons_succ, List.setIfInBounds_toArray, List.set_cons_zero, List.set_cons_succ]
              by_cases n1 : r.kind = 2
              · have dn1 : (r.kind == 2) = true := by rw [beq_iff_eq]; exact n1
                have HN1 := Lib.hid n1
                clear n1
                refine wpAnyH_take (i := 12) (v := ?vqtt12) rfl (by kernel_rfl) (by kernel_rfl) (by kernel_rfl) (fun _ _ _ h => h) (Or.inl ⟨by kernel_rfl, ?yqtt12⟩) hHeld1 ?rqtt12
                case yqtt12 => (intro w' hS; (try dsimp only at hS); obtain ⟨s0, s1, s2, s3⟩ := hS; (try go_simp); (try with_reducible rfl))
                try simp only [Act.put, List.getElem_toArray, List.getElem_cons_zero, List.getElem_cons_succ, List.setIfInBounds_toArray, List.set_cons_zero, List.set_cons_succ]
                refine wpAnyH_take (i := 13) (v := ?vqtt13) rfl (by kernel_rfl) (by kernel_rfl) (by kernel_rfl) (fun _ _ _ h => h) (Or.inl ⟨by kernel_rfl, ?yqtt13⟩) hHeld1 ?rqtt13
                case yqtt13 => (intro w' hS; (try dsimp only at hS); obtain ⟨s0, s1, s2, s3⟩ := hS; (try go_simp); (try with_reducible rfl))
                try simp only [Act.put, List.getElem_toArray, List.getElem_cons_zero, List.getElem_cons_succ, List.setIfInBounds_toArray, List.set_cons_zero, List.set_cons_succ]
                refine wpAnyH_take (i := 14) (v := ?vqtt14) rfl (by kernel_rfl) (by kernel_rfl) (by kernel_rfl) (fun _ _ _ h => h) (Or.inl ⟨by kernel_rfl, ?yqtt14⟩) hHeld1 ?rqtt14
                case yqtt14 => (intro w' hS; (try dsimp only at hS); obtain ⟨s0, s1, s2, s3⟩ := hS; (try go_simp); (try with_reducible rfl))
                try simp only [Act.put, List.getElem_toArray, List.getElem_cons_zero, List.getElem_cons_succ, List.setIfInBounds_toArray, List.set_cons_zero, List.set_cons_succ]
                refine wpAnyH_take (i := 15) (v := ?vqtt15) rfl (by kernel_rfl) (by kernel_rfl) (by kernel_rfl) (fun _ _ _ h => h) (Or.inl ⟨by kernel_rfl, ?yqtt15⟩) hHeld1 ?rqtt15
                case yqtt15 => (intro w' hS; (try dsimp only at hS); obtain ⟨s0, s1, s2, s3⟩ := hS; (try go_simp); (try with_reducible rfl))
                try simp only [Act.put, List.getElem_toArray, List.getElem_cons_zero, List.getElem_cons_succ, List.setIfInBounds_toArray, List.set_cons_zero, List.set_cons_succ]
                refine wpAnyH_take (i := 16) (v := ?vqtt16) rfl (by kernel_rfl) (by kernel_rfl) (by kernel_rfl) (fun _ _ _ h => h) (Or.inl ⟨by kernel_rfl, ?yqtt16⟩) hHeld1 ?rqtt16
                case yqtt16 => (intro w' hS; (try dsimp only at hS); obtain ⟨s0, s1, s2, s3⟩ := hS; (try go_simp); (try with_reducible rfl))
                try simp only [Act.put, List.getElem_toArray, List.getElem_cons_zero, List.getElem_cons_succ, List.setIfInBounds_toArray, List.set_cons_zero, List.set_cons_succ]
                refine wpAnyH_take (i := 17) (v := ?vqtt17) rfl (by kernel_rfl) (by kernel_rfl) (by kernel_rfl) (fun _ _ _ h => h) (Or.inl ⟨by kernel_rfl, ?yqtt17⟩) hHeld1 ?rqtt17
                case yqtt17 => (intro w' hS; (try dsimp only at hS); obtain ⟨s0, s1, s2, s3⟩ := hS; (try go_simp); (try with_reducible rfl))
                try simp only [Act.put, List.getElem_toArray, List.getElem_cons_zero, List.getElem_cons_succ, List.setIfInBounds_toArray, List.set_cons_zero, List.set_cons_succ]
                refine wpAnyH_take (i := 18) (v := ?vqtt18) rfl (by kernel_rfl) (by kernel_rfl) (by kernel_rfl) (fun _ _ _ h => h) (Or.inl ⟨by kernel_rfl, ?yqtt18⟩) hHeld1 ?rqtt18
                case yqtt18 => (intro w' hS; (try dsimp only at hS); obtain ⟨s0, s1, s2, s3⟩ := hS; (try go_simp); (try with_reducible rfl))
                try simp only [Act.put, List.getElem_toArray, List.getElem_cons_zero, List.getElem_cons_succ, List.setIfInBounds_toArray, List.set_cons_zero, List.set_cons_succ]
                refine wpAnyH_take (i := 19) (v := ?vqtt19) rfl (by kernel_rfl) (by kernel_rfl) (by kernel_rfl) (fun _ _ _ h => h) (Or.inl ⟨by kernel_rfl, ?yqtt19⟩) hHeld1 ?rqtt19
                case yqtt19 => (intro w' hS; (try dsimp only at hS); obtain ⟨s0, s1, s2, s3⟩ := hS; (try go_simp); (try with_reducible rfl))
                try simp only [Act.put, List.getElem_toArray, List.getElem_cons_zero, List.getElem_cons_succ, List.setIfInBounds_toArray, List.set_cons_zero, List.set_cons_succ]
                refine wpAnyH_take (i := 20) (v := ?vqtt20) rfl (by kernel_rfl) (by kernel_rfl) (by kernel_rfl) (fun _ _ _ h => h) (Or.inl ⟨by kernel_rfl, ?yqtt20⟩) hHeld1 ?rqtt20
                case yqtt20 => (intro w' hS; (try dsimp only at hS); obtain ⟨s0, s1, s2, s3⟩ := hS; (try go_simp); (try with_reducible rfl))
                try simp only [Act.put, List.getElem_toArray, List.getElem_cons_zero, List.getElem_cons_succ, List.setIfInBounds_toArray, List.set_cons_zero, List.set_cons_succ]
                refine wpAnyH_take (i := 21) (v := ?vqtt21) rfl (by kernel_rfl) (by kernel_rfl) (by kernel_rfl) (fun _ _ _ h => h) (Or.inl ⟨by kernel_rfl, ?yqtt21⟩) hHeld1 ?rqtt21
                case yqtt21 => (intro w' hS; (try dsimp only at hS); obtain ⟨s0, s1, s2, s3⟩ := hS; (try go_simp); (try with_reducible rfl))
                try simp only [Act.put, List.getElem_toArray, List.getElem_cons_zero, List.getElem_cons_succ, List.setIfInBounds_toArray, List.set_cons_zero, List.set_cons_succ]
                by_cases n2 : r.val ≠ v
                · have dn2 : (r.val != v) = true := by rw [bne_iff_ne]; exact n2
                  refine wpAnyH_take (i := 22) (v := ?vqtt22) rfl (by kernel_rfl) (by kernel_rfl) (by kernel_rfl) (fun _ _ _ h => h) (Or.inl ⟨by kernel_rfl, ?yqtt22⟩) hHeld1 ?rqtt22
                  case yqtt22 => (intro w' hS; (try dsimp only at hS); obtain ⟨s0, s1, s2, s3⟩ := hS; (try go_simp); (try with_reducible rfl))
                  try simp only [Act.put, List.getElem_toArray, List.getElem_cons_zero, List.getElem_cons_succ, List.setIfInBounds_toArray, List.set_cons_zero, List.set_cons_succ]
                  refine wpAnyH_take (i := 23) (v := ?vqtt23) rfl (by kernel_rfl) (by kernel_rfl) (by kernel_rfl) (fun _ _ _ h => h) (Or.inl ⟨by kernel_rfl, ?yqtt23⟩) hHeld1 ?rqtt23
                  case yqtt23 => (intro w' hS; (try dsimp only at hS); obtain ⟨s0, s1, s2, s3⟩ := hS; (try go_simp); (try with_reducible rfl))
                  try simp only [Act.put, List.getElem_toArray, List.getElem_cons_zero, List.getElem_cons_succ, List.setIfInBounds_toArray, List.set_cons_zero, List.set_cons_succ]
                  refine wpAnyH_take (i := 24) (v := ?vqtt24) rfl (by kernel_rfl) (by kernel_rfl) (by kernel_rfl) (fun _ _ _ h => h) (Or.inl ⟨by kernel_rfl, ?yqtt24⟩) hHeld1 ?rqtt24
                  case yqtt24 => (intro w' hS; (try dsimp only at hS); obtain ⟨s0, s1, s2, s3⟩ := hS; (try go_simp); (try with_reducible rfl))
                  try simp only [Act.put, List.getElem_toArray, List.getElem_cons_zero, List.getElem_cons_succ, List.setIfInBounds_toArray, List.set_cons_zero, List.set_cons_succ]
                  refine wpAnyH_done (by kernel_rfl) ?_ _
                  have hx := hT3.out
                  rw [if_pos (hdb.out.2 ⟨hr, HN1.out, n2⟩)] at hx
                  replace hx := Lib.hid hx
                  clear hT3
                  go_wp2
                  go_ret
                  exact ⟨ret_bool (by rw [hfin2.out, hx.out]), hBf⟩
                · have dn2 : (r.val != v) = false := by rw [bne_eq_false_iff_eq]; simpa using n2
                  refine wpAnyH_take (i := 22) (v := ?vqtt25) rfl (by kernel_rfl) (by kernel_rfl) (by kernel_rfl) (fun _ _ _ h => h) (Or.inl ⟨by kernel_rfl, ?yqtt25⟩) hHeld1 ?rqtt25
                  case yqtt25 => (intro w' hS; (try dsimp only at hS); obtain ⟨s0, s1, s2, s3⟩ := hS; (try go_simp); (try with_reducible rfl))
                  try simp only [Act.put, List.getElem_toArray, List.getElem_cons_zero, List.getElem_cons_succ, List.setIfInBounds_toArray, List.set_cons_zero, List.set_cons_succ]
                  refine wpAnyH_take (i := 23) (v := ?vqtt26) rfl (by kernel_rfl) (by kernel_rfl) (by kernel_rfl) (fun _ _ _ h => h) (Or.inl ⟨by kernel_rfl, ?yqtt26⟩) hHeld1 ?rqtt26
                  case yqtt26 => (intro w' hS; (try dsimp only at hS); obtain ⟨s0, s1, s2, s3⟩ := hS; (try go_simp); (try with_reducible rfl))
                  try simp only [Act.put, List.getElem_toArray, List.getElem_cons_zero, List.getElem_cons_succ, List.setIfInBounds_toArray, List.set_cons_zero, List.set_cons_succ]
                  refine wpAnyH_take (i := 24) (v := ?vqtt27) rfl (by kernel_rfl) (by kernel_rfl) (by kernel_rfl) (fun _ _ _ h => h) (Or.inl ⟨by kernel_rfl, ?yqtt27⟩) hHeld1 ?rqtt27
                  case yqtt27 => (intro w' hS; (try dsimp only at hS); obtain ⟨s0, s1, s2, s3⟩ := hS; (try go_simp); (try with_reducible rfl))
                  try simp only [Act.put, List.getElem_toArray, List.getElem_cons_zero, List.getElem_cons_succ, List.setIfInBounds_toArray, List.set_cons_zero, List.set_cons_succ]
                  refine wpAnyH_done (by kernel_rfl) ?_ _
                  have hx := hT3.out
                  rw [if_neg (fun e => n2 (hdb.out.1 e).2.2)] at hx
                  replace hx := Lib.hid hx
                  clear hT3
                  go_wp2
                  go_roundw
                  (case rel => exact ⟨k + 1, by omega, by go_num, hBn, hx⟩)
                  (case measure => simp [intOf]; omega)
              · have dn1 : (r.kind == 2) = false := by rw [beq_eq_false_iff_ne]; exact n1
                have HN1 := Lib.hid n1
                refine wpAnyH_take (i := 12) (v := ?vqtt28) rfl (by kernel_rfl) (by kernel_rfl) (by kernel_rfl) (fun _ _ _ h => h) (Or.inl ⟨by kernel_rfl, ?yqtt28⟩) hHeld1 ?rqtt28
                case yqtt28 => (intro w' hS; (try dsimp only at hS); obtain ⟨s0, s1, s2, s3⟩ := hS; (try go_simp); (try with_reducible rfl))
                try simp only [Act.put, List.getElem_toArray, List.getElem_cons_zero, List.getElem_cons_succ, List.setIfInBounds_toArray, List.set_cons_zero, List.set_cons_succ]
                refine wpAnyH_take (i := 13) (v := ?vqtt29) rfl (by kernel_rfl) (by kernel_rfl) (by kernel_rfl) (fun _ _ _ h => h) (Or.inl ⟨by kernel_rfl, ?yqtt29⟩) hHeld1 ?rqtt29
                case yqtt29 => (intro w' hS; (try dsimp only at hS); obtain ⟨s0, s1, s2, s3⟩ := hS; (try go_simp); (try with_reducible rfl))
                try simp only [Act.put, List.getElem_toArray, List.getElem_cons_zero, List.getElem_cons_succ, List.setIfInBounds_toArray, List.set_cons_zero, List.set_cons_succ]
                refine wpAnyH_take (i := 14) (v := ?vqtt30) rfl (by kernel_rfl) (by kernel_rfl) (by kernel_rfl) (fun _ _ _ h => h) (Or.inl ⟨by kernel_rfl, ?yqtt30⟩) hHeld1 ?rqtt30
                case yqtt30 => (intro w' hS; (try dsimp only at hS); obtain ⟨s0, s1, s2, s3⟩ := hS; (try go_simp); (try with_reducible rfl))
                try simp only [Act.put, List.getElem_toArray, List.getElem_cons_zero, List.getElem_cons_succ, List.setIfInBounds_toArray, List.set_cons_zero, List.set_cons_succ]
                refine wpAnyH_take (i := 15) (v := undef) rfl (by kernel_rfl) (by kernel_rfl) (by kernel_rfl) (fun _ _ _ h => h) (Or.inr ⟨by kernel_rfl, rfl⟩) hHeld1 ?_
                try simp only [Act.put, List.getElem_toArray, List.getElem_cons_zero, List.getElem_cons_succ, List.setIfInBounds_toArray, List.set_cons_zero, List.set_cons_succ]
                refine wpAnyH_take (i := 16) (v := undef) rfl (by kernel_rfl) (by kernel_rfl) (by kernel_rfl) (fun _ _ _ h => h) (Or.inr ⟨by kernel_rfl, rfl⟩) hHeld1 ?_
                try simp only [Act.put, List.getElem_toArray, List.getElem_cons_zero, List.getElem_cons_succ, List.setIfInBounds_toArray, List.set_cons_zero, List.set_cons_succ]
                refine wpAnyH_take (i := 17) (v := undef) rfl (by kernel_rfl) (by kernel_rfl) (by kernel_rfl) (fun _ _ _ h => h) (Or.inr ⟨by kernel_rfl, rfl⟩) hHeld1 ?_
                try simp only [Act.put, List.getElem_toArray, List.getElem_cons_zero, List.getElem_cons_succ, List.setIfInBounds_toArray, List.set_cons_zero, List.set_cons_succ]
                refine wpAnyH_take (i := 18) (v := undef) rfl (by kernel_rfl) (by kernel_rfl) (by kernel_rfl) (fun _ _ _ h => h) (Or.inr ⟨by kernel_rfl, rfl⟩) hHeld1 ?_
                try simp only [Act.put, List.getElem_toArray, List.getElem_cons_zero, List.getElem_cons_succ, List.setIfInBounds_toArray, List.set_cons_zero, List.set_cons_succ]
                refine wpAnyH_take (i := 19) (v := undef) rfl (by kernel_rfl) (by kernel_rfl) (by kernel_rfl) (fun _ _ _ h => h) (Or.inr ⟨by kernel_rfl, rfl⟩) hHeld1 ?_
                try simp only [Act.put, List.getElem_toArray, List.getElem_cons_zero, List.getElem_cons_succ, List.setIfInBounds_toArray, List.set_cons_zero, List.set_cons_succ]
                refine wpAnyH_take (i := 20) (v := undef) rfl (by kernel_rfl) (by kernel_rfl) (by kernel_rfl) (fun _ _ _ h => h) (Or.inr ⟨by kernel_rfl, rfl⟩) hHeld1 ?_
                try simp only [Act.put, List.getElem_toArray, List.getElem_cons_zero, List.getElem_cons_succ, List.setIfInBounds_toArray, List.set_cons_zero, List.set_cons_succ]
                refine wpAnyH_take (i := 21) (v := undef) rfl (by kernel_rfl) (by kernel_rfl) (by kernel_rfl) (fun _ _ _ h => h) (Or.inr ⟨by kernel_rfl, rfl⟩) hHeld1 ?_
                try simp only [Act.put, List.getElem_toArray, List.getElem_cons_zero, List.getElem_cons_succ, List.setIfInBounds_toArray, List.set_cons_zero, List.set_cons_succ]
                refine wpAnyH_take (i := 22) (v := undef) rfl (by kernel_rfl) (by kernel_rfl) (by kernel_rfl) (fun _ _ _ h => h) (Or.inr ⟨by kernel_rfl, rfl⟩) hHeld1 ?_
                try simp only [Act.put, List.getElem_toArray, List.getElem_cons_zero, List.getElem_cons_succ, List.setIfInBounds_toArray, List.set_cons_zero, List.set_cons_succ]
                refine wpAnyH_take (i := 23) (v := ?vqtt31) rfl (by kernel_rfl) (by kernel_rfl) (by kernel_rfl) (fun _ _ _ h => h) (Or.inl ⟨by kernel_rfl, ?yqtt31⟩) hHeld1 ?rqtt31
                case yqtt31 => (intro w' hS; (try dsimp only at hS); obtain ⟨s0, s1, s2, s3⟩ := hS; (try go_simp); (try with_reducible rfl))
                try simp only [Act.put, List.getElem_toArray, List.getElem_cons_zero, List.getElem_cons_succ, List.setIfInBounds_toArray, List.set_cons_zero, List.set_cons_succ]
                refine wpAnyH_take (i := 24) (v := ?vqtt32) rfl (by kernel_rfl) (by kernel_rfl) (by kernel_rfl) (fun _ _ _ h => h) (Or.inl ⟨by kernel_rfl, ?yqtt32⟩) hHeld1 ?rqtt32
                case yqtt32 => (intro w' hS; (try dsimp only at hS); obtain ⟨s0, s1, s2, s3⟩ := hS; (try go_simp); (try with_reducible rfl))
                try simp only [Act.put, List.getElem_toArray, List.getElem_cons_zero, List.getElem_cons_succ, List.setIfInBounds_toArray, List.set_cons_zero, List.set_cons_succ]
                refine wpAnyH_done (by kernel_rfl) ?_ _
                have hx := hT3.out
                rw [if_neg (fun e => by have h1 := (hdb.out.1 e).2.1; have h2 := HN1.out; omega)] at hx
                replace hx := Lib.hid hx
                clear hT3
                go_wp2
                go_roundw
                (case rel => exact ⟨k + 1, by omega, by go_num, hBn, hx⟩)
                (case measure => simp [intOf]; omega)
            · have hx := hT2.out
              rw [if_neg hvo] at hx
              replace hx := Lib.hid hx
              have HIN := Lib.hid (fun X => (spec_l6In v 0 9 X).mono (fun e w' (h : e = .returned (.bool (valB v)) ∧ X = w') => (show e = .returned (.bool false) ∧ X = w' from by rw [show valB v = false from by simpa using hvo] at h; exact h)))
              clear hT2 hvo
              refine wp_region_held_drew (S := fun X => X.cell? ⟨w.heap.size, 1, none⟩ = some (.slice (some ⟨db, dO, none⟩) 6 d) ∧ X.cell? ⟨db, dO + k, none⟩ = some (.int .i64 v) ∧ X.cell? ⟨R, 0, none⟩ = some (.int .i64 r.kind) ∧ X.cell? ⟨R, 3, none⟩ = some (.int .i64 r.val)) (by kernel_rfl) ⟨y1, cv, z0, z3⟩ (fun hHeld0 => ?_)
              refine wpAnyH_take (i := 0) (v := ?vqtf1) rfl (by kernel_rfl) (by kernel_rfl) (by kernel_rfl) (fun _ _ _ h => h) (Or.inl ⟨by kernel_rfl, ?yqtf1⟩) hHeld0 ?rqtf1
              case yqtf1 => (intro w' hS; (try dsimp only at hS); obtain ⟨s0, s1, s2, s3⟩ := hS; (try go_simp); (try with_reducible rfl))
              try simp only [Act.put, List.getElem_toArray, List.getElem_cons_zero, List.getElem_cons_succ, List.setIfInBounds_toArray, List.set_cons_zero, List.set_cons_succ]
              refine wpAnyH_take (i := 1) (v := ?vqtf2) rfl (by kernel_rfl) (by kernel_rfl) (by kernel_rfl) (fun _ _ _ h => h) (Or.inl ⟨by kernel_rfl, ?yqtf2⟩) hHeld0 ?rqtf2
              case yqtf2 => (intro w' hS; (try dsimp only at hS); obtain ⟨s0, s1, s2, s3⟩ := hS; (try go_simp); (try with_reducible rfl))
              try simp only [Act.put, List.getElem_toArray, List.getElem_cons_zero, List.getElem_cons_succ, List.setIfInBounds_toArray, List.set_cons_zero, List.set_cons_succ]
              refine wpAnyH_take (i := 2) (v := ?vqtf3) rfl (by kernel_rfl) (by kernel_rfl) (by kernel_rfl) (fun _ _ _ h => h) (Or.inl ⟨by kernel_rfl, ?yqtf3⟩) hHeld0 ?rqtf3
              case yqtf3 => (intro w' hS; (try dsimp only at hS); obtain ⟨s0, s1, s2, s3⟩ := hS; (try go_simp); (try with_reducible rfl))
              try simp only [Act.put, List.getElem_toArray, List.getElem_cons_zero, List.getElem_cons_succ, List.setIfInBounds_toArray, List.set_cons_zero, List.set_cons_succ]
              refine wpAnyH_take (i := 3) (v := ?vqtf4) rfl (by kernel_rfl) (by kernel_rfl) (by kernel_rfl) (fun _ _ _ h => h) (Or.inl ⟨by kernel_rfl, ?yqtf4⟩) hHeld0 ?rqtf4
              case yqtf4 => (intro w' hS; (try dsimp only at hS); obtain ⟨s0, s1, s2, s3⟩ := hS; (try go_simp); (try with_reducible rfl))
              try simp only [Act.put, List.getElem_toArray, List.getElem_cons_zero, List.getElem_cons_succ, List.setIfInBounds_toArray, List.set_cons_zero, List.set_cons_succ]
              refine wpAnyH_take (i := 4) (v := ?vqtf5) rfl (by kernel_rfl) (by kernel_rfl) (by kernel_rfl) (fun _ _ _ h => h) (Or.inl ⟨by kernel_rfl, ?yqtf5⟩) hHeld0 ?rqtf5
              case yqtf5 => (intro w' hS; (try dsimp only at hS); obtain ⟨s0, s1, s2, s3⟩ := hS; (try go_simp); (try with_reducible rfl))
              try simp only [Act.put, List.getElem_toArray, List.getElem_cons_zero, List.getElem_cons_succ, List.setIfInBounds_toArray, List.set_cons_zero, List.set_cons_succ]
              refine wpAnyH_ready (rs := [5]) (by kernel_rfl) (by simp) ?_
              refine AllReadyH.cons rfl (fun K hK => ?_) AllReadyH.nil
              go_simp
              refine (HIN.out _).mono ?_
              rintro e x1 ⟨rfl, rfl⟩
              go_wp2_with fail
              refine hK.out _ _ ((by first | exact hHeld0 | (obtain ⟨a1, a2, a3, a4⟩ := hHeld0; exact ⟨a1, a2, a3, a4⟩))) (fun hHeld1 => ?_)
              clear hK K
              try simp only [Act.put, List.getElem_toArray, List.getElem_cons_zero, List.getElem_cons_succ, List.setIfInBounds_toArray, List.set_cons_zero, List.set_cons_succ]
              refine wpAnyH_take (i := 6) (v := ?vqtf6) rfl (by kernel_rfl) (by kernel_rfl) (by kernel_rfl) (fun _ _ _ h => h) (Or.inl ⟨by kernel_rfl, ?yqtf6⟩) hHeld1 ?rqtf6
              case yqtf6 => (intro w' hS; (try dsimp only at hS); obtain ⟨s0, s1, s2, s3⟩ := hS; (try go_simp); (try with_reducible rfl))
              try simp only [Act.put, List.getElem_toArray, List.getElem_cons_zero, List.getElem_cons_succ, List.setIfInBounds_toArray, List.set_cons_zero, List.set_cons_succ]
              refine wpAnyH_take (i := 7) (v := ?vqtf7) rfl (by kernel_rfl) (by kernel_rfl) (by kernel_rfl) (fun _ _ _ h => h) (Or.inl ⟨by kernel_rfl, ?yqtf7⟩) hHeld1 ?rqtf7
              case yqtf7 => (intro w' hS; (try dsimp only at hS); obtain ⟨s0, s1, s2, s3⟩ := hS; (try go_simp); (try with_reducible rfl))
              try simp only [Act.put, List.getElem_toArray, List.getElem_cons_zero, List.getElem_cons_succ, List.setIfInBounds_toArray, List.set_cons_zero, List.set_cons_succ]
              refine wpAnyH_take (i := 8) (v := undef) rfl (by kernel_rfl) (by kernel_rfl) (by kernel_rfl) (fun _ _ _ h => h) (Or.inr ⟨by kernel_rfl, rfl⟩) hHeld1 ?_
              try simp only [Act.put, List.getElem_toArray, List.getElem_cons_zero, List.getElem_cons_succ, List.setIfInBounds_toArray, List.set_cons_zero, List.set_cons_succ]
              refine wpAnyH_take (i := 9) (v := undef) rfl (by kernel_rfl) (by kernel_rfl) (by kernel_rfl) (fun _ _ _ h => h) (Or.inr ⟨by kernel_rfl, rfl⟩) hHeld1 ?_
              try simp only [Act.put, List.getElem_toArray, List.getElem_cons_zero, List.getElem_cons_succ, List.setIfInBounds_toArray, List.set_cons_zero, List.set_cons_succ]
              refine wpAnyH_take (i := 10) (v := undef) rfl (by kernel_rfl) (by kernel_rfl) (by kernel_rfl) (fun _ _ _ h => h) (Or.inr ⟨by kernel_rfl, rfl⟩) hHeld1 ?_
              try simp only [Act.put, List.getElem_toArray, List.getElem_cons_zero, List.getElem_cons_succ, List.setIfInBounds_toArray, List.set_cons_zero, List.set_cons_succ]
              refine wpAnyH_take (i := 11) (v := undef) rfl (by kernel_rfl) (by kernel_rfl) (by kernel_rfl) (fun _ _ _ h => h) (Or.inr ⟨by kernel_rfl, rfl⟩) hHeld1 ?_
              try simp only [Act.put, List.getElem_toArray, List.getElem_cons_zero, List.getElem_cons_succ, List.setIfInBounds_toArray, List.set_cons_zero, List.set_cons_succ]
              refine wpAnyH_take (i := 12) (v := undef) rfl (by kernel_rfl) (by kernel_rfl) (by kernel_rfl) (fun _ _ _ h => h) (Or.inr ⟨by kernel_rfl, rfl⟩) hHeld1 ?_
              try simp only [Act.put, List.getElem_toArray, List.getElem_cons_zero, List.getElem_cons_succ, List.setIfInBounds_toArray, List.set_cons_zero, List.set_cons_succ]
              refine wpAnyH_take (i := 13) (v := undef) rfl (by kernel_rfl) (by kernel_rfl) (by kernel_rfl) (fun _ _ _ h => h) (Or.inr ⟨by kernel_rfl, rfl⟩) hHeld1 ?_
              try simp only [Act.put, List.getElem_toArray, List.getElem_cons_zero, List.getElem_cons_succ, List.setIfInBounds_toArray, List.set_cons_zero, List.set_cons_succ]
              refine wpAnyH_take (i := 14) (v := undef) rfl (by kernel_rfl) (by kernel_rfl) (by kernel_rfl) (fun _ _ _ h => h) (Or.inr ⟨by kernel_rfl, rfl⟩) hHeld1 ?_
              try simp only [Act.put, List.getElem_toArray, List.getElem_cons_zero, List.getElem_cons_succ, List.setIfInBounds_toArray, List.set_cons_zero, List.set_cons_succ]
              refine wpAnyH_take (i := 15) (v := undef) rfl (by kernel_rfl) (by kernel_rfl) (by kernel_rfl) (fun _ _ _ h => h) (Or.inr ⟨by kernel_rfl, rfl⟩) hHeld1 ?_
              try simp only [Act.put, List.getElem_toArray, List.getElem_cons_zero, List.getElem_cons_succ, List.setIfInBounds_toArray, List.set_cons_zero, List.set_cons_succ]
              refine wpAnyH_take (i := 16) (v := undef) rfl (by kernel_rfl) (by kernel_rfl) (by kernel_rfl) (fun _ _ _ h => h) (Or.inr ⟨by kernel_rfl, rfl⟩) hHeld1 ?_
              try simp only [Act.put, List.getElem_toArray, List.getElem_cons_zero, List.getElem_cons_succ, List.setIfInBounds_toArray, List.set_cons_zero, List.set_cons_succ]
              refine wpAnyH_take (i := 17) (v := undef) rfl (by kernel_rfl) (by kernel_rfl) (by kernel_rfl) (fun _ _ _ h => h) (Or.inr ⟨by kernel_rfl, rfl⟩) hHeld1 ?_
              try simp only [Act.put, List.getElem_toArray, List.getElem_cons_zero, List.getElem_cons_succ, List.setIfInBounds_toArray, List.set_cons_zero, List.set_cons_succ]
              refine wpAnyH_take (i := 18) (v := undef) rfl (by kernel_rfl) (by kernel_rfl) (by kernel_rfl) (fun _ _ _ h => h) (Or.inr ⟨by kernel_rfl, rfl⟩) hHeld1 ?_
              try simp only [Act.put, List.getElem_toArray, List.getElem_cons_zero, List.getElem_cons_succ, List.setIfInBounds_toArray, List.set_cons_zero, List.set_cons_succ]
              refine wpAnyH_take (i := 19) (v := undef) rfl (by kernel_rfl) (by kernel_rfl) (by kernel_rfl) (fun _ _ _ h => h) (Or.inr ⟨by kernel_rfl, rfl⟩) hHeld1 ?_
              try simp only [Act.put, List.getElem_toArray, List.getElem_cons_zero, List.getElem_cons_succ, List.setIfInBounds_toArray, List.set_cons_zero, List.set_cons_succ]
              refine wpAnyH_take (i := 20) (v := undef) rfl (by kernel_rfl) (by kernel_rfl) (by kernel_rfl) (fun _ _ _ h => h) (Or.inr ⟨by kernel_rfl, rfl⟩) hHeld1 ?_
              try simp only [Act.put, List.getElem_toArray, List.getElem_cons_zero, List.getElem_cons_succ, List.setIfInBounds_toArray, List.set_cons_zero, List.set_cons_succ]
              refine wpAnyH_take (i := 21) (v := undef) rfl (by kernel_rfl) (by kernel_rfl) (by kernel_rfl) (fun _ _ _ h => h) (Or.inr ⟨by kernel_rfl, rfl⟩) hHeld1 ?_
              try simp only [Act.put, List.getElem_toArray, List.getElem_cons_zero, List.getElem_cons_succ, List.setIfInBounds_toArray, List.set_cons_zero, List.set_cons_succ]
              refine wpAnyH_take (i := 22) (v := undef) rfl (by kernel_rfl) (by kernel_rfl) (by kernel_rfl) (fun _ _ _ h => h) (Or.inr ⟨by kernel_rfl, rfl⟩) hHeld1 ?_
              try simp only [Act.put, List.getElem_toArray, List.getElem_cons_zero, List.getElem_cons_succ, List.setIfInBounds_toArray, List.set_cons_zero, List.set_cons_succ]
              refine wpAnyH_take (i := 23) (v := undef) rfl (by kernel_rfl) (by kernel_rfl) (by kernel_rfl) (fun _ _ _ h => h) (Or.inr ⟨by kernel_rfl, rfl⟩) hHeld1 ?_
              try simp only [Act.put, List.getElem_toArray, List.getElem_cons_zero, List.getElem_cons_succ, List.setIfInBounds_toArray, List.set_cons_zero, List.set_cons_succ]
              refine wpAnyH_take (i := 24) (v := ?vqtf8) rfl (by kernel_rfl) (by kernel_rfl) (by kernel_rfl) (fun _ _ _ h => h) (Or.inl ⟨by kernel_rfl, ?yqtf8⟩) hHeld1 ?rqtf8
              case yqtf8 => (intro w' hS; (try dsimp only at hS); obtain ⟨s0, s1, s2, s3⟩ := hS; (try go_simp); (try with_reducible rfl))
              try simp only [Act.put, List.getElem_toArray, List.getElem_cons_zero, List.getElem_cons_succ, List.setIfInBounds_toArray, List.set_cons_zero, List.set_cons_succ]
              refine wpAnyH_done (by kernel_rfl) ?_ _
              go_wp2
              go_ret
              exact ⟨ret_bool (by rw [hfin2.out, hx.out]), hBf⟩
          · have dr : decide (0 < r.seq) = false := decide_eq_false hr
            have HR := Lib.hid hr
            clear hr
            go_wp2
            (try rw [hR])
            by_cases hvo : valB v = true
            · have hx := hT2.out
              rw [if_pos hvo, if_neg (fun e => by have h1 := (hdb.out.1 e).1; have h2 := HR.out; omega)] at hx
              replace hx := Lib.hid hx
              have HIN := Lib.hid (fun X => (spec_l6In v 0 9 X).mono (fun e w' (h : e = .returned (.bool (valB v)) ∧ X = w') => (show e = .returned (.bool true) ∧ X = w' from by rw [hvo] at h; exact h)))
              clear hT2 hvo
              refine wp_region_held_drew (S := fun X => X.cell? ⟨w.heap.size, 1, none⟩ = some (.slice (some ⟨db, dO, none⟩) 6 d) ∧ X.cell? ⟨db, dO + k, none⟩ = some (.int .i64 v) ∧ X.cell? ⟨R, 0, none⟩ = some (.int .i64 r.kind) ∧ X.cell? ⟨R, 3, none⟩ = some (.int .i64 r.val)) (by kernel_rfl) ⟨y1, cv, z0, z3⟩ (fun hHeld0 => ?_)
              refine wpAnyH_take (i := 0) (v := ?vqft1) rfl (by kernel_rfl) (by kernel_rfl) (by kernel_rfl) (fun _ _ _ h => h) (Or.inl ⟨by kernel_rfl, ?yqft1⟩) hHeld0 ?rqft1
              case yqft1 => (intro w' hS; (try dsimp only at hS); obtain ⟨s0, s1, s2, s3⟩ := hS; (try go_simp); (try with_reducible rfl))
              try simp only [Act.put, List.getElem_toArray, List.getElem_cons_zero, List.getElem_cons_succ, List.setIfInBounds_toArray, List.set_cons_zero, List.set_cons_succ]
              refine wpAnyH_take (i := 1) (v := ?vqft2) rfl (by kernel_rfl) (by kernel_rfl) (by kernel_rfl) (fun _ _ _ h => h) (Or.inl ⟨by kernel_rfl, ?yqft2⟩) hHeld0 ?rqft2
              case yqft2 => (intro w' hS; (try dsimp only at hS); obtain ⟨s0, s1, s2, s3⟩ := hS; (try go_simp); (try with_reducible rfl))
              try simp only [Act.put, List.getElem_toArray, List.getElem_cons_zero, List.getElem_cons_succ, List.setIfInBounds_toArray, List.set_cons_zero, List.set_cons_succ]
              refine wpAnyH_take (i := 2) (v := ?vqft3) rfl (by kernel_rfl) (by kernel_rfl) (by kernel_rfl) (fun _ _ _ h => h) (Or.inl ⟨by kernel_rfl, ?yqft3⟩) hHeld0 ?rqft3
              case yqft3 => (intro w' hS; (try dsimp only at hS); obtain ⟨s0, s1, s2, s3⟩ := hS; (try go_simp); (try with_reducible rfl))
              try simp only [Act.put, List.getElem_toArray, List.getElem_cons_zero, List.getElem_cons_succ, List.setIfInBounds_toArray, List.set_cons_zero, List.set_cons_succ]
              refine wpAnyH_take (i := 3) (v := ?vqft4) rfl (by kernel_rfl) (by kernel_rfl) (by kernel_rfl) (fun _ _ _ h => h) (Or.inl ⟨by kernel_rfl, ?yqft4⟩) hHeld0 ?rqft4
              case yqft4 => (intro w' hS; (try dsimp only at hS); obtain ⟨s0, s1, s2, s3⟩ := hS; (try go_simp); (try with_reducible rfl))
              try simp only [Act.put, List.getElem_toArray, List.getElem_cons_zero, List.getElem_cons_succ, List.setIfInBounds_toArray, List.set_cons_zero, List.set_cons_succ]
              refine wpAnyH_take (i := 4) (v := ?vqft5) rfl (by kernel_rfl) (by kernel_rfl) (by kernel_rfl) (fun _ _ _ h => h) (Or.inl ⟨by kernel_rfl, ?yqft5⟩) hHeld0 ?rqft5
              case yqft5 => (intro w' hS; (try dsimp only at hS); obtain ⟨s0, s1, s2, s3⟩ := hS; (try go_simp); (try with_reducible rfl))
              try simp only [Act.put, List.getElem_toArray, List.getElem_cons_zero, List.getElem_cons_succ, List.setIfInBounds_toArray, List.set_cons_zero, List.set_cons_succ]
              refine wpAnyH_ready (rs := [5]) (by kernel_rfl) (by simp) ?_
              refine AllReadyH.cons rfl (fun K hK => ?_) AllReadyH.nil
              go_simp
              refine (HIN.out _).mono ?_
              rintro e x1 ⟨rfl, rfl⟩
              go_wp2_with fail
              refine hK.out _ _ ((by first | exact hHeld0 | (obtain ⟨a1, a2, a3, a4⟩ := hHeld0; exact ⟨a1, a2, a3, a4⟩))) (fun hHeld1 => ?_)
              clear hK K
              try simp only [Act.put, List.getElem_toArray, List.getElem_cons_zero, List.getElem_cons_succ, List.setIfInBounds_toArray, List.set_cons_zero, List.set_cons_succ]
              refine wpAnyH_take (i := 6) (v := ?vqft6) rfl (by kernel_rfl) (by kernel_rfl) (by kernel_rfl) (fun _ _ _ h => h) (Or.inl ⟨by kernel_rfl, ?yqft6⟩) hHeld1 ?rqft6
              case yqft6 => (intro w' hS; (try dsimp only at hS); obtain ⟨s0, s1, s2, s3⟩ := hS; (try go_simp); (try with_reducible rfl))
              try simp only [Act.put, List.getElem_toArray, List.getElem_cons_zero, List.getElem_cons_succ, List.setIfInBounds_toArray, List.set_cons_zero, List.set_cons_succ]
              refine wpAnyH_take (i := 7) (v := ?vqft7) rfl (by kernel_rfl) (by kernel_rfl) (by kernel_rfl) (fun _ _ _ h => h) (Or.inl ⟨by kernel_rfl, ?yqft7⟩) hHeld1 ?rqft7
              case yqft7 => (intro w' hS; (try dsimp only at hS); obtain ⟨s0, s1, s2, s3⟩ := hS; (try go_simp); (try with_reducible rfl))
              try simp only [Act.put, List.getElem_toArray, List.getElem_cons_zero, List.getElem_cons_succ, List.setIfInBounds_toArray, List.set_cons_zero, List.set_cons_succ]
              refine wpAnyH_take (i := 8) (v := ?vqft8) rfl (by kernel_rfl) (by kernel_rfl) (by kernel_rfl) (fun _ _ _ h => h) (Or.inl ⟨by kernel_rfl, ?yqft8⟩) hHeld1 ?rqft8
              case yqft8 => (intro w' hS; (try dsimp only at hS); obtain ⟨s0, s1, s2, s3⟩ := hS; (try go_simp); (try with_reducible rfl))
              try simp only [Act.put, List.getElem_toArray, List.getElem_cons_zero, List.getElem_cons_succ, List.setIfInBounds_toArray, List.set_cons_zero, List.set_cons_succ]
              refine wpAnyH_take (i := 9) (v := ?vqft9) rfl (by kernel_rfl) (by kernel_rfl) (by kernel_rfl) (fun _ _ _ h => h) (Or.inl ⟨by kernel_rfl, ?yqft9⟩) hHeld1 ?rqft9
              case yqft9 => (intro w' hS; (try dsimp only at hS); obtain ⟨s0, s1, s2, s3⟩ := hS; (try go_simp); (try with_reducible rfl))
              try simp only [Act.put, List.getElem_toArray, List.getElem_cons_zero, List.getElem_cons_succ, List.setIfInBounds_toArray, List.set_cons_zero, List.set_cons_succ]
              refine wpAnyH_take (i := 10) (v := undef) rfl (by kernel_rfl) (by kernel_rfl) (by kernel_rfl) (fun _ _ _ h => h) (Or.inr ⟨by kernel_rfl, rfl⟩) hHeld1 ?_
              try simp only [Act.put, List.getElem_toArray, List.getElem_cons_zero, List.getElem_cons_succ, List.setIfInBounds_toArray, List.set_cons_zero, List.set_cons_succ]
              refine wpAnyH_take (i := 11) (v := undef) rfl (by kernel_rfl) (by kernel_rfl) (by kernel_rfl) (fun _ _ _ h => h) (Or.inr ⟨by kernel_rfl, rfl⟩) hHeld1 ?_
              try simp only [Act.put, List.getElem_toArray, List.getElem_cons_zero, List.getElem_cons_succ, List.setIfInBounds_toArray, List.set_cons_zero, List.set_cons_succ]
              refine wpAnyH_take (i := 12) (v := undef) rfl (by kernel_rfl) (by kernel_rfl) (by kernel_rfl) (fun _ _ _ h => h) (Or.inr ⟨by kernel_rfl, rfl⟩) hHeld1 ?_
              try simp only [Act.put, List.getElem_toArray, List.getElem_cons_zero, List.getElem_cons_succ, List.setIfInBounds_toArray, List.set_cons_zero, List.set_cons_succ]
              refine wpAnyH_take (i := 13) (v := ?vqft10) rfl (by kernel_rfl) (by kernel_rfl) (by kernel_rfl) (fun _ _ _ h => h) (Or.inl ⟨by kernel_rfl, ?yqft10⟩) hHeld1 ?rqft10
              case yqft10 => (intro w' hS; (try dsimp only at hS); obtain ⟨s0, s1, s2, s3⟩ := hS; (try go_simp); (try with_reducible rfl))
              try simp only [Act.put, List.getElem_toArray, List.getElem_cons_zero, List.getElem_cons_succ, List.setIfInBounds_toArray, List.set_cons_zero, List.set_cons_succ]
              refine wpAnyH_take (i := 14) (v := ?vqft11) rfl (by kernel_rfl) (by kernel_rfl) (by kernel_rfl) (fun _ _ _ h => h) (Or.inl ⟨by kernel_rfl, ?yqft11⟩) hHeld1 ?rqft11
              case yqft11 => (intro w' hS; (try dsimp only at hS); obtain ⟨s0, s1, s2, s3⟩ := hS; (try go_simp); (try with_reducible rfl))
              try simp only [Act.put, List.getElem_toArray, List.getElem_cons_zero, List.getElem_cons_succ, List.setIfInBounds_toArray, List.set_cons_zero, List.set_cons_succ]
              refine wpAnyH_take (i := 15) (v := undef) rfl (by kernel_rfl) (by kernel_rfl) (by kernel_rfl) (fun _ _ _ h => h) (Or.inr ⟨by kernel_rfl, rfl⟩) hHeld1 ?_
              try simp only [Act.put, List.getElem_toArray, List.getElem_cons_zero, List.getElem_cons_succ, List.setIfInBounds_toArray, List.set_cons_zero, List.set_cons_succ]
              refine wpAnyH_take (i := 16) (v := undef) rfl (by kernel_rfl) (by kernel_rfl) (by kernel_rfl) (fun _ _ _ h => h) (Or.inr ⟨by kernel_rfl, rfl⟩) hHeld1 ?_
              try simp only [Act.put, List.getElem_toArray, List.getElem_cons_zero, List.getElem_cons_succ, List.setIfInBounds_toArray, List.set_cons_zero, List.set_cons_succ]
              refine wpAnyH_take (i := 17) (v := undef) rfl (by kernel_rfl) (by kernel_rfl) (by kernel_rfl) (fun _ _ _ h => h) (Or.inr ⟨by kernel_rfl, rfl⟩) hHeld1 ?_
              try simp only [Act.put, List.getElem_toArray, List.getElem_cons_zero, List.getElem_cons_succ, List.setIfInBounds_toArray, List.set_cons_zero, List.set_cons_succ]
              refine wpAnyH_take (i := 18) (v := undef) rfl (by kernel_rfl) (by kernel_rfl) (by kernel_rfl) (fun _ _ _ h => h) (Or.inr ⟨by kernel_rfl, rfl⟩) hHeld1 ?_
              try simp only [Act.put, List.getElem_toArray, List.getElem_cons_zero, List.getElem_cons_succ, List.setIfInBounds_toArray, List.set_cons_zero, List.set_cons_succ]
              refine wpAnyH_take (i := 19) (v := undef) rfl (by kernel_rfl) (by kernel_rfl) (by kernel_rfl) (fun _ _ _ h => h) (Or.inr ⟨by kernel_rfl, rfl⟩) hHeld1 ?_
              try simp only [Act.put, List.getElem_toArray, List.getElem_cons_zero, List.getElem_cons_succ, List.setIfInBounds_toArray, List.set_cons_zero, List.set_cons_succ]
              refine wpAnyH_take (i := 20) (v := undef) rfl (by kernel_rfl) (by kernel_rfl) (by kernel_rfl) (fun _ _ _ h => h) (Or.inr ⟨by kernel_rfl, rfl⟩) hHeld1 ?_
              try simp only [Act.put, List.getElem_toArray, List.getElem_cons_zero, List.getElem_cons_succ, List.setIfInBounds_toArray, List.set_cons_zero, List.set_cons_succ]
              refine wpAnyH_take (i := 21) (v := undef) rfl (by kernel_rfl) (by kernel_rfl) (by kernel_rfl) (fun _ _ _ h => h) (Or.inr ⟨by kernel_rfl, rfl⟩) hHeld1 ?_
              try simp only [Act.put, List.getElem_toArray, List.getElem_cons_zero, List.getElem_cons_succ, List.setIfInBounds_toArray, List.set_cons_zero, List.set_cons_succ]
              refine wpAnyH_take (i := 22) (v := undef) rfl (by kernel_rfl) (by kernel_rfl) (by kernel_rfl) (fun _ _ _ h => h) (Or.inr ⟨by kernel_rfl, rfl⟩) hHeld1 ?_
              try simp only [Act.put, List.getElem_toArray, List.getElem_cons_zero, List.getElem_cons_succ, List.setIfInBounds_toArray, List.set_cons_zero, List.set_cons_succ]
              refine wpAnyH_take (i := 23) (v := ?vqft12) rfl (by kernel_rfl) (by kernel_rfl) (by kernel_rfl) (fun _ _ _ h => h) (Or.inl ⟨by kernel_rfl, ?yqft12⟩) hHeld1 ?rqft12
              case yqft12 => (intro w' hS; (try dsimp only at hS); obtain ⟨s0, s1, s2, s3⟩ := hS; (try go_simp); (try with_reducible rfl))
              try simp only [Act.put, List.getElem_toArray, List.getElem_cons_zero, List.getElem_cons_succ, List.setIfInBounds_toArray, List.set_cons_zero, List.set_cons_succ]
              refine wpAnyH_take (i := 24) (v := ?vqft13) rfl (by kernel_rfl) (by kernel_rfl) (by kernel_rfl) (fun _ _ _ h => h) (Or.inl ⟨by kernel_rfl, ?yqft13⟩) hHeld1 ?rqft13
              case yqft13 => (intro w' hS; (try dsimp only at hS); obtain ⟨s0, s1, s2, s3⟩ := hS; (try go_simp); (try with_reducible rfl))
              try simp only [Act.put, List.getElem_toArray, List.getElem_cons_zero, List.getElem_cons_succ, List.setIfInBounds_toArray, List.set_cons_zero, List.set_cons_succ]
              refine wpAnyH_done (by kernel_rfl) ?_ _
              go_wp2
              go_roundw
              (case rel => exact ⟨k + 1, by omega, by go_num, hBn, hx⟩)
              (case measure => simp [intOf]; omega)
            · have hx := hT2.out
              rw [if_neg hvo] at hx
              replace hx := Lib.hid hx
              have HIN := Lib.hid (fun X => (spec_l6In v 0 9 X).mono (fun e w' (h : e = .returned (.bool (valB v)) ∧ X = w') => (show e = .returned (.bool false) ∧ X = w' from by rw [show valB v = false from by simpa using hvo] at h; exact h)))
              clear hT2 hvo
              refine wp_region_held_drew (S := fun X => X.cell? ⟨w.heap.size, 1, none⟩ = some (.slice (some ⟨db, dO, none⟩) 6 d) ∧ X.cell? ⟨db, dO + k, none⟩ = some (.int .i64 v) ∧ X.cell? ⟨R, 0, none⟩ = some (.int .i64 r.kind) ∧ X.cell? ⟨R, 3, none⟩ = some (.int .i64 r.val)) (by kernel_rfl) ⟨y1, cv, z0, z3⟩ (fun hHeld0 => ?_)
              refine wpAnyH_take (i := 0) (v := ?vqff1) rfl (by kernel_rfl) (by kernel_rfl) (by kernel_rfl) (fun _ _ _ h => h) (Or.inl ⟨by kernel_rfl, ?yqff1⟩) hHeld0 ?rqff1
              case yqff1 => (intro w' hS; (try dsimp only at hS); obtain ⟨s0, s1, s2, s3⟩ := hS; (try go_simp); (try with_reducible rfl))
              try simp only [Act.put, List.getElem_toArray, List.getElem_cons_zero, List.getElem_cons_succ, List.setIfInBounds_toArray, List.set_cons_zero, List.set_cons_succ]
              refine wpAnyH_take (i := 1) (v := ?vqff2) rfl (by kernel_rfl) (by kernel_rfl) (by kernel_rfl) (fun _ _ _ h => h) (Or.inl ⟨by kernel_rfl, ?yqff2⟩) hHeld0 ?rqff2
              case yqff2 => (intro w' hS; (try dsimp only at hS); obtain ⟨s0, s1, s2, s3⟩ := hS; (try go_simp); (try with_reducible rfl))
              try simp only [Act.put, List.getElem_toArray, List.getElem_cons_zero, List.getElem_cons_succ, List.setIfInBounds_toArray, List.set_cons_zero, List.set_cons_succ]
              refine wpAnyH_take (i := 2) (v := ?vqff3) rfl (by kernel_rfl) (by kernel_rfl) (by kernel_rfl) (fun _ _ _ h => h) (Or.inl ⟨by kernel_rfl, ?yqff3⟩) hHeld0 ?rqff3
              case yqff3 => (intro w' hS; (try dsimp only at hS); obtain ⟨s0, s1, s2, s3⟩ := hS; (try go_simp); (try with_reducible rfl))
              try simp only [Act.put, List.getElem_toArray, List.getElem_cons_zero, List.getElem_cons_succ, List.setIfInBounds_toArray, List.set_cons_zero, List.set_cons_succ]
              refine wpAnyH_take (i := 3) (v := ?vqff4) rfl (by kernel_rfl) (by kernel_rfl) (by kernel_rfl) (fun _ _ _ h => h) (Or.inl ⟨by kernel_rfl, ?yqff4⟩) hHeld0 ?rqff4
              case yqff4 => (intro w' hS; (try dsimp only at hS); obtain ⟨s0, s1, s2, s3⟩ := hS; (try go_simp); (try with_reducible rfl))
              try simp only [Act.put, List.getElem_toArray, List.getElem_cons_zero, List.getElem_cons_succ, List.setIfInBounds_toArray, List.set_cons_zero, List.set_cons_succ]
              refine wpAnyH_take (i := 4) (v := ?vqff5) rfl (by kernel_rfl) (by kernel_rfl) (by kernel_rfl) (fun _ _ _ h => h) (Or.inl ⟨by kernel_rfl, ?yqff5⟩) hHeld0 ?rqff5
              case yqff5 => (intro w' hS; (try dsimp only at hS); obtain ⟨s0, s1, s2, s3⟩ := hS; (try go_simp); (try with_reducible rfl))
              try simp only [Act.put, List.getElem_toArray, List.getElem_cons_zero, List.getElem_cons_succ, List.setIfInBounds_toArray, List.set_cons_zero, List.set_cons_succ]
              refine wpAnyH_ready (rs := [5]) (by kernel_rfl) (by simp) ?_
              refine AllReadyH.cons rfl (fun K hK => ?_) AllReadyH.nil
              go_simp
              refine (HIN.out _).mono ?_
              rintro e x1 ⟨rfl, rfl⟩
              go_wp2_with fail
              refine hK.out _ _ ((by first | exact hHeld0 | (obtain ⟨a1, a2, a3, a4⟩ := hHeld0; exact ⟨a1, a2, a3, a4⟩))) (fun hHeld1 => ?_)
              clear hK K
              try simp only [Act.put, List.getElem_toArray, List.getElem_cons_zero, List.getElem_cons_succ, List.setIfInBounds_toArray, List.set_cons_zero, List.set_cons_succ]
              refine wpAnyH_take (i := 6) (v := ?vqff6) rfl (by kernel_rfl) (by kernel_rfl) (by kernel_rfl) (fun _ _ _ h => h) (Or.inl ⟨by kernel_rfl, ?yqff6⟩) hHeld1 ?rqff6
              case yqff6 => (intro w' hS; (try dsimp only at hS); obtain ⟨s0, s1, s2, s3⟩ := hS; (try go_simp); (try with_reducible rfl))
              try simp only [Act.put, List.getElem_toArray, List.getElem_cons_zero, List.getElem_cons_succ, List.setIfInBounds_toArray, List.set_cons_zero, List.set_cons_succ]
              refine wpAnyH_take (i := 7) (v := ?vqff7) rfl (by kernel_rfl) (by kernel_rfl) (by kernel_rfl) (fun _ _ _ h => h) (Or.inl ⟨by kernel_rfl, ?yqff7⟩) hHeld1 ?rqff7
              case yqff7 => (intro w' hS; (try dsimp only at hS); obtain ⟨s0, s1, s2, s3⟩ := hS; (try go_simp); (try with_reducible rfl))
              try simp only [Act.put, List.getElem_toArray, List.getElem_cons_zero, List.getElem_cons_succ, List.setIfInBounds_toArray, List.set_cons_zero, List.set_cons_succ]
              refine wpAnyH_take (i := 8) (v := undef) rfl (by kernel_rfl) (by kernel_rfl) (by kernel_rfl) (fun _ _ _ h => h) (Or.inr ⟨by kernel_rfl, rfl⟩) hHeld1 ?_
              try simp only [Act.put, List.getElem_toArray, List.getElem_cons_zero, List.getElem_cons_succ, List.setIfInBounds_toArray, List.set_cons_zero, List.set_cons_succ]
              refine wpAnyH_take (i := 9) (v := undef) rfl (by kernel_rfl) (by kernel_rfl) (by kernel_rfl) (fun _ _ _ h => h) (Or.inr ⟨by kernel_rfl, rfl⟩) hHeld1 ?_
              try simp only [Act.put, List.getElem_toArray, List.getElem_cons_zero, List.getElem_cons_succ, List.setIfInBounds_toArray, List.set_cons_zero, List.set_cons_succ]
              refine wpAnyH_take (i := 10) (v := undef) rfl (by kernel_rfl) (by kernel_rfl) (by kernel_rfl) (fun _ _ _ h => h) (Or.inr ⟨by kernel_rfl, rfl⟩) hHeld1 ?_
              try simp only [Act.put, List.getElem_toArray, List.getElem_cons_zero, List.getElem_cons_succ, List.setIfInBounds_toArray, List.set_cons_zero, List.set_cons_succ]
              refine wpAnyH_take (i := 11) (v := undef) rfl (by kernel_rfl) (by kernel_rfl) (by kernel_rfl) (fun _ _ _ h => h) (Or.inr ⟨by kernel_rfl, rfl⟩) hHeld1 ?_
              try simp only [Act.put, List.getElem_toArray, List.getElem_cons_zero, List.getElem_cons_succ, List.setIfInBounds_toArray, List.set_cons_zero, List.set_cons_succ]
              refine wpAnyH_take (i := 12) (v := undef) rfl (by kernel_rfl) (by kernel_rfl) (by kernel_rfl) (fun _ _ _ h => h) (Or.inr ⟨by kernel_rfl, rfl⟩) hHeld1 ?_
              try simp only [Act.put, List.getElem_toArray, List.getElem_cons_zero, List.getElem_cons_succ, List.setIfInBounds_toArray, List.set_cons_zero, List.set_cons_succ]
              refine wpAnyH_take (i := 13) (v := undef) rfl (by kernel_rfl) (by kernel_rfl) (by kernel_rfl) (fun _ _ _ h => h) (Or.inr ⟨by kernel_rfl, rfl⟩) hHeld1 ?_
              try simp only [Act.put, List.getElem_toArray, List.getElem_cons_zero, List.getElem_cons_succ, List.setIfInBounds_toArray, List.set_cons_zero, List.set_cons_succ]
              refine wpAnyH_take (i := 14) (v := undef) rfl (by kernel_rfl) (by kernel_rfl) (by kernel_rfl) (fun _ _ _ h => h) (Or.inr ⟨by kernel_rfl, rfl⟩) hHeld1 ?_
              try simp only [Act.put, List.getElem_toArray, List.getElem_cons_zero, List.getElem_cons_succ, List.setIfInBounds_toArray, List.set_cons_zero, List.set_cons_succ]
              refine wpAnyH_take (i := 15) (v := undef) rfl (by kernel_rfl) (by kernel_rfl) (by kernel_rfl) (fun _ _ _ h => h) (Or.inr ⟨by kernel_rfl, rfl⟩) hHeld1 ?_
              try simp only [Act.put, List.getElem_toArray, List.getElem_cons_zero, List.getElem_cons_succ, List.setIfInBounds_toArray, List.set_cons_zero, List.set_cons_succ]
              refine wpAnyH_take (i := 16) (v := undef) rfl (by kernel_rfl) (by kernel_rfl) (by kernel_rfl) (fun _ _ _ h => h) (Or.inr ⟨by kernel_rfl, rfl⟩) hHeld1 ?_
              try simp only [Act.put, List.getElem_toArray, List.getElem_cons_zero, List.getElem_cons_succ, List.setIfInBounds_toArray, List.set_cons_zero, List.set_cons_succ]
              refine wpAnyH_take (i := 17) (v := undef) rfl (by kernel_rfl) (by kernel_rfl) (by kernel_rfl) (fun _ _ _ h => h) (Or.inr ⟨by kernel_rfl, rfl⟩) hHeld1 ?_
              try simp only [Act.put, List.getElem_toArray, List.getElem_cons_zero, List.getElem_cons_succ, List.setIfInBounds_toArray, List.set_cons_zero, List.set_cons_succ]
              refine wpAnyH_take (i := 18) (v := undef) rfl (by kernel_rfl) (by kernel_rfl) (by kernel_rfl) (fun _ _ _ h => h) (Or.inr ⟨by kernel_rfl, rfl⟩) hHeld1 ?_
              try simp only [Act.put, List.getElem_toArray, List.getElem_cons_zero, List.getElem_cons_succ, List.setIfInBounds_toArray, List.set_cons_zero, List.set_cons_succ]
              refine wpAnyH_take (i := 19) (v := undef) rfl (by kernel_rfl) (by kernel_rfl) (by kernel_rfl) (fun _ _ _ h => h) (Or.inr ⟨by kernel_rfl, rfl⟩) hHeld1 ?_
              try simp only [Act.put, List.getElem_toArray, List.getElem_cons_zero, List.getElem_cons_succ, List.setIfInBounds_toArray, List.set_cons_zero, List.set_cons_succ]
              refine wpAnyH_take (i := 20) (v := undef) rfl (by kernel_rfl) (by kernel_rfl) (by kernel_rfl) (fun _ _ _ h => h) (Or.inr ⟨by kernel_rfl, rfl⟩) hHeld1 ?_
              try simp only [Act.put, List.getElem_toArray, List.getElem_cons_zero, List.getElem_cons_succ, List.setIfInBounds_toArray, List.set_cons_zero, List.set_cons_succ]
              refine wpAnyH_take (i := 21) (v := undef) rfl (by kernel_rfl) (by kernel_rfl) (by kernel_rfl) (fun _ _ _ h => h) (Or.inr ⟨by kernel_rfl, rfl⟩) hHeld1 ?_
              try simp only [Act.put, List.getElem_toArray, List.getElem_cons_zero, List.getElem_cons_succ, List.setIfInBounds_toArray, List.set_cons_zero, List.set_cons_succ]
              refine wpAnyH_take (i := 22) (v := undef) rfl (by kernel_rfl) (by kernel_rfl) (by kernel_rfl) (fun _ _ _ h => h) (Or.inr ⟨by kernel_rfl, rfl⟩) hHeld1 ?_
              try simp only [Act.put, List.getElem_toArray, List.getElem_cons_zero, List.getElem_cons_succ, List.setIfInBounds_toArray, List.set_cons_zero, List.set_cons_succ]
              refine wpAnyH_take (i := 23) (v := undef) rfl (by kernel_rfl) (by kernel_rfl) (by kernel_rfl) (fun _ _ _ h => h) (Or.inr ⟨by kernel_rfl, rfl⟩) hHeld1 ?_
              try simp only [Act.put, List.getElem_toArray, List.getElem_cons_zero, List.getElem_cons_succ, List.setIfInBounds_toArray, List.set_cons_zero, List.set_cons_succ]
              refine wpAnyH_take (i := 24) (v := ?vqff8) rfl (by kernel_rfl) (by kernel_rfl) (by kernel_rfl) (fun _ _ _ h => h) (Or.inl ⟨by kernel_rfl, ?yqff8⟩) hHeld1 ?rqff8
              case yqff8 => (intro w' hS; (try dsimp only at hS); obtain ⟨s0, s1, s2, s3⟩ := hS; (try go_simp); (try with_reducible rfl))
              try simp only [Act.put, List.getElem_toArray, List.getElem_cons_zero, List.getElem_cons_succ, List.setIfInBounds_toArray, List.set_cons_zero, List.set_cons_succ]
              refine wpAnyH_done (by kernel_rfl) ?_ _
              go_wp2
              go_ret
              exact ⟨ret_bool (by rw [hfin2.out, hx.out]), hBf⟩
        · have hk6 : (6 : Int) ≤ (k : Int) := by omega
          have hx : Hid (diskGo s.flash 0 s.disk = true) := by rw [Hid, hT.out, List.drop_of_length_le (by rw [H6.out]; omega)]; rfl
          clear hT
          go_wp2
          go_ret
          exact ⟨ret_bool (by rw [hfin2.out, hx.out]), hB1.trans (hB.mono (by omega))⟩
    · have hfin2 : Hid (storeOk s = false) := by rw [Hid, hfin.out, if_neg h6]
      have h6' : ((s.disk.length : Int) != 6) = true := by rw [bne_iff_ne]; omega
      clear h6 hfin
      go_wp2
      go_ret
      exact ⟨ret_bool hfin2.out.symm, hB1⟩
  · have hfin2 : Hid (storeOk s = false) := by unfold Hid storeOk; rw [if_neg hord]; split <;> rfl
    rw [show findOrderI s.flash = false from by simpa using hord]
    clear hord
    go_wp2
    go_ret
    exact ⟨ret_bool hfin2.out.symm, hB1⟩
end Go.Proofs.Ytbekihiiildgmaa
namespace Go.Proofs.Ytbekihiiildgmaa
set_option linter.unusedVariables false
set_option linter.unusedSimpArgs false
open Go.RowKit Go.Maps
set_option maxHeartbeats 400000
theorem storeOk_parts {s : St} (h : storeOk s = true) : s.disk.length = 6 ∧ findOrderI s.flash = true ∧ diskGo s.flash 0 s.disk = true := by
  unfold storeOk at h
  split at h
  · rename_i h1
    split at h
    · rename_i h2; exact ⟨h1, h2, h⟩
    · cases h
  · cases h
/-- a row of whole numbers of one's own, in a block from base on -/
def OwnI (w : World) (base : Nat) (v : Value) (xs : List Int) : Prop := w.ownsRow base 3 1 v xs.length (ints xs)
theorem OwnI.below {w w' : World} {base B : Nat} {v : Value} {xs : List Int} (h : OwnI w base v xs) (hb : Below B w w') (hB : w.heap.size ≤ B) : OwnI w' base v xs := ownsRow_keep h fun b _ hl => hb.block b (by omega)
theorem OwnI.agr {w w' : World} {base : Nat} {v : Value} {xs : List Int} {S : Nat → Prop} (h : OwnI w base v xs) (hb : Agr S w w') (hS : ∀ b, base ≤ b → ¬ S b) : OwnI w' base v xs := by
  refine ownsRow_keep h fun b hbl hl => hb.block b hl (hS b ?_)
  exact (World.ownsRow.lt h b hbl).1
theorem OwnI.alloc {w : World} {base : Nat} {v : Value} {xs : List Int} (h : OwnI w base v xs) (o : Obj) : OwnI (w.alloc o) base v xs := h.below (B := w.heap.size) ((Below.refl _ _).alloc (Nat.le_refl _) _) (Nat.le_refl _)
theorem OwnI.nil (w : World) (base : Nat) : OwnI w base (.slice none 0 0) [] := World.ownsRow_nil w base _ _
theorem OwnI.snoc {w : World} {base g n c : Nat} {xs : List Int} {x : Int} (hn : n = xs.length + 1) (h : w.ownsRow base 3 1 (.slice (some ⟨g, 0, none⟩) (xs.length + 1) c) (xs.length + 1) (ints xs ++ [.int .i64 x])) : OwnI w base (.slice (some ⟨g, 0, none⟩) n c) (xs ++ [x]) := by
  subst hn
  unfold OwnI ints
  rw [List.length_append, List.map_append]
  exact h
/-- a slice of one's own, written out -/
theorem OwnI.out {w : World} {base : Nat} {v : Value} {xs : List Int} (h : OwnI w base v xs) : ∃ A c, v = .slice A xs.length c ∧ Row w A (ints xs) ∧ (∀ b, blk A b → base ≤ b ∧ b < w.heap.size) ∧ xs.length ≤ c := by
  have h' := h
  obtain ⟨hl, ⟨hv, hz⟩ | ⟨g, cap, cur, hv, hb, hh, hnc, hm, hs, ht⟩⟩ := h
  · have hxs : xs = [] := List.eq_nil_of_length_eq_zero hz
    subst hxs
    exact ⟨none, 0, hv, Row.nil _ _, (fun b hb => by cases hb), Nat.le_refl _⟩
  · refine ⟨some ⟨g, 0, none⟩, cap, hv, ?_, fun b hb' => ?_, hnc⟩
    · rw [hv] at h'; exact Row.of_own h'
    · rw [blk_some] at hb'
      subst hb'
      exact ⟨hb, (Array.getElem?_eq_some_iff.1 hh).1⟩
end Go.Proofs.Ytbekihiiildgmaa
namespace Go.Proofs.Ytbekihiiildgmaa
set_option linter.unusedVariables false
set_option linter.unusedSimpArgs false
open Go.RowKit Go.Maps
set_option maxHeartbeats 400000
theorem OwnI.lit (w : World) (base : Nat) (hb : base ≤ w.heap.size) : OwnI (w.alloc (.cells #[] 3)) base (.slice (some ⟨w.heap.size, 0, none⟩) 0 0) [] := World.ownsRow_lit w #[] 0 hb (by unfold maxLen; omega) rfl
end Go.Proofs.Ytbekihiiildgmaa
namespace Go.Proofs.Ytbekihiiildgmaa
set_option linter.unusedVariables false
set_option linter.unusedSimpArgs false
theorem lastPs_none {a : Int} : ∀ {ps : List Pg} {o : Rc}, (∀ p ∈ ps, p.state ≠ 1) → lastPs a o ps = o
  | [], _, _ => rfl
  | p :: ps, o, h => by
    show lastPs a (lastStep a o p) ps = o
    have : lastStep a o p = o := by unfold lastStep; rw [if_neg (fun e => h p (List.mem_cons_self ..) e.1)]
    rw [this]
    exact lastPs_none fun q hq => h q (List.mem_cons_of_mem _ hq)
theorem last_none : ∀ {f : List Bk} {a : Int} {o : Rc}, (∀ b ∈ f, ∀ p ∈ b.pages, p.state ≠ 1) → f.foldl (fun o b => lastPs a o b.pages) o = o
  | [], _, _, _ => rfl
  | b :: f, a, o, h => by
    rw [List.foldl_cons, lastPs_none (h b (List.mem_cons_self ..))]
    exact last_none fun c hc => h c (List.mem_cons_of_mem _ hc)
theorem new_pages : ∀ b ∈ flashNew, ∀ p ∈ b.pages, p.state ≠ 1 := by decide
theorem last_new (a : Int) : last flashNew a = rc0 := last_none new_pages
theorem order_new : findOrderI flashNew = true := by decide
theorem diskGo_new : ∀ {xs : List Int} {i : Nat}, (∀ v ∈ xs, valB v = true) → diskGo flashNew i xs = true
  | [], _, _ => rfl
  | x :: xs, i, h => by
    unfold diskGo
    rw [if_pos (h x (List.mem_cons_self ..)), if_neg]
    · exact diskGo_new fun v hv => h v (List.mem_cons_of_mem _ hv)
    · unfold diskBad
      rw [last_new]
      rintro ⟨h0, _⟩
      exact absurd h0 (by decide)
theorem wiped_store {xs : List Int} (h6 : xs.length = 6) (hv : ∀ v ∈ xs, valB v = true) : storeOk ⟨flashNew, xs⟩ = true := by
  unfold storeOk
  rw [if_pos h6, if_pos order_new]
  exact diskGo_new hv
theorem disk0_vals : ∀ v ∈ disk0, valB v = true := by decide
theorem new_ok : storeOk ⟨flashNew, disk0⟩ = true := wiped_store rfl disk0_vals
end Go.Proofs.Ytbekihiiildgmaa
namespace Go.Proofs.Ytbekihiiildgmaa
set_option linter.unusedVariables false
set_option linter.unusedSimpArgs false
theorem most_cases {b : Bk} (hp : ∀ p ∈ b.pages, pageOk p = true) : (most b = 0 ∧ seqsP b.pages = []) ∨ (0 < most b ∧ most b ∈ seqsP b.pages ∧ least b ∈ seqsP b.pages ∧ 0 < least b ∧ least b ≤ most b) := by
  cases hs : seqsP b.pages with
  | nil => exact .inl ⟨most_none hp hs, rfl⟩
  | cons q r =>
    have hq : q ∈ seqsP b.pages := by rw [hs]; exact List.mem_cons_self ..
    have h1 := (seq_pos hp hq).1
    have h2 := most_le hp hq
    have h0 : 0 < most b := by omega
    rw [← hs]
    exact .inr ⟨h0, most_mem hp h0, least_mem hp h0, least_most hp h0⟩
theorem span_same {b c : Bk} (hb : ∀ p ∈ b.pages, pageOk p = true) (hc : ∀ p ∈ c.pages, pageOk p = true) (h : seqsP c.pages = seqsP b.pages) : most c = most b ∧ (0 < most b → least c = least b) := by
  rcases most_cases hb with ⟨b1, b2⟩ | ⟨b1, b2, b3, b4, b5⟩ <;> rcases most_cases hc with ⟨c1, c2⟩ | ⟨c1, c2, c3, c4, c5⟩
  · exact ⟨by omega, fun h => by omega⟩
  · rw [h, b2] at c2; cases c2
  · rw [← h, c2] at b2; cases b2
  · have m1 := most_le hb (h ▸ c2)
    have m2 := most_le hc (h.symm ▸ b2)
    have l1 := least_le hb (h ▸ c3)
    have l2 := least_le hc (h.symm ▸ b3)
    exact ⟨by omega, fun _ => by omega⟩
theorem span_put {b c : Bk} (hb : ∀ p ∈ b.pages, pageOk p = true) (hc : ∀ p ∈ c.pages, pageOk p = true) {s : Int} (h : (seqsP c.pages).Perm ([s] ++ seqsP b.pages)) (hs : most b < s) :
    most c = s ∧ (0 < most b → least c = least b) ∧ (most b = 0 → least c = s) := by
  have hm : ∀ q, q ∈ seqsP c.pages ↔ q = s ∨ q ∈ seqsP b.pages := fun q => by rw [h.mem_iff]; simp
  have hsm := (hm s).2 (.inl rfl)
  have h1 := most_le hc hsm
  rcases most_cases hc with ⟨c1, c2⟩ | ⟨c1, c2, c3, c4, c5⟩
  · rw [c2] at hsm; cases hsm
  · have hcs : most c = s := by
      rcases (hm _).1 c2 with e | e
      · exact e
      · have := most_le hb e; omega
    refine ⟨hcs, fun h0 => ?_, fun h0 => ?_⟩
    · have l1 := least_mem hb h0
      have l2 := least_le hc ((hm _).2 (.inr l1))
      rcases (hm _).1 c3 with e | e
      · have := least_most hb h0; omega
      · have := least_le hb e; omega
    · rcases (hm _).1 c3 with e | e
      · exact e
      · have := most_le hb e; have := (seq_pos hb e).1; omega
theorem clean4_none {b : Bk} (h4 : b.pages.length = 4) (hc : clean b = 4) : seqsP b.pages = [] := by
  have hall : ∀ p ∈ b.pages, isClean p = true := by
    rw [← List.countP_eq_length]
    have : b.pages.countP isClean = clean b := rfl
    omega
  unfold seqsP
  rw [List.map_eq_nil_iff, List.filter_eq_nil_iff]
  intro p hp
  have := hall p hp
  unfold isClean at this
  simp at this
  simp [this]
theorem getElem?_set_cases {α : Type} {l : List α} {i j : Nat} {x y : α} (h : (l.set i x)[j]? = some y) : (j = i ∧ y = x) ∨ (j ≠ i ∧ l[j]? = some y) := by
  by_cases hj : j = i
  · subst hj
    have hl := (List.getElem?_eq_some_iff.1 h).1
    rw [List.getElem?_set_self (by simpa using hl)] at h
    cases h
    exact .inl ⟨rfl, rfl⟩
  · rw [List.getElem?_set_ne (by omega)] at h
    exact .inr ⟨hj, h⟩
/-- block i alone may have been begun -/
def Sole (f : List Bk) (i : Nat) : Prop := ∀ (j : Nat) (c : Bk), j ≠ i → f[j]? = some c → partly c = false
theorem Sole.set {f : List Bk} {i : Nat} (h : Sole f i) (b : Bk) : Sole (f.set i b) i := fun j c hj hc => by
  rcases getElem?_set_cases hc with ⟨e, _⟩ | ⟨_, hc⟩
  · exact absurd e hj
  · exact h j c hj hc
theorem clean_part {b : Bk} (h4 : b.pages.length = 4) (hc : clean b ≠ 0) : partly b = true ∨ clean b = 4 := by
  have := clean_le4 h4
  by_cases h : clean b = 4
  · exact .inr h
  · left; unfold partly; simp; omega
theorem ord_put {f : List Bk} (h : flashOk f = true) (hO : Ord f) {i : Nat} {b : Bk} (hb : f[i]? = some b) {r : Rc} (hr : recOk r = true) (torn : Bool) (hc : clean b ≠ 0) (hS : Sole f i) (hs : ∀ c ∈ f, most c < r.seq) :
    Ord (f.set i (putBk b r torn)) := by
  have hbm := List.mem_of_getElem? hb
  obtain ⟨l4, _, _, hbp⟩ := bk_parts h hbm
  obtain ⟨_, kp, k3, k4, k5⟩ := putBk_parts h hbm hr torn hc
  have hbs := hs b hbm
  have hbn := most_nn hbp
  -- what the new block spans
  have hx : (most (putBk b r torn) = most b ∧ (0 < most b → least (putBk b r torn) = least b)) ∨ (most (putBk b r torn) = r.seq ∧ (0 < most b → least (putBk b r torn) = least b) ∧ (most b = 0 → least (putBk b r torn) = r.seq)) := by
    cases torn
    · exact .inr (span_put hbp kp (k5 rfl) hbs)
    · exact .inl (span_same hbp kp (k4 rfl))
  -- if it held a record it was begun: no other has a greater number
  have hbeg : 0 < most b → ∀ (j : Nat) (c : Bk), j ≠ i → f[j]? = some c → most c ≤ most b := fun h0 j c hj hcj => by
    rcases clean_part l4 hc with hp | h4
    · exact (hO.begun i j b c (Ne.symm hj) hb hcj hp).2 h0
    · have := most_none hbp (clean4_none l4 h4); omega
  have key : ∀ (j : Nat) (c : Bk), j ≠ i → f[j]? = some c → 0 < most (putBk b r torn) → 0 < most c → ¬ (least (putBk b r torn) < most c) := fun j c hj hcj h1 h2 hlt => by
    have hcm := List.mem_of_getElem? hcj
    have hcp := (bk_parts h hcm).2.2.2
    have hcs := hs c hcm
    by_cases h0 : 0 < most b
    · have hle := hbeg h0 j c hj hcj
      have e1 : least (putBk b r torn) = least b := by
        rcases hx with hx | hx
        · exact hx.2 h0
        · exact hx.2.1 h0
      have e2 : most c ≠ most b := fun e => seqs_apart ((flashOk_iff f).1 h).2.2 hj hcj hb (most_mem hcp h2) (e ▸ most_mem hbp h0)
      have := least_most hcp h2
      exact hO.apart i j b c (Ne.symm hj) hb hcj h0 h2 ⟨by omega, by omega⟩
    · rcases hx with hx | hx
      · omega
      · have := hx.2.2 (by omega); omega
  refine ⟨fun i' j a c hij ha hcj p1 p2 p3 => ?_, fun i' j a c hij ha hcj hp => ?_⟩
  · rcases getElem?_set_cases ha with ⟨rfl, rfl⟩ | ⟨hi, ha'⟩
    · rcases getElem?_set_cases hcj with ⟨rfl, _⟩ | ⟨hj, hcj⟩
      · exact hij rfl
      · exact key j c hj hcj p1 p2 p3.1
    · rcases getElem?_set_cases hcj with ⟨rfl, rfl⟩ | ⟨hj, hcj⟩
      · exact key i' a hi ha' p2 p1 p3.2
      · exact hO.apart i' j a c hij ha' hcj p1 p2 p3
  · rcases getElem?_set_cases ha with ⟨rfl, rfl⟩ | ⟨hi, ha'⟩
    · rcases getElem?_set_cases hcj with ⟨rfl, _⟩ | ⟨hj, hcj⟩
      · exact absurd rfl hij
      · refine ⟨hS j c hj hcj, fun h0 => ?_⟩
        have hcs := hs c (List.mem_of_getElem? hcj)
        rcases hx with hx | hx
        · have := hbeg (by omega) j c hj hcj; omega
        · omega
    · rw [hS i' a hi ha'] at hp; cases hp
theorem top_lt {f : List Bk} {c : Bk} (h : c ∈ f) : most c < next f := by
  have := le_topSeq (n := 0) h
  unfold next topSeq
  omega
theorem open_sole {f : List Bk} (h : flashOk f = true) (hO : Ord f) (ho : (openI f).2 = true) : ∃ (m : Nat) (b : Bk), openI f = ((m : Int), true) ∧ f[m]? = some b ∧ clean b ≠ 0 ∧ Sole f m := by
  obtain ⟨m, b, h1, h2, h3⟩ := open_true ho
  refine ⟨m, b, Prod.ext h1 ho, h2, by omega, fun j c hj hc => ?_⟩
  by_cases hp : partly c = true
  · exfalso
    unfold openI at h1
    cases hg : partGo 0 f with
    | some k =>
      obtain ⟨n, d, e1, e2, e3⟩ := partGo_some hg
      rw [hg] at h1
      have : n = m := by dsimp only at h1; omega
      subst this
      have := (hO.begun j n c d hj hc e2 hp).1
      rw [this] at e3; cases e3
    | none =>
      have := partGo_none hg c (List.mem_of_getElem? hc)
      rw [hp] at this; cases this
  · simpa using hp
/-- a wiped block holds no number and was not begun -/
theorem wiped_none (torn : Bool) (n : Int) : most ⟨List.replicate 4 (if torn then ⟨2, rc0⟩ else pg0), n⟩ = 0 ∧ partly ⟨List.replicate 4 (if torn then ⟨2, rc0⟩ else pg0), n⟩ = false := by
  cases torn
  · exact ⟨rfl, rfl⟩
  · exact ⟨rfl, rfl⟩
theorem ord_wipe {f : List Bk} (hO : Ord f) (hp : ∀ b ∈ f, 0 ≤ most b) (i : Nat) (torn : Bool) : Ord (wipe f i torn) := by
  obtain ⟨z1, z2⟩ := wiped_none torn ((f.getD i zbk).worn + 1)
  unfold wipe
  refine ⟨fun i' j a c hij ha hcj p1 p2 p3 => ?_, fun i' j a c hij ha hcj hq => ?_⟩
  · rcases getElem?_set_cases ha with ⟨rfl, rfl⟩ | ⟨hi, ha'⟩
    · omega
    · rcases getElem?_set_cases hcj with ⟨rfl, rfl⟩ | ⟨hj, hcj⟩
      · omega
      · exact hO.apart i' j a c hij ha' hcj p1 p2 p3
  · rcases getElem?_set_cases ha with ⟨rfl, rfl⟩ | ⟨hi, ha'⟩
    · rw [z2] at hq; cases hq
    · rcases getElem?_set_cases hcj with ⟨rfl, rfl⟩ | ⟨hj, hcj⟩
      · exact ⟨z2, fun _ => by have := hp a (List.mem_of_getElem? ha'); omega⟩
      · exact hO.begun i' j a c hij ha' hcj hq
/-! ### the eldest -/
theorem hiGo_min {ss : List Span} : ∀ (r : List Span) (i old : Nat), ss.drop i = r → old < ss.length → (∀ (k : Nat) (s : Span), k < i → ss[k]? = some s → (ss.getD old (0, 0)).2 ≤ s.2) →
    ∀ (k : Nat) (s : Span), ss[k]? = some s → (ss.getD (hiGo ss i old r) (0, 0)).2 ≤ s.2
  | [], i, old, hd, ho, h, k, s, hk => by
    have : ss.length ≤ i := by
      have := congrArg List.length hd
      simp at this
      omega
    exact h k s (by have := (List.getElem?_eq_some_iff.1 hk).1; omega) hk
  | a :: r, i, old, hd, ho, h, k, s, hk => by
    have ha : ss[i]? = some a := by
      have : (ss.drop i)[0]? = some a := by rw [hd]; rfl
      simpa using this
    have hd' : ss.drop (i + 1) = r := by
      have : (ss.drop i).drop 1 = r := by rw [hd]; rfl
      simpa [List.drop_drop, Nat.add_comm] using this
    have hga : ss.getD i (0, 0) = a := by rw [List.getD_eq_getElem?_getD, ha]; rfl
    unfold hiGo
    by_cases hc : a.2 < (ss.getD old (0, 0)).2
    · rw [if_pos hc]
      refine hiGo_min r (i + 1) i hd' (List.getElem?_eq_some_iff.1 ha).1 (fun k s hk1 hks => ?_) k s hk
      rw [hga]
      by_cases hki : k = i
      · subst hki; rw [ha] at hks; cases hks; exact Int.le_refl _
      · have := h k s (by omega) hks; omega
    · rw [if_neg hc]
      refine hiGo_min r (i + 1) old hd' ho (fun k s hk1 hks => ?_) k s hk
      by_cases hki : k = i
      · subst hki; rw [ha] at hks; cases hks; omega
      · exact h k s (by omega) hks
theorem findOld_min {f : List Bk} (h : flashOk f = true) {m : Nat} (hm : findOld f = m) {b : Bk} (hb : f[m]? = some b) : ∀ c ∈ f, most b ≤ most c := by
  have hl := flashOk_len h
  unfold findOld at hm
  rw [if_pos h, spOf_eq h] at hm
  have hm' : hiGo (f.map spn) 0 0 (f.map spn) = m := by omega
  intro c hc
  obtain ⟨k, hk⟩ := List.mem_iff_getElem?.1 hc
  have := hiGo_min (ss := f.map spn) (f.map spn) 0 0 rfl (by simp; omega) (fun k s hk => by omega) k (spn c) (by rw [List.getElem?_map, hk]; rfl)
  rw [hm', List.getD_eq_getElem?_getD, List.getElem?_map, hb] at this
  exact this
/-! ### the eldest wiped and written full -/
end Go.Proofs.Ytbekihiiildgmaa
namespace Go.Proofs.Ytbekihiiildgmaa
set_option linter.unusedVariables false
set_option linter.unusedSimpArgs false
/-- r is the record of a written page -/
def Wr (b : Bk) (r : Rc) : Prop := ∃ p ∈ b.pages, p.state = 1 ∧ p.rc = r
def Has (f : List Bk) (r : Rc) : Prop := ∃ b ∈ f, Wr b r
theorem wr_seq {b : Bk} {r : Rc} (h : Wr b r) : r.seq ∈ seqsP b.pages := by
  obtain ⟨p, hp, h1, rfl⟩ := h
  exact mem_seqsP.2 ⟨p, hp, h1, rfl⟩
theorem has_ok {f : List Bk} (h : flashOk f = true) {r : Rc} (hr : Has f r) : recOk r = true := by
  obtain ⟨b, hb, p, hp, h1, rfl⟩ := hr
  exact rec_of_written ((bk_parts h hb).2.2.2 p hp) h1
theorem has_pos {f : List Bk} (h : flashOk f = true) {r : Rc} (hr : Has f r) : 1 ≤ r.seq := by
  have := recOk_addr (has_ok h hr); omega
theorem lastPs_spec (a : Int) : ∀ (ps : List Pg) (o : Rc), o.seq ≤ (lastPs a o ps).seq ∧ (∀ p ∈ ps, p.state = 1 → p.rc.addr = a → p.rc.seq ≤ (lastPs a o ps).seq) ∧ (lastPs a o ps = o ∨ ∃ p ∈ ps, p.state = 1 ∧ p.rc.addr = a ∧ p.rc = lastPs a o ps)
  | [], o => ⟨Int.le_refl _, fun p hp => (by cases hp), .inl rfl⟩
  | p :: ps, o => by
    obtain ⟨i1, i2, i3⟩ := lastPs_spec a ps (lastStep a o p)
    have he : lastPs a o (p :: ps) = lastPs a (lastStep a o p) ps := rfl
    rw [he]
    have hs : lastStep a o p = o ∨ (p.state = 1 ∧ p.rc.addr = a ∧ o.seq < p.rc.seq ∧ lastStep a o p = p.rc) := by
      unfold lastStep
      split
      · rename_i h; exact .inr ⟨h.1, h.2.1, h.2.2, rfl⟩
      · exact .inl rfl
    have hle : o.seq ≤ (lastStep a o p).seq := by
      rcases hs with hs | ⟨_, _, h3, hs⟩
      · rw [hs]; exact Int.le_refl _
      · rw [hs]; omega
    refine ⟨by omega, fun q hq h1 h2 => ?_, ?_⟩
    · rcases List.mem_cons.1 hq with rfl | hq
      · have : q.rc.seq ≤ (lastStep a o q).seq := by
          unfold lastStep
          split
          · exact Int.le_refl _
          · rename_i hn
            have : ¬ o.seq < q.rc.seq := fun e => hn ⟨h1, h2, e⟩
            omega
        omega
      · exact i2 q hq h1 h2
    · rcases i3 with i3 | ⟨q, hq, q1, q2, q3⟩
      · rcases hs with hs | ⟨h1, h2, _, hs⟩
        · exact .inl (i3.trans hs)
        · exact .inr ⟨p, List.mem_cons_self .., h1, h2, (i3.trans hs).symm⟩
      · exact .inr ⟨q, List.mem_cons_of_mem _ hq, q1, q2, q3⟩
theorem lastF_spec (a : Int) : ∀ (f : List Bk) (o : Rc), o.seq ≤ (f.foldl (fun o b => lastPs a o b.pages) o).seq ∧ (∀ r, Has f r → r.addr = a → r.seq ≤ (f.foldl (fun o b => lastPs a o b.pages) o).seq) ∧
    (f.foldl (fun o b => lastPs a o b.pages) o = o ∨ (Has f (f.foldl (fun o b => lastPs a o b.pages) o) ∧ (f.foldl (fun o b => lastPs a o b.pages) o).addr = a))
  | [], o => ⟨Int.le_refl _, fun r hr => (by obtain ⟨b, hb, _⟩ := hr; cases hb), .inl rfl⟩
  | b :: f, o => by
    obtain ⟨p1, p2, p3⟩ := lastPs_spec a b.pages o
    obtain ⟨i1, i2, i3⟩ := lastF_spec a f (lastPs a o b.pages)
    rw [List.foldl_cons]
    refine ⟨by omega, fun r hr h => ?_, ?_⟩
    · obtain ⟨c, hc, p, hp, q1, rfl⟩ := hr
      rcases List.mem_cons.1 hc with rfl | hc
      · have := p2 p hp q1 h; omega
      · exact i2 p.rc ⟨c, hc, p, hp, q1, rfl⟩ h
    · rcases i3 with i3 | ⟨⟨c, hc, hw⟩, i4⟩
      · rcases p3 with p3 | ⟨p, hp, q1, q2, q3⟩
        · exact .inl (i3.trans p3)
        · refine .inr ⟨⟨b, List.mem_cons_self .., p, hp, q1, ?_⟩, ?_⟩
          · rw [i3]; exact q3
          · rw [i3, ← q3]; exact q2
      · exact .inr ⟨⟨c, List.mem_cons_of_mem _ hc, hw⟩, i4⟩
theorem last_max {f : List Bk} {r : Rc} (hr : Has f r) : r.seq ≤ (last f r.addr).seq := (lastF_spec r.addr f rc0).2.1 r hr rfl
theorem last_has (f : List Bk) (a : Int) : last f a = rc0 ∨ (Has f (last f a) ∧ (last f a).addr = a) := (lastF_spec a f rc0).2.2
theorem last_pos {f : List Bk} {a : Int} (h : 0 < (last f a).seq) : Has f (last f a) ∧ (last f a).addr = a := by
  rcases last_has f a with e | e
  · rw [e] at h; exact absurd h (by decide)
  · exact e
theorem nodup_inj {α β : Type} {g : α → β} : ∀ {l : List α}, (l.map g).Nodup → ∀ {x y : α}, x ∈ l → y ∈ l → g x = g y → x = y
  | [], _, x, y, hx, _, _ => by cases hx
  | a :: l, hn, x, y, hx, hy, he => by
    rw [List.map_cons, List.nodup_cons] at hn
    rcases List.mem_cons.1 hx with ex | hx' <;> rcases List.mem_cons.1 hy with ey | hy'
    · rw [ex, ey]
    · rw [ex] at he
      exact absurd (List.mem_map.2 ⟨y, hy', he.symm⟩) hn.1
    · rw [ey] at he
      exact absurd (List.mem_map.2 ⟨x, hx', he⟩) hn.1
    · exact nodup_inj hn.2 hx' hy' he
theorem seqs_nodup : ∀ {f : List Bk}, (seqsF f).Nodup → ∀ b ∈ f, (seqsP b.pages).Nodup
  | [], _, b, hb => by cases hb
  | c :: f, hn, b, hb => by
    rw [show seqsF (c :: f) = seqsP c.pages ++ seqsF f from by simp [seqsF], List.nodup_append] at hn
    rcases List.mem_cons.1 hb with rfl | hb
    · exact hn.1
    · exact seqs_nodup hn.2.1 b hb
theorem wr_inj {f : List Bk} (h : flashOk f = true) {i j : Nat} {b c : Bk} {r q : Rc} (hb : f[i]? = some b) (hc : f[j]? = some c) (hr : Wr b r) (hq : Wr c q) (he : r.seq = q.seq) : i = j ∧ r = q := by
  have hn := ((flashOk_iff f).1 h).2.2
  have hij : i = j := by
    by_cases hij : i = j
    · exact hij
    · exact absurd (he ▸ wr_seq hq) (seqs_apart hn hij hb hc (wr_seq hr))
  subst hij
  rw [hb, Option.some.injEq] at hc
  subst hc
  refine ⟨rfl, ?_⟩
  obtain ⟨p, hp, p1, rfl⟩ := hr
  obtain ⟨p', hp', p1', rfl⟩ := hq
  have hnb := seqs_nodup hn b (List.mem_of_getElem? hb)
  unfold seqsP at hnb
  have := nodup_inj hnb (List.mem_filter.2 ⟨hp, by simpa using p1⟩) (List.mem_filter.2 ⟨hp', by simpa using p1'⟩) he
  rw [this]
theorem has_inj {f : List Bk} (h : flashOk f = true) {r q : Rc} (hr : Has f r) (hq : Has f q) (he : r.seq = q.seq) : r = q := by
  obtain ⟨b, hb, hr⟩ := hr
  obtain ⟨c, hc, hq⟩ := hq
  obtain ⟨i, hi⟩ := List.mem_iff_getElem?.1 hb
  obtain ⟨j, hj⟩ := List.mem_iff_getElem?.1 hc
  exact (wr_inj h hi hj hr hq he).2
theorem last_eq {f : List Bk} (h : flashOk f = true) {r : Rc} (hr : Has f r) (hm : ∀ q, Has f q → q.addr = r.addr → q.seq ≤ r.seq) : last f r.addr = r := by
  have h1 := last_max hr
  have h2 := has_pos h hr
  obtain ⟨h3, h4⟩ := last_pos (f := f) (a := r.addr) (by omega)
  have h5 := hm _ h3 h4
  exact has_inj h h3 hr (by omega)
theorem last_noneB {f : List Bk} {a : Int} (h : ∀ r, Has f r → r.addr ≠ a) : last f a = rc0 := by
  rcases last_has f a with e | e
  · exact e
  · exact absurd e.2 (h _ e.1)
theorem last_congr {f g : List Bk} (hf : flashOk f = true) (hg : flashOk g = true) {a : Int} (h : ∀ r, r.addr = a → (Has f r ↔ Has g r)) : last g a = last f a := by
  rcases last_has f a with e | ⟨e1, e2⟩
  · rw [e]
    refine last_noneB fun r hr ha => ?_
    have h1 := (h r ha).2 hr
    have h2 := last_max h1
    have h3 := has_pos hf h1
    rw [ha, e] at h2
    have : rc0.seq = 0 := rfl
    omega
  · have h1 := (h _ e2).1 e1
    have := last_eq hg h1 (fun q hq ha => by
      have h3 := (h q (ha.trans e2)).2 hq
      have := last_max h3
      rwa [ha, e2] at this)
    rwa [e2] at this
/-! ### a record written -/
theorem wr_put {f : List Bk} (h : flashOk f = true) {b : Bk} (hb : b ∈ f) {r : Rc} (hr : recOk r = true) (torn : Bool) (hc : clean b ≠ 0) (x : Rc) : Wr (putBk b r torn) x ↔ (torn = false ∧ x = r) ∨ Wr b x := by
  obtain ⟨l4, _, hs, hbp⟩ := bk_parts h hb
  obtain ⟨_, ⟨p, hp, hp0⟩, _⟩ := shape_put l4 hs (putPg_ok hr torn).2 hc
  have hk := (List.getElem?_eq_some_iff.1 hp).1
  unfold putBk
  constructor
  · rintro ⟨q, hq, q1, rfl⟩
    dsimp only at hq
    obtain ⟨j, hj⟩ := List.mem_iff_getElem?.1 hq
    rcases getElem?_set_cases hj with ⟨_, rfl⟩ | ⟨_, hj⟩
    · cases torn
      · exact .inl ⟨rfl, rfl⟩
      · exact absurd q1 (by show ¬ (2 : Int) = 1; decide)
    · exact .inr ⟨q, List.mem_of_getElem? hj, q1, rfl⟩
  · rintro (⟨rfl, rfl⟩ | ⟨q, hq, q1, rfl⟩)
    · exact ⟨⟨1, x⟩, List.mem_iff_getElem?.2 ⟨_, List.getElem?_set_self hk⟩, rfl, rfl⟩
    · obtain ⟨j, hj⟩ := List.mem_iff_getElem?.1 hq
      have hne : 4 - b.pages.countP isClean ≠ j := fun e => by
        rw [← e, hp, Option.some.injEq] at hj
        rw [hj] at hp0
        omega
      exact ⟨q, List.mem_iff_getElem?.2 ⟨j, by show (b.pages.set (4 - b.pages.countP isClean) (putPg r torn))[j]? = _; rw [List.getElem?_set_ne hne]; exact hj⟩, q1, rfl⟩
theorem has_put {f : List Bk} (h : flashOk f = true) {i : Nat} {b : Bk} (hb : f[i]? = some b) {r : Rc} (hr : recOk r = true) (torn : Bool) (hc : clean b ≠ 0) (x : Rc) : Has (f.set i (putBk b r torn)) x ↔ (torn = false ∧ x = r) ∨ Has f x := by
  have hw := wr_put h (List.mem_of_getElem? hb) hr torn hc x
  have hi := (List.getElem?_eq_some_iff.1 hb).1
  constructor
  · rintro ⟨c, hc', hx⟩
    obtain ⟨j, hj⟩ := List.mem_iff_getElem?.1 hc'
    rcases getElem?_set_cases hj with ⟨_, rfl⟩ | ⟨_, hj⟩
    · rcases hw.1 hx with hx | hx
      · exact .inl hx
      · exact .inr ⟨b, List.mem_of_getElem? hb, hx⟩
    · exact .inr ⟨c, List.mem_of_getElem? hj, hx⟩
  · rintro (hx | ⟨c, hc', hx⟩)
    · exact ⟨_, List.mem_iff_getElem?.2 ⟨i, List.getElem?_set_self hi⟩, hw.2 (.inl hx)⟩
    · obtain ⟨j, hj⟩ := List.mem_iff_getElem?.1 hc'
      by_cases hij : i = j
      · subst hij
        rw [hb, Option.some.injEq] at hj
        subst hj
        exact ⟨_, List.mem_iff_getElem?.2 ⟨i, List.getElem?_set_self hi⟩, hw.2 (.inr hx)⟩
      · exact ⟨c, List.mem_iff_getElem?.2 ⟨j, by rw [List.getElem?_set_ne hij]; exact hj⟩, hx⟩
theorem has_below {f : List Bk} (h : flashOk f = true) {s : Int} (hs : ∀ c ∈ f, most c < s) {x : Rc} (hx : Has f x) : x.seq < s := by
  obtain ⟨c, hc, hw⟩ := hx
  have := most_le (bk_parts h hc).2.2.2 (wr_seq hw)
  have := hs c hc
  omega
theorem not_seqIn {f : List Bk} (h : flashOk f = true) {s : Int} (hs : ∀ c ∈ f, most c < s) : seqIn f s ≠ true := fun e => by
  obtain ⟨c, hc, hq⟩ := mem_seqsF.1 (seqIn_iff.1 e)
  have := most_le (bk_parts h hc).2.2.2 hq
  have := hs c hc
  omega
theorem last_put {f : List Bk} (h : flashOk f = true) {i : Nat} {b : Bk} (hb : f[i]? = some b) {r : Rc} (hr : recOk r = true) (hc : clean b ≠ 0) (hs : ∀ c ∈ f, most c < r.seq) (a : Int) :
    last (f.set i (putBk b r false)) a = if a = r.addr then r else last f a := by
  have hok := put_ok4 h hb hr false hc (not_seqIn h hs)
  by_cases ha : a = r.addr
  · rw [if_pos ha, ha]
    refine last_eq hok ((has_put h hb hr false hc r).2 (.inl ⟨rfl, rfl⟩)) fun q hq _ => ?_
    rcases (has_put h hb hr false hc q).1 hq with ⟨_, rfl⟩ | hq
    · exact Int.le_refl _
    · have := has_below h hs hq; omega
  · rw [if_neg ha]
    refine last_congr h hok fun x hx => ?_
    rw [has_put h hb hr false hc x]
    constructor
    · exact .inr
    · rintro (⟨_, rfl⟩ | hx')
      · exact absurd hx.symm ha
      · exact hx'
theorem last_torn {f : List Bk} (h : flashOk f = true) {i : Nat} {b : Bk} (hb : f[i]? = some b) {r : Rc} (hr : recOk r = true) (hc : clean b ≠ 0) (hs : ∀ c ∈ f, most c < r.seq) (a : Int) :
    last (f.set i (putBk b r true)) a = last f a := by
  have hok := put_ok4 h hb hr true hc (not_seqIn h hs)
  refine last_congr h hok fun x hx => ?_
  rw [has_put h hb hr true hc x]
  simp
/-! ### a block wiped -/
theorem has_wipe {f : List Bk} {i : Nat} (hi : i < f.length) (torn : Bool) (x : Rc) : Has (wipe f i torn) x ↔ ∃ (j : Nat) (c : Bk), j ≠ i ∧ f[j]? = some c ∧ Wr c x := by
  constructor
  · rintro ⟨c, hc, hx⟩
    obtain ⟨j, hj⟩ := List.mem_iff_getElem?.1 hc
    unfold wipe at hj
    rcases getElem?_set_cases hj with ⟨_, rfl⟩ | ⟨hne, hj⟩
    · obtain ⟨p, hp, p1, _⟩ := hx
      dsimp only at hp
      rw [List.mem_replicate] at hp
      rw [hp.2] at p1
      cases torn
      · exact absurd p1 (by show ¬ (0 : Int) = 1; decide)
      · exact absurd p1 (by show ¬ (2 : Int) = 1; decide)
    · exact ⟨j, c, hne, hj, hx⟩
  · rintro ⟨j, c, hne, hj, hx⟩
    exact ⟨c, List.mem_iff_getElem?.2 ⟨j, by rw [wipe_ne hne]; exact hj⟩, hx⟩
/-- the eldest block's records are the eldest -/
theorem eldest {f : List Bk} (h : flashOk f = true) (hO : Ord f) {i j : Nat} {b c : Bk} (hij : j ≠ i) (hb : f[i]? = some b) (hc : f[j]? = some c) (hmin : ∀ d ∈ f, most b ≤ most d) {r q : Rc} (hr : Wr b r) (hq : Wr c q) : r.seq < q.seq := by
  have pb := (bk_parts h (List.mem_of_getElem? hb)).2.2.2
  have pc := (bk_parts h (List.mem_of_getElem? hc)).2.2.2
  have b1 := most_le pb (wr_seq hr)
  have b2 := least_le pb (wr_seq hr)
  have c1 := most_le pc (wr_seq hq)
  have c2 := least_le pc (wr_seq hq)
  have p1 := (seq_pos pb (wr_seq hr)).1
  have p2 := (seq_pos pc (wr_seq hq)).1
  have h1 := hO.apart i j b c (Ne.symm hij) hb hc (by omega) (by omega)
  have h2 := hmin c (List.mem_of_getElem? hc)
  have hne : r.seq ≠ q.seq := fun e => hij (wr_inj h hb hc hr hq e).1.symm
  have h3 : most b ≠ most c := fun e => seqs_apart ((flashOk_iff f).1 h).2.2 (Ne.symm hij) hb hc (most_mem pb (by omega)) (e ▸ most_mem pc (by omega))
  have h4 := least_most pb (by omega)
  have h5 := least_most pc (by omega)
  have h6 : least c ≠ most b := fun e => seqs_apart ((flashOk_iff f).1 h).2.2 (Ne.symm hij) hb hc (most_mem pb (by omega)) (e ▸ least_mem pc (by omega))
  by_cases h7 : least c < most b
  · exact absurd ⟨by omega, h7⟩ h1
  · omega
theorem last_wipe {f : List Bk} (h : flashOk f = true) (hO : Ord f) {i : Nat} {b : Bk} (hb : f[i]? = some b) (hmin : ∀ d ∈ f, most b ≤ most d) (hw : b.worn ≠ 200) (torn : Bool) (a : Int) :
    (Wr b (last f a) → last (wipe f i torn) a = rc0) ∧ (¬ Wr b (last f a) → last (wipe f i torn) a = last f a) := by
  have hi := (List.getElem?_eq_some_iff.1 hb).1
  have hok := wiped_ok h (by rw [flashOk_len h] at hi; exact hi) torn (by rw [getD_of hb]; exact hw)
  constructor
  · intro hl
    refine last_noneB fun x hx ha => ?_
    obtain ⟨j, c, hne, hj, hx⟩ := (has_wipe hi torn x).1 hx
    have h1 := eldest h hO hne hb hj hmin hl hx
    have h2 := last_max (f := f) ⟨c, List.mem_of_getElem? hj, hx⟩
    rw [ha] at h2
    omega
  · intro hl
    rcases last_has f a with e | ⟨⟨c, hc, hx⟩, e2⟩
    · rw [e]
      refine last_noneB fun x hx ha => ?_
      obtain ⟨j, c, hne, hj, hx⟩ := (has_wipe hi torn x).1 hx
      have hh : Has f x := ⟨c, List.mem_of_getElem? hj, hx⟩
      have h2 := last_max hh
      have h3 := has_pos h hh
      rw [ha, e] at h2
      have : rc0.seq = 0 := rfl
      omega
    · obtain ⟨j, hj⟩ := List.mem_iff_getElem?.1 hc
      have hne : j ≠ i := by
        rintro rfl
        rw [hb, Option.some.injEq] at hj
        subst hj
        exact hl hx
      have := last_eq hok ((has_wipe hi torn _).2 ⟨j, c, hne, hj, hx⟩) (fun q hq ha => by
        obtain ⟨j', c', _, hj', hq⟩ := (has_wipe hi torn q).1 hq
        have := last_max (f := f) ⟨c', List.mem_of_getElem? hj', hq⟩
        rwa [ha, e2] at this)
      rwa [e2] at this
end Go.Proofs.Ytbekihiiildgmaa
namespace Go.Proofs.Ytbekihiiildgmaa
set_option linter.unusedVariables false
set_option linter.unusedSimpArgs false
theorem diskGo_iff {f : List Bk} : ∀ (xs : List Int) (i : Nat), diskGo f i xs = true ↔ ∀ (k : Nat) (v : Int), xs[k]? = some v → valB v = true ∧ ¬ diskBad f (i + k) v
  | [], i => by simp [diskGo]
  | x :: xs, i => by
    unfold diskGo
    constructor
    · intro h k v hk
      split at h
      · rename_i h1
        split at h
        · cases h
        · rename_i h2
          cases k with
          | zero => rw [List.getElem?_cons_zero, Option.some.injEq] at hk; subst hk; exact ⟨h1, h2⟩
          | succ k =>
            have := (diskGo_iff xs (i + 1)).1 h k v (by simpa using hk)
            rwa [show i + 1 + k = i + (k + 1) by omega] at this
      · cases h
    · intro h
      have h0 := h 0 x rfl
      rw [if_pos h0.1, if_neg (by simpa using h0.2)]
      refine (diskGo_iff xs (i + 1)).2 fun k v hk => ?_
      have := h (k + 1) v (by simpa using hk)
      rwa [show i + (k + 1) = i + 1 + k by omega] at this
/-- the value of an address on the slow disk -/
def dk (s : St) (a : Int) : Int := s.disk.getD (a - 1).toNat 0
structure Okay (s : St) : Prop where
  len : s.disk.length = 6
  ord : findOrderI s.flash = true
  val : ∀ a : Int, 1 ≤ a → a ≤ 6 → valB (dk s a) = true
  agree : ∀ a : Int, 1 ≤ a → a ≤ 6 → 0 < (last s.flash a).seq → (last s.flash a).kind = 2 → (last s.flash a).val = dk s a
theorem dk_get {s : St} (h6 : s.disk.length = 6) {a : Int} (h1 : 1 ≤ a) (h2 : a ≤ 6) : s.disk[(a - 1).toNat]? = some (dk s a) := by
  obtain ⟨v, hv⟩ := get_some (l := s.disk) (k := (a - 1).toNat) (by omega)
  unfold dk
  rw [List.getD_eq_getElem?_getD, hv]; rfl
theorem dk_at {s : St} {k : Nat} {v : Int} (h : s.disk[k]? = some v) : dk s ((k : Int) + 1) = v := by
  unfold dk
  rw [show ((k : Int) + 1 - 1).toNat = k by omega, List.getD_eq_getElem?_getD, h]; rfl
theorem storeOk_iff {s : St} : storeOk s = true ↔ Okay s := by
  constructor
  · intro h
    obtain ⟨h6, ho, hd⟩ := storeOk_parts h
    have hd' := (diskGo_iff s.disk 0).1 hd
    refine ⟨h6, ho, fun a h1 h2 => (hd' _ _ (dk_get h6 h1 h2)).1, fun a h1 h2 h3 h4 => ?_⟩
    have := (hd' _ _ (dk_get h6 h1 h2)).2
    unfold diskBad at this
    rw [show ((0 + (a - 1).toNat : Nat) : Int) + 1 = a by omega] at this
    by_cases he : (last s.flash a).val = dk s a
    · exact he
    · exact absurd ⟨h3, h4, he⟩ this
  · intro h
    unfold storeOk
    rw [if_pos h.len, if_pos h.ord]
    refine (diskGo_iff s.disk 0).2 fun k v hk => ?_
    have hk6 : k < 6 := by rw [← h.len]; exact (List.getElem?_eq_some_iff.1 hk).1
    have e := dk_at hk
    have h1 := h.val ((k : Int) + 1) (by omega) (by omega)
    have h2 := h.agree ((k : Int) + 1) (by omega) (by omega)
    rw [e] at h1 h2
    refine ⟨h1, ?_⟩
    unfold diskBad
    rw [Nat.zero_add]
    rintro ⟨h3, h4, h5⟩
    exact h5 (h2 h3 h4)
theorem readV_dk (s : St) (a : Int) : readV s a = if 0 < (last s.flash a).seq then (last s.flash a).val else dk s a := rfl
def Same (s t : St) : Prop := ∀ a : Int, 1 ≤ a → a ≤ 6 → readV t a = readV s a
theorem Same.refl (s : St) : Same s s := fun _ _ _ => rfl
theorem Same.trans {s t u : St} (h : Same s t) (k : Same t u) : Same s u := fun a h1 h2 => (k a h1 h2).trans (h a h1 h2)
theorem Okay.flash {s : St} (h : Okay s) : flashOk s.flash = true := order_ok h.ord
theorem Okay.isOrd {s : St} (h : Okay s) : Ord s.flash := (findOrderI_iff h.flash).1 h.ord
theorem dk_set {s : St} (h6 : s.disk.length = 6) {a b v : Int} (h1 : 1 ≤ a) (h2 : a ≤ 6) (h3 : 1 ≤ b) : dk ⟨s.flash, s.disk.set (a - 1).toNat v⟩ b = if b = a then v else dk s b := by
  unfold dk
  rw [List.getD_eq_getElem?_getD, List.getD_eq_getElem?_getD]
  by_cases hb : b = a
  · subst hb
    rw [if_pos rfl, List.getElem?_set_self (by omega)]; rfl
  · rw [if_neg hb, List.getElem?_set_ne (by omega)]
/-- a value told that has a dirty record -/
theorem tell_ok {s : St} (h : Okay s) {a v : Int} (h1 : 1 ≤ a) (h2 : a ≤ 6) (hv : valB v = true) (hl : 0 < (last s.flash a).seq) (hk : (last s.flash a).kind = 1) :
    Okay ⟨s.flash, s.disk.set (a - 1).toNat v⟩ ∧ Same s ⟨s.flash, s.disk.set (a - 1).toNat v⟩ := by
  refine ⟨⟨by rw [List.length_set]; exact h.len, h.ord, fun b b1 b2 => ?_, fun b b1 b2 b3 b4 => ?_⟩, fun b b1 b2 => ?_⟩
  · rw [dk_set h.len h1 h2 b1]
    split
    · exact hv
    · exact h.val b b1 b2
  · dsimp only at b3 b4 ⊢
    rw [dk_set h.len h1 h2 b1]
    split
    · rename_i e; subst e; omega
    · exact h.agree b b1 b2 b3 b4
  · rw [readV_dk, readV_dk, dk_set h.len h1 h2 b1]
    dsimp only
    by_cases e : b = a
    · subst e; rw [if_pos hl, if_pos hl]
    · rw [if_neg e]
/-! ### a run of steps, safe wherever it falls -/
def Safe (K E : St → Prop) : St → List Sp → Prop
  | s, [] => E s
  | s, x :: xs => K s ∧ K (doStep s x true) ∧ Safe K E (doStep s x false) xs
theorem Safe.mono {K E K' E' : St → Prop} (hK : ∀ s, K s → K' s) (hE : ∀ s, E s → E' s) : ∀ {xs : List Sp} {s : St}, Safe K E s xs → Safe K' E' s xs
  | [], _, h => hE _ h
  | _ :: _, _, h => ⟨hK _ h.1, hK _ h.2.1, Safe.mono hK hE h.2.2⟩
theorem Safe.append {K E : St → Prop} {ys : List Sp} : ∀ {xs : List Sp} {s : St}, Safe K (fun t => Safe K E t ys) s xs → Safe K E s (xs ++ ys)
  | [], _, h => h
  | _ :: _, _, h => ⟨h.1, h.2.1, Safe.append h.2.2⟩
theorem doTo_cons {s : St} {x : Sp} {xs : List Sp} {n : Nat} {torn : Bool} : doTo s (x :: xs) ((n + 1 : Nat) : Int) torn = doTo (doStep s x false) xs n torn := by
  unfold doTo
  rw [show (((n + 1 : Nat) : Int)).toNat = n + 1 by omega, Int.toNat_natCast, List.take_succ_cons]
  have hd : doAllOf s (x :: xs.take n) = doAllOf (doStep s x false) (xs.take n) := rfl
  rw [hd]
  by_cases hc : torn = true ∧ (0 : Int) ≤ ((n + 1 : Nat) : Int) ∧ ((n + 1 : Nat) : Int) < ((x :: xs).length : Nat)
  · rw [if_pos hc, if_pos ⟨hc.1, by omega, by have := hc.2.2; rw [List.length_cons] at this; omega⟩, List.getD_cons_succ]
  · rw [if_neg hc, if_neg (fun e => hc ⟨e.1, by omega, by rw [List.length_cons]; omega⟩)]
theorem doTo_zero {s : St} {x : Sp} {xs : List Sp} {cut : Int} (h : cut.toNat = 0) {torn : Bool} : doTo s (x :: xs) cut torn = s ∨ doTo s (x :: xs) cut torn = doStep s x true := by
  unfold doTo
  rw [h]
  split
  · exact .inr rfl
  · exact .inl rfl
theorem Safe.to {K E : St → Prop} : ∀ {xs : List Sp} {s : St}, Safe K E s xs → ∀ (cut : Int) (torn : Bool), (xs.length ≤ cut.toNat → E (doTo s xs cut torn)) ∧ (cut.toNat < xs.length → K (doTo s xs cut torn))
  | [], s, h, cut, torn => by
    have he : doTo s [] cut torn = s := by
      unfold doTo
      rw [if_neg (by rintro ⟨_, h1, h2⟩; simp at h2; omega)]
      simp [doAllOf]
    rw [he]
    exact ⟨fun _ => h, fun hc => by simp at hc⟩
  | x :: xs, s, h, cut, torn => by
    by_cases h0 : cut.toNat = 0
    · refine ⟨fun hl => by rw [h0] at hl; simp at hl, fun _ => ?_⟩
      rcases doTo_zero (s := s) (x := x) (xs := xs) h0 (torn := torn) with e | e
      · rw [e]; exact h.1
      · rw [e]; exact h.2.1
    · obtain ⟨n, hn⟩ : ∃ n : Nat, cut = ((n + 1 : Nat) : Int) := ⟨cut.toNat - 1, by omega⟩
      subst hn
      rw [doTo_cons]
      have := h.2.2.to n torn
      rw [Int.toNat_natCast] at this
      rw [Int.toNat_natCast, List.length_cons]
      exact ⟨fun hl => this.1 (by omega), fun hl => this.2 (by omega)⟩
/-! ### the eldest, by the program and by the reference -/
theorem oldGo_hi {f : List Bk} : ∀ (r : List Bk) (i out : Nat), hiGo (f.map spn) i out (r.map spn) = oldGo f i out r
  | [], _, _ => rfl
  | b :: r, i, out => by
    have he : ((f.map spn).getD out (0, 0)).2 = most (f.getD out zbk) := by
      rw [List.getD_eq_getElem?_getD, List.getD_eq_getElem?_getD, List.getElem?_map]
      cases f[out]? <;> rfl
    rw [List.map_cons]
    unfold hiGo oldGo
    rw [he]
    show (if most b < most (f.getD out zbk) then _ else _) = _
    rw [oldGo_hi r, oldGo_hi r]
theorem findOld_old {f : List Bk} (h : flashOk f = true) : findOld f = (old f : Nat) := by
  unfold findOld
  rw [if_pos h, spOf_eq h]
  have hl := flashOk_len h
  congr 1
  cases f with
  | nil => simp at hl
  | cons b r =>
    unfold old
    rw [List.map_cons]
    show hiGo ((b :: r).map spn) 0 0 (spn b :: r.map spn) = _
    unfold hiGo
    rw [if_neg (by show ¬ most b < most b; omega)]
    exact oldGo_hi r 1 0
theorem old_min {f : List Bk} (h : flashOk f = true) {b : Bk} (hb : f[old f]? = some b) : ∀ d ∈ f, most b ≤ most d := findOld_min h (findOld_old h) hb
def wearS (f : List Bk) : Int := f.foldr (fun b n => b.worn + n) 0
theorem wearS_set : ∀ {f : List Bk} {i : Nat} {b : Bk} (c : Bk), f[i]? = some b → wearS (f.set i c) = wearS f + c.worn - b.worn
  | [], _, _, _, h => by simp at h
  | a :: f, 0, b, c, h => by
    rw [List.getElem?_cons_zero, Option.some.injEq] at h
    subst h
    rw [List.set_cons_zero]
    show c.worn + wearS f = a.worn + wearS f + c.worn - a.worn
    omega
  | a :: f, i + 1, b, c, h => by
    rw [List.getElem?_cons_succ] at h
    rw [List.set_cons_succ]
    show a.worn + wearS (f.set i c) = a.worn + wearS f + c.worn - b.worn
    rw [wearS_set c h]
    omega
theorem wearS_mem {b : Bk} : ∀ {f : List Bk}, (∀ c ∈ f, 0 ≤ c.worn) → b ∈ f → b.worn ≤ wearS f
  | [], _, h => by cases h
  | a :: f, hp, h => by
    have h0 : ∀ {g : List Bk}, (∀ c ∈ g, 0 ≤ c.worn) → 0 ≤ wearS g := by
      intro g
      induction g with
      | nil => intro _; exact Int.le_refl _
      | cons c g ih =>
        intro hg
        have h1 := hg c (List.mem_cons_self ..)
        have h2 := ih fun d hd => hg d (List.mem_cons_of_mem _ hd)
        show 0 ≤ c.worn + wearS g
        omega
    show b.worn ≤ a.worn + wearS f
    have hpf := fun c hc => hp c (List.mem_cons_of_mem _ hc)
    rcases List.mem_cons.1 h with rfl | h
    · have := h0 hpf; omega
    · have := wearS_mem hpf h
      have := hp a (List.mem_cons_self ..)
      omega
theorem next_le {f g : List Bk} (h : ∀ c ∈ g, most c < next f) (h0 : 1 ≤ next f) : next g ≤ next f := by
  have : topSeq g ≤ next f - 1 := topSeq_le (by omega) (fun b hb => by have := h b hb; omega)
  unfold next at *
  omega
theorem next_pos (f : List Bk) : 1 ≤ next f := by have := le_topSeq0 (f := f) (n := 0); unfold next topSeq; omega
/-- a state in the midst of steps -/
structure Mid (s t : St) : Prop where
  ok : Okay t
  same : Same s t
  nx : next t.flash ≤ next s.flash
  wear : wearS t.flash ≤ wearS s.flash + 1
  drt : ∀ b, dirty t.flash b = true → dirty s.flash b = true
  dsk : ∀ c : Int, 1 ≤ c → c ≤ 6 → dk t c = dk s c ∨ dk t c = readV s c
theorem Mid.refl {s : St} (h : Okay s) : Mid s s := ⟨h, Same.refl s, Int.le_refl _, by omega, fun _ h => h, fun _ _ _ => .inl rfl⟩
/-- behind them -/
structure Fin (s : St) (k a v : Int) (t : St) : Prop where
  ok : Okay t
  read : ∀ b : Int, 1 ≤ b → b ≤ 6 → readV t b = if b = a then v else readV s b
  rec_ : last t.flash a = ⟨k, next s.flash, a, v⟩
  nx : next t.flash ≤ next s.flash + 1
  wear : wearS t.flash ≤ wearS s.flash + 1
  drt : ∀ b, b ≠ a → dirty t.flash b = true → dirty s.flash b = true
  dsk : ∀ c : Int, 1 ≤ c → c ≤ 6 → dk t c = dk s c ∨ dk t c = readV s c
/-- told: on the flash of s still, with the values told -/
def Told (s t : St) : Prop := Mid s t ∧ t.flash = s.flash ∧ ∀ c : Int, 1 ≤ c → c ≤ 6 → dk t c = dk s c ∨ dk t c = readV s c
theorem told_page {f : List Bk} (h : flashOk f = true) {b : Bk} (hb : b ∈ f) {p : Pg} (hp : p ∈ b.pages) (ht : told f p = true) :
    (1 ≤ p.rc.addr ∧ p.rc.addr ≤ 6) ∧ valB p.rc.val = true ∧ last f p.rc.addr = p.rc ∧ 0 < p.rc.seq ∧ p.rc.kind = 1 := by
  unfold told live at ht
  rw [Bool.and_eq_true, Bool.and_eq_true, decide_eq_true_iff, decide_eq_true_iff, decide_eq_true_iff] at ht
  obtain ⟨⟨h1, h2⟩, h3⟩ := ht
  have hr := recOk_addr (rec_of_written ((bk_parts h hb).2.2.2 p hp) h1)
  exact ⟨⟨by omega, by omega⟩, by unfold valB; simp; omega, h2, by omega, h3⟩
theorem tells_safe {s0 : St} {b : Bk} (h : flashOk s0.flash = true) (hb : b ∈ s0.flash) : ∀ (ps qs : List Pg) (s : St), (∀ p ∈ ps, p ∈ b.pages ∧ told s0.flash p = true) → (∀ p ∈ qs, p ∈ b.pages ∧ told s0.flash p = true ∧ dk s p.rc.addr = p.rc.val) → Told s0 s →
    Safe (Told s0) (fun t => Told s0 t ∧ ∀ p ∈ qs ++ ps, dk t p.rc.addr = p.rc.val) s (ps.map tellP)
  | [], qs, s, _, hq, hs => ⟨hs, fun p hp => (hq p (by simpa using hp)).2.2⟩
  | p :: ps, qs, s, hp, hq, hs => by
    obtain ⟨hpb, hpt⟩ := hp p (List.mem_cons_self ..)
    obtain ⟨⟨a1, a2⟩, av, al, as_, ak⟩ := told_page h hb hpb hpt
    have hl : last s.flash p.rc.addr = p.rc := by rw [hs.2.1]; exact al
    have ht := tell_ok hs.1.ok a1 a2 av (by rw [hl]; exact as_) (by rw [hl]; exact ak)
    have hX : ∀ c : Int, 1 ≤ c → c ≤ 6 → dk ⟨s.flash, s.disk.set (p.rc.addr - 1).toNat p.rc.val⟩ c = dk s0 c ∨ dk ⟨s.flash, s.disk.set (p.rc.addr - 1).toNat p.rc.val⟩ c = readV s0 c := fun c c1 c2 => by
      rw [dk_set hs.1.ok.len a1 a2 c1]
      split
      · rename_i e
        right
        rw [e, readV_dk, al, if_pos as_]
      · exact hs.2.2 c c1 c2
    have hT : Told s0 ⟨s.flash, s.disk.set (p.rc.addr - 1).toNat p.rc.val⟩ := ⟨⟨ht.1, hs.1.same.trans ht.2, hs.1.nx, hs.1.wear, hs.1.drt, hX⟩, hs.2.1, hX⟩
    have hd : doStep s (tellP p) false = ⟨s.flash, s.disk.set (p.rc.addr - 1).toNat p.rc.val⟩ := rfl
    have hdt : doStep s (tellP p) true = s := rfl
    rw [List.map_cons]
    refine ⟨hs, by rw [hdt]; exact hs, ?_⟩
    rw [hd]
    have ih := tells_safe h hb ps (qs ++ [p]) _ (fun q hq' => hp q (List.mem_cons_of_mem _ hq')) (fun q hq' => ?_) hT
    · refine ih.mono (fun _ h => h) fun t ht => ⟨ht.1, fun q hq' => ht.2 q ?_⟩
      simpa using hq'
    · rcases List.mem_append.1 hq' with hq' | hq'
      · obtain ⟨q1, q2, q3⟩ := hq q hq'
        refine ⟨q1, q2, ?_⟩
        obtain ⟨⟨c1, c2⟩, _, cl, _, _⟩ := told_page h hb q1 q2
        rw [dk_set hs.1.ok.len a1 a2 c1]
        split
        · rename_i e
          rw [e, al] at cl
          rw [cl]
        · exact q3
      · rw [List.mem_singleton] at hq'
        subst hq'
        exact ⟨hpb, hpt, by rw [dk_set hs.1.ok.len a1 a2 a1, if_pos rfl]⟩
theorem dirty_of_last {f g : List Bk} {b : Int} (h : last g b = rc0 ∨ last g b = last f b) (hd : dirty g b = true) : dirty f b = true := by
  unfold dirty at hd ⊢
  rcases h with h | h
  · rw [h] at hd
    exact absurd hd (by decide)
  · rwa [← h]
/-- the eldest wiped, when its dirty values are told -/
theorem wipe_mid {s t : St} (hT : Told s t) {i : Nat} {b : Bk} (hb : s.flash[i]? = some b) (hmin : ∀ d ∈ s.flash, most b ≤ most d) (hw : b.worn ≠ 200) (hd : ∀ p ∈ b.pages, told s.flash p = true → dk t p.rc.addr = p.rc.val) (torn : Bool) :
    Mid s ⟨wipe t.flash i torn, t.disk⟩ ∧ (∀ a, last (wipe s.flash i torn) a = rc0 ∨ last (wipe s.flash i torn) a = last s.flash a) := by
  obtain ⟨hM, hf, hX⟩ := hT
  have hok := hM.ok
  rw [hf]
  have hfl := hok.flash
  rw [hf] at hfl
  have hO : Ord s.flash := by have := hok.isOrd; rwa [hf] at this
  have hl := flashOk_len hfl
  have hi : i < 4 := by rw [← hl]; exact (List.getElem?_eq_some_iff.1 hb).1
  have hok' := wiped_ok hfl hi torn (by rw [getD_of hb]; exact hw)
  have hlast := fun a => last_wipe hfl hO hb hmin hw torn a
  have hnn : ∀ c ∈ s.flash, 0 ≤ most c := fun c hc => most_nn (bk_parts hfl hc).2.2.2
  have hord := (findOrderI_iff hok').2 (ord_wipe hO hnn i torn)
  have hcase : ∀ a, last (wipe s.flash i torn) a = rc0 ∨ last (wipe s.flash i torn) a = last s.flash a := fun a => by
    by_cases h : Wr b (last s.flash a)
    · exact .inl ((hlast a).1 h)
    · exact .inr ((hlast a).2 h)
  have hread : ∀ a : Int, 1 ≤ a → a ≤ 6 → readV ⟨wipe s.flash i torn, t.disk⟩ a = readV t a := fun a a1 a2 => by
    rw [readV_dk, readV_dk]
    dsimp only
    rw [hf]
    show (if 0 < (last (wipe s.flash i torn) a).seq then (last (wipe s.flash i torn) a).val else dk t a) = _
    by_cases h : Wr b (last s.flash a)
    · rw [(hlast a).1 h, if_neg (by decide)]
      by_cases h0 : 0 < (last s.flash a).seq
      · rw [if_pos h0]
        obtain ⟨h1, h2⟩ := last_pos h0
        rcases last_kind hfl h0 with hk | hk
        · obtain ⟨p, hp, p1, p2⟩ := h
          have ht : told s.flash p = true := by
            unfold told live
            rw [p2, h2, p1, hk]; simp
          have := hd p hp ht
          rw [p2, h2] at this
          exact this
        · have := hok.agree a a1 a2
          rw [hf] at this
          exact (this h0 hk).symm
      · rw [if_neg h0]
    · rw [(hlast a).2 h]
  refine ⟨⟨⟨hok.len, hord, fun a a1 a2 => hok.val a a1 a2, fun a a1 a2 a3 a4 => ?_⟩, fun a a1 a2 => (hread a a1 a2).trans (hM.same a a1 a2), ?_, ?_, fun c hc => dirty_of_last (hcase c) hc, fun c c1 c2 => hX c c1 c2⟩, hcase⟩
  · dsimp only at a3 a4 ⊢
    rcases hcase a with e | e
    · rw [e] at a3; exact absurd a3 (by decide)
    · rw [e] at a3 a4 ⊢
      have := hok.agree a a1 a2
      rw [hf] at this
      exact this a3 a4
  · refine next_le (fun c hc => ?_) (next_pos _)
    dsimp only at hc
    unfold wipe at hc
    rcases mem_set hc with hc | rfl
    · exact top_lt hc
    · have h1 := (wiped_none torn ((s.flash.getD i zbk).worn + 1)).1
      have h2 := next_pos s.flash
      rw [h1]; omega
  · show wearS (wipe s.flash i torn) ≤ _
    unfold wipe
    rw [wearS_set _ hb, getD_of hb]
    dsimp only
    omega
/-- a record written, or torn -/
theorem write_fin {s t : St} {k a v : Int} (hok : Okay t) (hsame : Same s t) (hnx : next t.flash ≤ next s.flash) (hwear : wearS t.flash ≤ wearS s.flash + 1) (hdr : ∀ b, dirty t.flash b = true → dirty s.flash b = true) (hX : ∀ c : Int, 1 ≤ c → c ≤ 6 → dk t c = dk s c ∨ dk t c = readV s c) {i : Nat} {b : Bk} (hb : t.flash[i]? = some b) (hc : clean b ≠ 0) (hS : Sole t.flash i)
    (hr : recOk ⟨k, next s.flash, a, v⟩ = true) (h2 : k = 2 → dk t a = v) :
    (doStep t ⟨3, 0, 0, i, ⟨k, next s.flash, a, v⟩⟩ true = ⟨t.flash.set i (putBk b ⟨k, next s.flash, a, v⟩ true), t.disk⟩ ∧ Mid s (doStep t ⟨3, 0, 0, i, ⟨k, next s.flash, a, v⟩⟩ true)) ∧
    (doStep t ⟨3, 0, 0, i, ⟨k, next s.flash, a, v⟩⟩ false = ⟨t.flash.set i (putBk b ⟨k, next s.flash, a, v⟩ false), t.disk⟩ ∧ Fin s k a v (doStep t ⟨3, 0, 0, i, ⟨k, next s.flash, a, v⟩⟩ false)) := by
  have hfl := hok.flash
  have hlt : ∀ c ∈ t.flash, most c < (⟨k, next s.flash, a, v⟩ : Rc).seq := fun c hc => by have := top_lt hc; dsimp only; omega
  have hnot := not_seqIn hfl hlt
  have hwr : ∀ torn, writeR t.flash i ⟨k, next s.flash, a, v⟩ torn = (t.flash.set i (putBk b ⟨k, next s.flash, a, v⟩ torn), true) := fun torn => by
    unfold writeR
    rw [getD_of hb, if_neg (by rintro (e | e); exact hc e; exact hnot e)]
    rfl
  have hstep : ∀ torn, doStep t ⟨3, 0, 0, i, ⟨k, next s.flash, a, v⟩⟩ torn = ⟨t.flash.set i (putBk b ⟨k, next s.flash, a, v⟩ torn), t.disk⟩ := fun torn => by
    unfold doStep
    rw [if_neg (by dsimp only; decide), if_neg (by dsimp only; decide), if_pos rfl]
    dsimp only
    rw [Int.toNat_natCast, hwr]
  have hok4 : ∀ torn, flashOk (t.flash.set i (putBk b ⟨k, next s.flash, a, v⟩ torn)) = true := fun torn => put_ok4 hfl hb hr torn hc hnot
  have hord : ∀ torn, findOrderI (t.flash.set i (putBk b ⟨k, next s.flash, a, v⟩ torn)) = true := fun torn => (findOrderI_iff (hok4 torn)).2 (ord_put hfl hok.isOrd hb hr torn hc hS hlt)
  have hw : ∀ torn, wearS (t.flash.set i (putBk b ⟨k, next s.flash, a, v⟩ torn)) = wearS t.flash := fun torn => by
    rw [wearS_set _ hb]
    show wearS t.flash + b.worn - b.worn = _
    omega
  have hlt' := last_torn hfl hb hr hc hlt
  have hlp := last_put hfl hb hr hc hlt
  have hmem := List.mem_of_getElem? hb
  have hmost : ∀ torn, ∀ c ∈ t.flash.set i (putBk b ⟨k, next s.flash, a, v⟩ torn), most c ≤ next s.flash ∧ (torn = true → most c < next s.flash) := fun torn c hcm => by
    rcases mem_set hcm with hcm | rfl
    · have := top_lt hcm; exact ⟨by omega, fun _ => by omega⟩
    · obtain ⟨_, kp, _, k4, k5⟩ := putBk_parts hfl hmem hr torn hc
      have hbp := (bk_parts hfl hmem).2.2.2
      have := hlt b hmem
      dsimp only at this
      cases torn
      · have := (span_put hbp kp (k5 rfl) (hlt b hmem)).1
        exact ⟨by rw [this]; exact Int.le_refl _, fun e => by cases e⟩
      · have := (span_same hbp kp (k4 rfl)).1
        exact ⟨by omega, fun _ => by omega⟩
  refine ⟨⟨hstep true, ?_⟩, ⟨hstep false, ?_⟩⟩
  · rw [hstep true]
    refine ⟨⟨hok.len, hord true, fun c c1 c2 => hok.val c c1 c2, fun c c1 c2 c3 c4 => ?_⟩, fun c c1 c2 => ?_, next_le (fun c hc => (hmost true c hc).2 rfl) (next_pos _), by rw [hw]; exact hwear, fun c hcd => ?_, fun c c1 c2 => hX c c1 c2⟩
    · dsimp only at c3 c4 ⊢
      rw [hlt'] at c3 c4 ⊢
      exact hok.agree c c1 c2 c3 c4
    · rw [← hsame c c1 c2, readV_dk, readV_dk]
      dsimp only
      rw [hlt']; rfl
    · refine hdr c ?_
      unfold dirty at hcd ⊢
      dsimp only at hcd
      rwa [hlt'] at hcd
  · rw [hstep false]
    refine ⟨⟨hok.len, hord false, fun c c1 c2 => hok.val c c1 c2, fun c c1 c2 c3 c4 => ?_⟩, fun c c1 c2 => ?_, ?_, ?_, by rw [hw]; exact hwear, fun c hne hcd => ?_, fun c c1 c2 => hX c c1 c2⟩
    · dsimp only at c3 c4 ⊢
      rw [hlp] at c3 c4 ⊢
      by_cases e : c = a
      · rw [if_pos e] at c4 ⊢
        dsimp only at c4 ⊢
        rw [e]
        exact (h2 c4).symm
      · rw [if_neg e] at c3 c4 ⊢
        exact hok.agree c c1 c2 c3 c4
    · rw [readV_dk]
      dsimp only
      rw [hlp]
      by_cases e : c = a
      · rw [if_pos e, if_pos e, if_pos (by have := next_pos s.flash; dsimp only; omega)]
      · rw [if_neg e, if_neg e, ← hsame c c1 c2, readV_dk]; rfl
    · dsimp only
      rw [hlp, if_pos rfl]
    · have : topSeq (t.flash.set i (putBk b ⟨k, next s.flash, a, v⟩ false)) ≤ next s.flash := topSeq_le (by have := next_pos s.flash; omega) (fun c hc => (hmost false c hc).1)
      show topSeq (t.flash.set i (putBk b ⟨k, next s.flash, a, v⟩ false)) + 1 ≤ next s.flash + 1
      omega
    · refine hdr c ?_
      unfold dirty at hcd ⊢
      dsimp only at hcd
      rwa [hlp, if_neg hne] at hcd
theorem open_false' {f : List Bk} (h : flashOk f = true) (ho : (openB f).2 = false) : ∀ b ∈ f, clean b = 0 := by
  have h4 := fun b hb => (flashOk_shape h b hb).1
  rw [openI_eq h4] at ho
  exact open_false h4 ho
/-- the steps by which a record is written -/
theorem wr_safe {s : St} (h : Okay s) {k a v : Int} (hne : wr s.flash k a v ≠ []) (h2 : k = 2 → dk s a = v ∧ readV s a = v) : Safe (Mid s) (Fin s k a v) s (wr s.flash k a v) := by
  have hfl := h.flash
  have h4 := fun b hb => (flashOk_shape hfl b hb).1
  have hl := flashOk_len hfl
  unfold wr at hne ⊢
  by_cases hc : (room s.flash).2.2 = false ∨ recOk ⟨k, next s.flash, a, v⟩ = false
  · rw [if_pos hc] at hne; exact absurd rfl hne
  · rw [if_neg hc]
    have hr : recOk ⟨k, next s.flash, a, v⟩ = true := by simpa using fun e => hc (.inr e)
    have hroom : (room s.flash).2.2 ≠ false := fun e => hc (.inl e)
    clear hne hc
    by_cases ho : (openB s.flash).2 = true
    · obtain ⟨m, b, h1, hb, hcb, hS⟩ := open_sole hfl h.isOrd (by rw [← openI_eq h4]; exact ho)
      have hob : (openB s.flash).1 = m := by rw [openI_eq h4, h1]
      unfold room
      rw [if_pos ho, hob]
      dsimp only
      rw [List.nil_append]
      obtain ⟨w1, w2⟩ := write_fin (s := s) (t := s) h (Same.refl s) (Int.le_refl _) (by omega) (fun _ h => h) (fun _ _ _ => .inl rfl) hb hcb hS hr (fun e => (h2 e).1)
      exact ⟨Mid.refl h, w1.2, w2.2⟩
    · have ho' : (openB s.flash).2 = false := by simpa using ho
      have h0 := open_false' hfl ho'
      have hi := old_lt4 hl
      obtain ⟨b, hb⟩ := get_some (l := s.flash) (k := old s.flash) (by omega)
      have hmin := old_min hfl hb
      have hbm := List.mem_of_getElem? hb
      unfold room at hroom ⊢
      rw [if_neg ho] at hroom ⊢
      dsimp only at hroom ⊢
      rw [getD_of hb] at hroom ⊢
      have hw : b.worn < 200 := by simpa using hroom
      rw [List.append_assoc]
      refine Safe.append ?_
      have ht := tells_safe (s0 := s) hfl hbm (b.pages.filter (told s.flash)) [] s (fun p hp => List.mem_filter.1 hp) (fun p hp => by cases hp) ⟨Mid.refl h, rfl, fun _ _ _ => .inl rfl⟩
      refine ht.mono (fun _ h => h.1) fun t ⟨hT, hd⟩ => ?_
      have hd' : ∀ p ∈ b.pages, told s.flash p = true → dk t p.rc.addr = p.rc.val := fun p hp hp2 => hd p (by simpa using ⟨hp, hp2⟩)
      have hwm := fun torn => wipe_mid hT hb hmin (by omega) hd' torn
      have hst : ∀ torn, doStep t ⟨2, 0, 0, (old s.flash : Nat), rc0⟩ torn = ⟨wipe t.flash (old s.flash) torn, t.disk⟩ := fun torn => by
        unfold doStep
        rw [if_neg (by dsimp only; decide), if_pos rfl]
        dsimp only
        unfold wipeR
        rw [Int.toNat_natCast, hT.2.1, getD_of hb, if_neg (by omega)]
      have hbw : (wipe t.flash (old s.flash) false)[old s.flash]? = some ⟨List.replicate 4 pg0, b.worn + 1⟩ := by rw [hT.2.1]; exact wiped_b hb false
      obtain ⟨w1, w2⟩ := write_fin (s := s) (t := ⟨wipe t.flash (old s.flash) false, t.disk⟩) (k := k) (a := a) (v := v) (hwm false).1.ok (hwm false).1.same (hwm false).1.nx (hwm false).1.wear (hwm false).1.drt (hwm false).1.dsk hbw (by rw [clean_new]; decide) (fun j c hj hcj => by
          dsimp only at hcj
          rw [hT.2.1, wipe_ne hj] at hcj
          unfold partly
          rw [h0 c (List.mem_of_getElem? hcj)]; rfl) hr (fun e => by
          have hra := recOk_addr hr
          dsimp only at hra
          show dk t a = v
          rcases hT.2.2 a hra.1 hra.2.1 with q | q
          · rw [q]; exact (h2 e).1
          · rw [q]; exact (h2 e).2)
      refine ⟨hT.1, by rw [hst]; exact (hwm true).1, ?_⟩
      rw [hst]
      exact ⟨(hwm false).1, w1.2, w2.2⟩
end Go.Proofs.Ytbekihiiildgmaa
namespace Go.Proofs.Ytbekihiiildgmaa
set_option linter.unusedVariables false
set_option linter.unusedSimpArgs false
/-- what happens by its steps: put, flush, fill -/
theorem wr_iff {f : List Bk} {k a v : Int} : wr f k a v ≠ [] ↔ (room f).2.2 = true ∧ recOk ⟨k, next f, a, v⟩ = true := by
  unfold wr
  by_cases hc : (room f).2.2 = false ∨ recOk ⟨k, next f, a, v⟩ = false
  · rw [if_pos hc]
    refine ⟨fun h => absurd rfl h, fun h => ?_⟩
    rcases hc with e | e
    · rw [e] at h; exact absurd h.1 (by decide)
    · rw [e] at h; exact absurd h.2 (by decide)
  · rw [if_neg hc]
    refine ⟨fun _ => ⟨by simpa using fun e => hc (.inl e), by simpa using fun e => hc (.inr e)⟩, fun _ e => ?_⟩
    simp at e
theorem recOk_mk {k s a v : Int} : recOk ⟨k, s, a, v⟩ = true ↔ (k = 1 ∨ k = 2) ∧ (1 ≤ s ∧ s ≤ 600) ∧ (1 ≤ a ∧ a ≤ 6) ∧ 0 ≤ v ∧ v ≤ 9 := by
  unfold recOk kindB addrB valB
  simp only [Bool.and_eq_true, Bool.or_eq_true, decide_eq_true_iff]
  constructor
  · rintro ⟨h1, h2, h3, ⟨h4, h5⟩, h6, h7⟩; exact ⟨h1, ⟨h2, h3⟩, ⟨h4, h5⟩, h6, h7⟩
  · rintro ⟨h1, ⟨h2, h3⟩, ⟨h4, h5⟩, h6, h7⟩; exact ⟨h1, h2, h3, ⟨h4, h5⟩, h6, h7⟩
theorem room_wear {s : St} (h : Okay s) (hw : wearS s.flash < 200) : (room s.flash).2.2 = true := by
  unfold room
  split
  · rfl
  · have hl := flashOk_len h.flash
    have hi := old_lt4 hl
    obtain ⟨b, hb⟩ := get_some (l := s.flash) (k := old s.flash) (by omega)
    have hm := List.mem_of_getElem? hb
    have := wearS_mem (fun c hc => (bk_parts h.flash hc).2.1.1) hm
    dsimp only
    rw [getD_of hb]
    simpa using (show b.worn < 200 by omega)
theorem wr_can {s : St} (h : Okay s) (hn : next s.flash ≤ 600) (hw : wearS s.flash < 200) {k a v : Int} (hk : k = 1 ∨ k = 2) (ha : 1 ≤ a ∧ a ≤ 6) (hv : 0 ≤ v ∧ v ≤ 9) : wr s.flash k a v ≠ [] :=
  wr_iff.2 ⟨room_wear h hw, recOk_mk.2 ⟨hk, ⟨next_pos _, hn⟩, ha, hv⟩⟩
theorem Mid.trans {s t u : St} (h : Mid s t) (hw : wearS t.flash ≤ wearS s.flash) (k : Mid t u) : Mid s u :=
  ⟨k.ok, h.same.trans k.same, Int.le_trans k.nx h.nx, by have := k.wear; omega, fun b hb => h.drt b (k.drt b hb), fun c c1 c2 => by
    rcases k.dsk c c1 c2 with e | e
    · rw [e]; exact h.dsk c c1 c2
    · rw [e]; exact .inr (h.same c c1 c2)⟩
theorem Fin.after {s t u : St} {k a v : Int} (h : Mid s t) (hf : t.flash = s.flash) (j : Fin t k a v u) : Fin s k a v u :=
  ⟨j.ok, fun b b1 b2 => by
    rw [j.read b b1 b2]
    split
    · rfl
    · exact h.same b b1 b2, by rw [j.rec_, hf], by have := j.nx; rwa [hf] at this, by have := j.wear; rwa [hf] at this, fun b hb hd => h.drt b (j.drt b hb hd), fun c c1 c2 => by
    rcases j.dsk c c1 c2 with e | e
    · rw [e]; exact h.dsk c c1 c2
    · rw [e]; exact .inr (h.same c c1 c2)⟩
/-- the values of an ok store are values -/
theorem Okay.vals {s : St} (h : Okay s) {a : Int} (a1 : 1 ≤ a) (a2 : a ≤ 6) : valB (readV s a) = true := by
  rw [readV_dk]
  split
  · rename_i hp
    obtain ⟨h1, h2⟩ := last_pos hp
    have := recOk_addr (has_ok h.flash h1)
    unfold valB; simp; omega
  · exact h.val a a1 a2
theorem Okay.clean {s : St} (h : Okay s) {a : Int} (a1 : 1 ≤ a) (a2 : a ≤ 6) (hd : dirty s.flash a = false) : dk s a = readV s a := by
  rw [readV_dk]
  split
  · rename_i hp
    rcases last_kind h.flash hp with e | e
    · unfold dirty at hd; rw [e] at hd; simp at hd; omega
    · exact (h.agree a a1 a2 hp e).symm
  · rfl
/-- told first -/
theorem tell_mid {s : St} (h : Okay s) {a : Int} (a1 : 1 ≤ a) (a2 : a ≤ 6) (hd : dirty s.flash a = true) : Mid s ⟨s.flash, s.disk.set (a - 1).toNat (readV s a)⟩ ∧ dk ⟨s.flash, s.disk.set (a - 1).toNat (readV s a)⟩ a = readV s a := by
  unfold dirty at hd
  rw [Bool.and_eq_true, decide_eq_true_iff, decide_eq_true_iff] at hd
  have ht := tell_ok h a1 a2 (h.vals a1 a2) hd.1 hd.2
  refine ⟨⟨ht.1, ht.2, Int.le_refl _, by dsimp only; omega, fun _ h => h, fun c c1 c2 => ?_⟩, by rw [dk_set h.len a1 a2 a1, if_pos rfl]⟩
  rw [dk_set h.len a1 a2 c1]
  split
  · rename_i e; rw [e]; exact .inr rfl
  · exact .inl rfl
def Flushed (s : St) (a : Int) (t : St) : Prop := Fin s 2 a (readV s a) t ∧ dk t a = readV s a
theorem flush_parts {s : St} {a : Int} (hne : flush s a ≠ []) : (1 ≤ a ∧ a ≤ 6) ∧ dirty s.flash a = true ∧ wr s.flash 2 a (readV s a) ≠ [] ∧ flush s a = ⟨1, a, readV s a, 0, rc0⟩ :: wr s.flash 2 a (readV s a) := by
  unfold flush at hne ⊢
  by_cases h1 : addrB a = false ∨ dirty s.flash a = false
  · rw [if_pos h1] at hne; exact absurd rfl hne
  · rw [if_neg h1] at hne ⊢
    by_cases h2 : wr s.flash 2 a (readV s a) = []
    · rw [if_pos h2] at hne; exact absurd rfl hne
    · rw [if_neg h2]
      have ha : addrB a = true := by simpa using fun e => h1 (.inl e)
      unfold addrB at ha
      simp at ha
      exact ⟨ha, by simpa using fun e => h1 (.inr e), h2, rfl⟩
theorem flush_safe {s : St} (h : Okay s) {a : Int} (hne : flush s a ≠ []) : Safe (Mid s) (Flushed s a) s (flush s a) := by
  obtain ⟨⟨a1, a2⟩, hd, hw, he⟩ := flush_parts hne
  rw [he]
  obtain ⟨hM, hk⟩ := tell_mid h a1 a2 hd
  refine ⟨Mid.refl h, ?_, ?_⟩
  · show Mid s s; exact Mid.refl h
  · show Safe (Mid s) (Flushed s a) ⟨s.flash, s.disk.set (a - 1).toNat (readV s a)⟩ (wr s.flash 2 a (readV s a))
    have hr := hM.same a a1 a2
    have := wr_safe hM.ok (k := 2) (a := a) (v := readV s a) hw (fun _ => ⟨hk, hr⟩)
    refine this.mono (fun u hu => hM.trans (Int.le_refl _) hu) fun u hu => ⟨hu.after hM rfl, ?_⟩
    rcases hu.dsk a a1 a2 with e | e
    · rw [e, hk]
    · rw [e, hr]
theorem fill_parts {s : St} {a : Int} (hne : fill s a ≠ []) : (1 ≤ a ∧ a ≤ 6) ∧ ¬ 0 < (last s.flash a).seq ∧ fill s a = wr s.flash 2 a (dk s a) := by
  unfold fill at hne ⊢
  by_cases h1 : addrB a = false ∨ 0 < (last s.flash a).seq
  · rw [if_pos h1] at hne; exact absurd rfl hne
  · rw [if_neg h1] at hne ⊢
    have ha : addrB a = true := by simpa using fun e => h1 (.inl e)
    unfold addrB at ha
    simp at ha
    exact ⟨ha, fun e => h1 (.inr e), rfl⟩
theorem fill_safe {s : St} (h : Okay s) {a : Int} (hne : fill s a ≠ []) : Safe (Mid s) (Fin s 2 a (readV s a)) s (fill s a) := by
  obtain ⟨⟨a1, a2⟩, hd, he⟩ := fill_parts hne
  have hr : readV s a = dk s a := by rw [readV_dk, if_neg hd]
  rw [he] at hne ⊢
  rw [hr]
  exact wr_safe h hne (fun _ => ⟨rfl, hr⟩)
/-- the value that an event gives its address, if it is not cut -/
def evVal (s : St) (e : Ev) : Int := if e.kind = 1 then e.b else readV s e.a
def evKind (e : Ev) : Int := if e.kind = 1 then 1 else 2
structure Done (s : St) (e : Ev) (t : St) : Prop where
  fin : Fin s (evKind e) e.a (evVal s e) t
  told : e.kind = 2 → dk t e.a = readV s e.a
theorem steps_safe {s : St} (h : Okay s) {e : Ev} (hne : stepsOf s e ≠ []) : Safe (Mid s) (Done s e) s (stepsOf s e) := by
  unfold stepsOf at hne ⊢
  by_cases h1 : e.kind = 1
  · rw [if_pos h1] at hne ⊢
    refine (wr_safe h hne (fun e => by cases e)).mono (fun _ h => h) fun t ht => ⟨by unfold evKind evVal; rw [if_pos h1, if_pos h1]; exact ht, fun e => by omega⟩
  · rw [if_neg h1] at hne ⊢
    by_cases h2 : e.kind = 2
    · rw [if_pos h2] at hne ⊢
      exact (flush_safe h hne).mono (fun _ h => h) fun t ht => ⟨by unfold evKind evVal; rw [if_neg h1, if_neg h1]; exact ht.1, fun _ => ht.2⟩
    · rw [if_neg h2] at hne ⊢
      by_cases h3 : e.kind = 3
      · rw [if_pos h3] at hne ⊢
        exact (fill_safe h hne).mono (fun _ h => h) fun t ht => ⟨by unfold evKind evVal; rw [if_neg h1, if_neg h1]; exact ht, fun e => absurd e h2⟩
      · rw [if_neg h3] at hne
        exact absurd rfl hne
theorem doTo_nil (s : St) (c : Int) (t : Bool) : doTo s [] c t = s := by
  unfold doTo
  rw [if_neg (by rintro ⟨_, h1, h2⟩; simp at h2; omega)]
  simp [doAllOf]
/-- how many addresses are dirty -/
def d1 (f : List Bk) (a : Int) : Int := if dirty f a = true then 1 else 0
def nd (f : List Bk) : Int := d1 f 1 + d1 f 2 + d1 f 3 + d1 f 4 + d1 f 5 + d1 f 6
theorem d1_le {f g : List Bk} {a : Int} (h : dirty g a = true → dirty f a = true) : d1 g a ≤ d1 f a := by
  unfold d1
  by_cases e : dirty g a = true
  · rw [if_pos e, if_pos (h e)]; exact Int.le_refl _
  · rw [if_neg e]; split <;> omega
theorem d1_1 (f : List Bk) (a : Int) : 0 ≤ d1 f a ∧ d1 f a ≤ 1 := by unfold d1; split <;> omega
theorem nd_le {f g : List Bk} (h : ∀ a, dirty g a = true → dirty f a = true) : nd g ≤ nd f := by
  unfold nd
  have := d1_le (h 1); have := d1_le (h 2); have := d1_le (h 3); have := d1_le (h 4); have := d1_le (h 5); have := d1_le (h 6)
  omega
theorem nd_one {f g : List Bk} {a : Int} (ha : 1 ≤ a ∧ a ≤ 6) (h : ∀ b, b ≠ a → dirty g b = true → dirty f b = true) : nd g ≤ nd f + d1 g a - d1 f a := by
  have key : ∀ b : Int, d1 g b ≤ d1 f b + (if b = a then d1 g a - d1 f a else 0) := fun b => by
    split
    · rename_i e; rw [e]; omega
    · rename_i e; have := d1_le (h b e); omega
  unfold nd
  have k1 := key 1; have k2 := key 2; have k3 := key 3; have k4 := key 4; have k5 := key 5; have k6 := key 6
  rcases (show a = 1 ∨ a = 2 ∨ a = 3 ∨ a = 4 ∨ a = 5 ∨ a = 6 by omega) with rfl | rfl | rfl | rfl | rfl | rfl <;>
  · simp at k1 k2 k3 k4 k5 k6; omega
theorem nd_nn (f : List Bk) : 0 ≤ nd f := by
  unfold nd
  have := d1_1 f 1; have := d1_1 f 2; have := d1_1 f 3; have := d1_1 f 4; have := d1_1 f 5; have := d1_1 f 6
  omega
theorem clean_d1 {f : List Bk} {a : Int} (h : dirty f a = false) : d1 f a = 0 := by unfold d1; rw [h]; rfl
theorem dirty_d1 {f : List Bk} {a : Int} (h : dirty f a = true) : d1 f a = 1 := by unfold d1; rw [h]; rfl
theorem clean_of_two {f : List Bk} {a n v : Int} (h : last f a = ⟨2, n, a, v⟩) : dirty f a = false := by unfold dirty; rw [h]; simp
/-- one flush of all -/
structure Flu (s t : St) (a : Int) : Prop where
  ok : Okay t
  same : Same s t
  nx : next t.flash ≤ next s.flash + 1
  pn : next t.flash + nd t.flash ≤ next s.flash + nd s.flash
  pw : wearS t.flash + nd t.flash ≤ wearS s.flash + nd s.flash
  drt : ∀ b, dirty t.flash b = true → dirty s.flash b = true
  dsk : ∀ c : Int, 1 ≤ c → c ≤ 6 → dk t c = dk s c ∨ dk t c = readV s c
  gone : next s.flash ≤ 600 → wearS s.flash < 200 → dirty t.flash a = false
theorem flush_can {s : St} (h : Okay s) {a : Int} (ha : 1 ≤ a ∧ a ≤ 6) (hn : next s.flash ≤ 600) (hw : wearS s.flash < 200) (hd : dirty s.flash a = true) : flush s a ≠ [] := by
  have hv := h.vals ha.1 ha.2
  unfold valB at hv
  simp at hv
  have hw := wr_can h hn hw (k := 2) (a := a) (v := readV s a) (.inr rfl) ha hv
  unfold flush addrB
  rw [if_neg (by rw [hd]; simp; omega), if_neg hw]
  simp
theorem doFlush_flu {s : St} (h : Okay s) {a : Int} (ha : 1 ≤ a ∧ a ≤ 6) : Flu s (doFlush s a) a := by
  by_cases hne : flush s a = []
  · have e : doFlush s a = s := by unfold doFlush; rw [hne, doTo_nil]
    rw [e]
    refine ⟨h, Same.refl s, by omega, by omega, by omega, fun _ h => h, fun _ _ _ => .inl rfl, fun h1 h2 => ?_⟩
    by_cases hd : dirty s.flash a = true
    · exact absurd hne (flush_can h ha h1 h2 hd)
    · simpa using hd
  · have hs := ((flush_safe h hne).to ((flush s a).length : Nat) false).1 (by simp)
    change Flushed s a (doFlush s a) at hs
    obtain ⟨_, hd, _, _⟩ := flush_parts hne
    obtain ⟨hf, hk⟩ := hs
    have hg := clean_of_two hf.rec_
    have n1 := nd_one ha hf.drt
    rw [clean_d1 hg, dirty_d1 hd] at n1
    have := hf.nx
    have := hf.wear
    refine ⟨hf.ok, fun b b1 b2 => ?_, by omega, by omega, by omega, fun b hb => ?_, hf.dsk, fun _ _ => hg⟩
    · rw [hf.read b b1 b2]
      split
      · rename_i e; rw [e]
      · rfl
    · by_cases e : b = a
      · rw [e, hg] at hb; cases hb
      · exact hf.drt b e hb
structure Alls (s t : St) (l : List Int) : Prop where
  ok : Okay t
  same : Same s t
  nx : next t.flash ≤ next s.flash + l.length
  pn : next t.flash + nd t.flash ≤ next s.flash + nd s.flash
  pw : wearS t.flash + nd t.flash ≤ wearS s.flash + nd s.flash
  drt : ∀ b, dirty t.flash b = true → dirty s.flash b = true
  dsk : ∀ c : Int, 1 ≤ c → c ≤ 6 → dk t c = dk s c ∨ dk t c = readV s c
  gone : next s.flash + nd s.flash ≤ 600 → wearS s.flash + nd s.flash < 200 → ∀ a ∈ l, dirty t.flash a = false
theorem Alls.step {s t : St} {l : List Int} (h : Alls s t l) {a : Int} (ha : 1 ≤ a ∧ a ≤ 6) : Alls s (doFlush t a) (l ++ [a]) := by
  have f := doFlush_flu h.ok ha
  have h1 := h.pn; have h2 := h.pw; have h3 := h.nx; have f1 := f.pn; have f2 := f.pw; have f3 := f.nx
  have n0 := nd_nn t.flash
  refine ⟨f.ok, h.same.trans f.same, by simp; omega, by omega, by omega, fun b hb => h.drt b (f.drt b hb), fun c c1 c2 => ?_, fun g1 g2 b hb => ?_⟩
  · rcases f.dsk c c1 c2 with e | e
    · rw [e]; exact h.dsk c c1 c2
    · rw [e]; exact .inr (h.same c c1 c2)
  · rcases List.mem_append.1 hb with hb | hb
    · have := h.gone g1 g2 b hb
      by_cases e : dirty (doFlush t a).flash b = true
      · rw [f.drt b e] at this; cases this
      · simpa using e
    · rw [List.mem_singleton] at hb
      subst hb
      exact f.gone (by omega) (by omega)
theorem doEvery_alls {s : St} (h : Okay s) : Alls s (doEvery s) [1, 2, 3, 4, 5, 6] := by
  have h0 : Alls s s [] := ⟨h, Same.refl s, by simp, by omega, by omega, fun _ h => h, fun _ _ _ => .inl rfl, fun _ _ a ha => by cases ha⟩
  have k := (((((h0.step (a := 1) (by omega)).step (a := 2) (by omega)).step (a := 3) (by omega)).step (a := 4) (by omega)).step (a := 5) (by omega)).step (a := 6) (by omega)
  have e : doEvery s = doFlush (doFlush (doFlush (doFlush (doFlush (doFlush s 1) 2) 3) 4) 5) 6 := by unfold doEvery; simp only [List.foldl_cons, List.foldl_nil]
  rw [e]
  exact k
/-- what an event does -/
structure Evt (s : St) (e : Ev) (t : St) : Prop where
  ok : Okay t
  vals : ∀ b : Int, 1 ≤ b → b ≤ 6 → readV t b = readV s b ∨ (e.kind = 1 ∧ 0 ≤ e.c ∧ b = e.a ∧ readV t b = e.b)
  dsk : ∀ c : Int, 1 ≤ c → c ≤ 6 → dk t c = dk s c ∨ dk t c = readV s c
  nx : next t.flash ≤ next s.flash + (if e.kind = 4 then 6 else 1)
  pn : next t.flash + nd t.flash ≤ next s.flash + nd s.flash + 2
  pw : wearS t.flash + nd t.flash ≤ wearS s.flash + nd s.flash + 2
  full : e.kind = 1 → 6 ≤ e.c → (1 ≤ e.a ∧ e.a ≤ 6) → (0 ≤ e.b ∧ e.b ≤ 9) → next s.flash ≤ 600 → wearS s.flash < 200 → readV t e.a = e.b
  all : e.kind = 4 → next s.flash + nd s.flash ≤ 600 → wearS s.flash + nd s.flash < 200 → ∀ a : Int, 1 ≤ a → a ≤ 6 → dirty t.flash a = false
  zero : e.kind ≠ 4 → e.c ≤ 0 → Same s t
theorem Evt.none {s : St} {e : Ev} (h : Okay s) (h4 : e.kind ≠ 4) (hf : e.kind = 1 → 6 ≤ e.c → (1 ≤ e.a ∧ e.a ≤ 6) → (0 ≤ e.b ∧ e.b ≤ 9) → next s.flash ≤ 600 → wearS s.flash < 200 → False) : Evt s e s :=
  ⟨h, fun _ _ _ => .inl rfl, fun _ _ _ => .inl rfl, by rw [if_neg h4]; omega, by omega, by omega, fun h1 h2 h3 h5 h6 h7 => (hf h1 h2 h3 h5 h6 h7).elim, fun e => absurd e h4, fun _ _ => Same.refl s⟩
theorem wr_len6 {s : St} (h : Okay s) (k a v : Int) : (wr s.flash k a v).length ≤ 6 := wr_len (flashOk_len h.flash) (fun b hb => (bk_parts h.flash hb).1) k a v
theorem doEv_evt {s : St} (h : Okay s) (e : Ev) : Evt s e (doEv s e) := by
  unfold doEv
  by_cases h4 : e.kind = 4
  · rw [if_pos h4]
    have a := doEvery_alls h
    have h1 := a.nx; have h2 := a.pn; have h3 := a.pw
    simp at h1
    refine ⟨a.ok, fun b b1 b2 => .inl (a.same b b1 b2), a.dsk, by rw [if_pos h4]; omega, by omega, by omega, fun e => by omega, fun _ g1 g2 b b1 b2 => a.gone g1 g2 b ?_, fun e => absurd h4 e⟩
    rcases (show b = 1 ∨ b = 2 ∨ b = 3 ∨ b = 4 ∨ b = 5 ∨ b = 6 by omega) with rfl | rfl | rfl | rfl | rfl | rfl <;> simp
  · rw [if_neg h4]
    by_cases hc : e.c < 0
    · rw [if_pos hc]
      exact Evt.none h h4 (fun _ _ => by omega)
    · rw [if_neg hc]
      by_cases hne : stepsOf s e = []
      · rw [hne, doTo_nil]
        refine Evt.none h h4 (fun h1 h2 h3 h5 h6 h7 => ?_)
        unfold stepsOf at hne
        rw [if_pos h1] at hne
        exact wr_can h h6 h7 (.inl rfl) h3 h5 hne
      · have hS := (steps_safe h hne).to e.c e.torn
        by_cases hl : (stepsOf s e).length ≤ e.c.toNat
        · have hd := hS.1 hl
          have hf := hd.fin
          have hpos : 0 < (stepsOf s e).length := List.length_pos_iff.2 hne
          have hnx := hf.nx
          have hwe := hf.wear
          by_cases h1 : e.kind = 1
          · have hrd := hf.read
            unfold evVal at hrd
            rw [if_pos h1] at hrd
            have ha : 1 ≤ e.a ∧ e.a ≤ 6 := by
              unfold stepsOf at hne
              rw [if_pos h1] at hne
              exact (recOk_mk.1 (wr_iff.1 hne).2).2.2.1
            have n1 := nd_one ha hf.drt
            have := d1_1 (doTo s (stepsOf s e) e.c e.torn).flash e.a
            have := d1_1 s.flash e.a
            refine ⟨hf.ok, fun b b1 b2 => ?_, hf.dsk, by rw [if_neg h4]; omega, by omega, by omega, fun _ _ h3 _ _ _ => by rw [hrd _ h3.1 h3.2, if_pos rfl], fun e => absurd e h4, fun _ g => by omega⟩
            rw [hrd b b1 b2]
            by_cases e1 : b = e.a
            · rw [if_pos e1]; exact .inr ⟨h1, by omega, e1, rfl⟩
            · rw [if_neg e1]; exact .inl rfl
          · have hrd := hf.read
            have hrc := hf.rec_
            unfold evVal at hrd hrc
            unfold evKind at hrc
            rw [if_neg h1] at hrd hrc
            rw [if_neg h1] at hrc
            have hsame : Same s (doTo s (stepsOf s e) e.c e.torn) := fun b b1 b2 => by
              rw [hrd b b1 b2]
              split
              · rename_i q; rw [q]
              · rfl
            have hg := clean_of_two hrc
            have hdr : ∀ b, dirty (doTo s (stepsOf s e) e.c e.torn).flash b = true → dirty s.flash b = true := fun b hb => by
              by_cases q : b = e.a
              · rw [q, hg] at hb; cases hb
              · exact hf.drt b q hb
            have := nd_le hdr
            exact ⟨hf.ok, fun b b1 b2 => .inl (hsame b b1 b2), hf.dsk, by rw [if_neg h4]; omega, by omega, by omega, fun q => absurd q h1, fun q => absurd q h4, fun _ _ => hsame⟩
        · have hm := hS.2 (by omega)
          have := nd_le hm.drt
          have h1 := hm.nx; have h2 := hm.wear
          refine ⟨hm.ok, fun b b1 b2 => .inl (hm.same b b1 b2), hm.dsk, by rw [if_neg h4]; omega, by omega, by omega, fun q q2 => ?_, fun q => absurd q h4, fun _ _ => hm.same⟩
          exfalso
          unfold stepsOf at hl
          rw [if_pos q] at hl
          have := wr_len6 h 1 e.a e.b
          omega
end Go.Proofs.Ytbekihiiildgmaa
namespace Go.Proofs.Ytbekihiiildgmaa
set_option linter.unusedVariables false
set_option linter.unusedSimpArgs false
theorem addrB_iff {a : Int} : addrB a = true ↔ 1 ≤ a ∧ a ≤ 6 := by unfold addrB; simp
theorem valB_iff {a : Int} : valB a = true ↔ 0 ≤ a ∧ a ≤ 9 := by unfold valB; simp
theorem blockB_iff {a : Int} : blockB a = true ↔ 0 ≤ a ∧ a < 4 := by unfold blockB; simp
theorem Okay.fine {s : St} (h : Okay s) : stFine s := ⟨flFine_of h.flash, h.len, fun v hv => by
  obtain ⟨k, hk⟩ := List.getElem?_of_mem hv
  have hl := (List.getElem?_eq_some_iff.1 hk).1
  have := h.val ((k : Int) + 1) (by omega) (by have := h.len; omega)
  rw [dk_at hk] at this
  exact valB_iff.1 this⟩
/-- plays -/
def new0 : St := ⟨flashNew, disk0⟩
theorem new_okay : Okay new0 := storeOk_iff.1 new_ok
structure Run (n : Nat) (t : St) : Prop where
  ok : Okay t
  pn : next t.flash + nd t.flash ≤ 1 + 2 * n
  pw : wearS t.flash + nd t.flash ≤ 2 * n
theorem Run.step {n : Nat} {t : St} (h : Run n t) (e : Ev) : Run (n + 1) (doEv t e) := by
  have k := doEv_evt h.ok e
  have h1 := h.pn; have h2 := h.pw; have k1 := k.pn; have k2 := k.pw
  exact ⟨k.ok, by omega, by omega⟩
theorem Run.new : Run 0 new0 := ⟨new_okay, by decide, by decide⟩
theorem Run.small {n : Nat} {t : St} (h : Run n t) (hn : n ≤ 99) : next t.flash ≤ 600 ∧ wearS t.flash < 200 ∧ next t.flash + nd t.flash ≤ 600 ∧ wearS t.flash + nd t.flash < 200 := by
  have h1 := h.pn; have h2 := h.pw; have h3 := nd_nn t.flash
  omega
end Go.Proofs.Ytbekihiiildgmaa
namespace Go.Proofs.Ytbekihiiildgmaa
set_option linter.unusedVariables false
set_option linter.unusedSimpArgs false
/-- the slow disk has what was put -/
def isPutV (a v : Int) (e : Ev) : Bool := decide (e.kind = 1) && (decide (e.a = a) && decide (e.b = v))
def wasPut (es : List Ev) (a v : Int) : Prop := v = 0 ∨ es.any (isPutV a v) = true
theorem wasPut.more {es : List Ev} {a v : Int} (h : wasPut es a v) (e : Ev) : wasPut (es ++ [e]) a v := by
  rcases h with h | h
  · exact .inl h
  · exact .inr (by rw [List.any_append, h]; rfl)
/-- whole events -/
def wholeEv (e : Ev) : Ev := { e with c := 60, torn := false }
end Go.Proofs.Ytbekihiiildgmaa
open Go.RowKit Go.IntWalk Go.Maps
namespace Go.Proofs.Ytbekihiiildgmaa
set_option linter.unusedVariables false
set_option linter.unusedSimpArgs false
set_option maxHeartbeats 1000000
theorem cellP {w : World} {b i : Nat} {u : Value} (h : w.cell? ⟨b, i, none⟩ = some u) (o : Obj) : (w.alloc o).cell? ⟨b, i, none⟩ = some u := (World.cell?_of_block (a := ⟨b, i, none⟩) (Below.heap_alloc w o b (lt_of_cell h))).trans h
theorem impl_diskStep (r : Rc) (w : World) : Calls Try.prog 89 #[.agg #[.int .i64 r.kind, .int .i64 r.seq, .int .i64 r.addr, .int .i64 r.val]] w fun e w' => e = .returned (.agg #[.int .i64 1, .int .i64 r.addr, .int .i64 r.val, .int .i64 0, .int .i64 0, .int .i64 0, .int .i64 0, .int .i64 0]) ∧ Below w.heap.size w w' := by
  go_enter Try.func89, Try.ntmps89
  go_wp2
  refine bodyPost_ret (v := .agg #[.int .i64 1, .int .i64 r.addr, .int .i64 r.val, .int .i64 0, .int .i64 0, .int .i64 0, .int .i64 0, .int .i64 0]) (by simp [results, Try.results89, go_sem]) rfl ⟨rfl, ?_⟩
  (repeat (first | (with_reducible exact Below.refl _ _) | (with_reducible assumption) | (refine Below.setCell ?_ (by first | omega | exact hB.size | exact hb.size | (have h := hB.size; simp; omega) | (have h := hb.size; simp; omega) | (simp; omega) | simp) _) | (refine Below.alloc ?_ (by first | omega | exact hB.size | exact hb.size | (have h := hB.size; simp; omega) | (have h := hb.size; simp; omega) | (simp; omega) | simp) _) | (refine Below.drew ?_)))
end Go.Proofs.Ytbekihiiildgmaa
open Go.RowKit Go.IntWalk Go.Maps
namespace Go.Proofs.Ytbekihiiildgmaa
set_option linter.unusedVariables false
set_option linter.unusedSimpArgs false
set_option maxHeartbeats 1000000
end Go.Proofs.Ytbekihiiildgmaa
namespace Go.Proofs.Ytbekihiiildgmaa
set_option linter.unusedVariables false
set_option linter.unusedSimpArgs false
open Go.RowKit Go.Maps
set_option maxHeartbeats 400000
end Go.Proofs.Ytbekihiiildgmaa
open Go.RowKit Go.IntWalk Go.Maps
namespace Go.Proofs.Ytbekihiiildgmaa
set_option linter.unusedVariables false
set_option linter.unusedSimpArgs false
set_option maxHeartbeats 1000000
/-- a store in a box: its flash and its disk lie apart from the box, the disk apart from the flash -/
def Hold (w : World) (lo ob : Nat) (s : St) : Prop :=
  ∃ A c D d hs, w.cell? ⟨ob, 0, none⟩ = some (.slice A 4 c) ∧ w.cell? ⟨ob, 1, none⟩ = some (.slice D 6 d) ∧ w.frozen? ⟨ob, 0, none⟩ = false ∧ w.frozen? ⟨ob, 1, none⟩ = false ∧ lo ≤ ob ∧
    Bks w A s.flash hs ∧ Row w D (ints s.disk) ∧ (∀ b, fblk A hs b → lo ≤ b ∧ b ≠ ob) ∧ ∀ b, blk D b → lo ≤ b ∧ b ≠ ob ∧ ¬ fblk A hs b
theorem Hold.drew {w : World} {lo ob : Nat} {s : St} (h : Hold w lo ob s) : Hold w.drew lo ob s := by
  obtain ⟨A, c, D, d, hs, o0, o1, f0, f1, hlo, hBk, hD, hfb, hdb⟩ := h
  exact ⟨A, c, D, d, hs, o0, o1, f0, f1, hlo, hBk.drew, hD.drew, hfb, hdb⟩
theorem Hold.below {w w' : World} {lo ob : Nat} {s : St} (h : Hold w lo ob s) (hb : Below w.heap.size w w') : Hold w' lo ob s := by
  obtain ⟨A, c0, D, d, hs, o0, o1, f0, f1, hlo, hBk, hD, hfb, hdb⟩ := h
  have hob := lt_of_cell o0
  exact ⟨A, c0, D, d, hs, (hb.cell (p := ⟨ob, 0, none⟩) hob).trans o0, (hb.cell (p := ⟨ob, 1, none⟩) hob).trans o1, (hb.frozen (p := ⟨ob, 0, none⟩) hob).trans f0, (hb.frozen (p := ⟨ob, 1, none⟩) hob).trans f1, hlo, hBk.below hb (Nat.le_refl _), hD.below hb (Nat.le_refl _), hfb, hdb⟩
theorem Hold.far {w w' : World} {lo ob : Nat} {s : St} (h : Hold w lo ob s) (hk : ∀ b, lo ≤ b → b < w.heap.size → w'.heap[b]? = w.heap[b]?) : Hold w' lo ob s := by
  obtain ⟨A, c0, D, d, hs, o0, o1, f0, f1, hlo, hBk, hD, hfb, hdb⟩ := h
  have hob := lt_of_cell o0
  have hh := hk ob hlo hob
  refine ⟨A, c0, D, d, hs, (World.cell?_of_block (a := ⟨ob, 0, none⟩) hh).trans o0, (World.cell?_of_block (a := ⟨ob, 1, none⟩) hh).trans o1, (World.frozen?_of_block (a := ⟨ob, 0, none⟩) hh).trans f0, (World.frozen?_of_block (a := ⟨ob, 1, none⟩) hh).trans f1, hlo, hBk.keep fun b hb hl => hk b (hfb b ?_).1 hl, hD.keep fun b hb hl => hk b (hdb b hb).1 hl, hfb, hdb⟩
  rcases hb with hy | ⟨z, hz, hy⟩
  · exact .inl hy
  · obtain ⟨j, hj⟩ := List.getElem?_of_mem hz
    exact .inr ⟨j, z, hj, hy⟩
theorem Hold.new {w : World} {lo c d : Nat} {A D : Option Addr} {f : List Bk} {xs : List Int} (hO : OSt w lo w.heap.size A f D xs) (hlo : lo ≤ w.heap.size) : Hold (w.alloc (.cells #[.slice A 4 c, .slice D 6 d] 26)) lo w.heap.size ⟨f, xs⟩ := by
  obtain ⟨hs, hBk, hApt, hD, hdb⟩ := hO
  refine ⟨A, c, D, d, hs, by simp, by simp, by simp, by simp, hlo, hBk.alloc _, hD.alloc _, fun b hb => ?_, fun b hb => ⟨(hdb b hb).1, by have := (hdb b hb).2.1; omega, fun hf => ?_⟩⟩
  · have := hApt.fblk hb; exact ⟨this.1, by omega⟩
  · rcases hf with hf | ⟨i, x, hx, hf⟩
    · exact (hdb b hb).2.2.1 hf
    · exact (hdb b hb).2.2.2 i x hx hf
theorem Hold.flash {w w' w'' : World} {lo ob : Nat} {s : St} {A1 : Option Addr} {c : Nat} {f : List Bk} (h : Hold w lo ob s) (hn : ints s.disk ≠ []) (hb : Below w.heap.size w w') (hO : OFl w' w.heap.size w'.heap.size A1 f) (hw : w'' = w'.setCell ⟨ob, 0, none⟩ (.slice A1 4 c)) : Hold w'' lo ob { s with flash := f } := by
  obtain ⟨A, c0, D, d, hs, o0, o1, f0, f1, hlo, hBk, hD, hfb, hdb⟩ := h
  obtain ⟨hs2, hBk2, hApt⟩ := hO
  have hob := lt_of_cell o0
  have q0 := (hb.cell (p := ⟨ob, 0, none⟩) hob).trans o0
  have q1 := (hb.cell (p := ⟨ob, 1, none⟩) hob).trans o1
  have g0 := (hb.frozen (p := ⟨ob, 0, none⟩) hob).trans f0
  have g1 := (hb.frozen (p := ⟨ob, 1, none⟩) hob).trans f1
  have hW := wrote_one q0 (.slice A1 4 c)
  rw [← hw] at hW
  have n0 := hW.new_ 0 _ rfl
  have n1 := hW.old_ 1 (by simp)
  refine ⟨A1, c, D, d, hs2, n0, n1.trans q1, (hW.frozen _).trans g0, (hW.frozen _).trans g1, hlo, hBk2.keep fun y hy hl => hW.block y ?_, (hD.below hb (Nat.le_refl _)).keep fun y hy hl => hW.block y (hdb y hy).2.1, fun b hb2 => ?_, fun b hb2 => ⟨(hdb b hb2).1, (hdb b hb2).2.1, fun hf => ?_⟩⟩
  · rintro rfl
    have hf : fblk A1 hs2 y := by
      rcases hy with hy | ⟨z, hz, hy⟩
      · exact .inl hy
      · obtain ⟨j, hj⟩ := List.getElem?_of_mem hz
        exact .inr ⟨j, z, hj, hy⟩
    have := (hApt.fblk hf).1
    omega
  · have := (hApt.fblk hb2).1
    exact ⟨by omega, by omega⟩
  · have h1 := (hApt.fblk hf).1
    have hbl := hD.lt hn hb2
    omega
end Go.Proofs.Ytbekihiiildgmaa
open Go.RowKit Go.IntWalk Go.Maps
namespace Go.Proofs.Ytbekihiiildgmaa
set_option linter.unusedVariables false
set_option linter.unusedSimpArgs false
set_option maxHeartbeats 1000000
end Go.Proofs.Ytbekihiiildgmaa
open Go.RowKit Go.IntWalk Go.Maps
namespace Go.Proofs.Ytbekihiiildgmaa
set_option linter.unusedVariables false
set_option linter.unusedSimpArgs false
set_option maxHeartbeats 2000000
def st0 : St := ⟨[], []⟩
/-- a flash that can be read, in blocks from lo on -/
def FlAt (w : World) (lo : Nat) (A : Option Addr) (f : List Bk) : Prop := ∃ hs, Bks w A f hs ∧ ∀ b, fblk A hs b → lo ≤ b
theorem FlAt.fl {w : World} {lo : Nat} {A : Option Addr} {f : List Bk} (h : FlAt w lo A f) : Fl w A f := by obtain ⟨hs, h, _⟩ := h; exact ⟨hs, h⟩
theorem FlAt.nil (w : World) (lo : Nat) : FlAt w lo none [] := ⟨[], ⟨rfl, Row.nil _ _, fun i b x h => by simp at h⟩, fun b h => (h.elim (fun h => by cases h) (fun ⟨i, x, h, _⟩ => by simp at h))⟩
def ToPost (r : St × Bool) (w : World) (e : Ending) (w' : World) : Prop :=
  ∃ A c D d, e = .returned (.tuple #[.agg #[.slice A r.1.flash.length c, .slice D r.1.disk.length d], .bool r.2]) ∧ FlAt w' w.heap.size A r.1.flash ∧ Row w' D (ints r.1.disk) ∧ (∀ b, blk D b → w.heap.size ≤ b) ∧ Below w.heap.size w w'
theorem ToPost.fail {w w' : World} (h : Below w.heap.size w w') : ToPost (st0, false) w (.returned (.tuple #[.agg #[.slice none 0 0, .slice none 0 0], .bool false])) w' := ⟨none, 0, none, 0, rfl, FlAt.nil _ _, Row.nil _ _, (fun b hb => by cases hb), h⟩
/-- the boxes of the steps that wait -/
def Waits (w : World) (top : Nat) (xs : List Sp) (bs : List Nat) : Prop := ∀ (j : Nat) (x : Sp) (b : Nat), xs[j]? = some x → bs[j]? = some b → Row w (some ⟨b, 0, none⟩) x.vs ∧ top < b ∧ b < w.heap.size
theorem Waits.keep {w w' : World} {top : Nat} {xs : List Sp} {bs : List Nat} (h : Waits w top xs bs) (hs : w.heap.size ≤ w'.heap.size) (hk : ∀ b, b ∈ bs → w'.heap[b]? = w.heap[b]?) : Waits w' top xs bs := fun j x b hx hb => by
  obtain ⟨h1, h2, h3⟩ := h j x b hx hb
  exact ⟨h1.keep fun c hc _ => by rw [blk_some] at hc; subst hc; exact hk _ (List.mem_of_getElem? hb), h2, by omega⟩
theorem Waits.below {w w' : World} {top : Nat} {xs : List Sp} {bs : List Nat} (h : Waits w top xs bs) (hl : bs.length ≤ xs.length) (hb : Below w.heap.size w w') : Waits w' top xs bs := h.keep hb.size fun b hm => by
  obtain ⟨j, hj⟩ := List.getElem?_of_mem hm
  obtain ⟨x, hx⟩ := get_some (l := xs) (k := j) (by have := (List.getElem?_eq_some_iff.1 hj).1; omega)
  exact hb.block b (h j x b hx hj).2.2
theorem Waits.snoc {w : World} {top : Nat} {xs : List Sp} {bs : List Nat} {x : Sp} {b : Nat} (h : Waits w top xs bs) (hx : xs[bs.length]? = some x) (hr : Row w (some ⟨b, 0, none⟩) x.vs) (h1 : top < b) (h2 : b < w.heap.size) : Waits w top xs (bs ++ [b]) := fun j y c hy hc => by
  by_cases hj : j < bs.length
  · rw [List.getElem?_append_left hj] at hc
    exact h j y c hy hc
  · rw [List.getElem?_append_right (by omega)] at hc
    have hj2 : j = bs.length := by
      by_cases hz : j - bs.length = 0
      · omega
      · rw [List.getElem?_eq_none (by simp; omega)] at hc; cases hc
    subst hj2
    rw [hx] at hy
    cases hy
    simp at hc
    subst hc
    exact ⟨hr, h1, h2⟩
/-- the store in the box, told as the result -/
theorem Hold.told {w w' : World} {lo ob rb : Nat} {t : St} {A D : Option Addr} {c d : Nat} {W : World} (hH : Hold w lo ob t) (o0 : w.cell? ⟨ob, 0, none⟩ = some (.slice A 4 c)) (o1 : w.cell? ⟨ob, 1, none⟩ = some (.slice D 6 d)) (h4 : t.flash.length = 4) (h6 : t.disk.length = 6) (hr : rb < lo) (hr0 : W.heap.size ≤ rb) 
    (hB : Below W.heap.size W w) (u0 u1 : Value) (hw : w' = (w.setCell ⟨rb, 0, none⟩ u0).setCell ⟨rb, 1, none⟩ u1) :
    ToPost (t, true) W (.returned (.tuple #[.agg #[.slice A 4 c, .slice D 6 d], .bool true])) w' := by
  have hk : ∀ b, lo ≤ b → b < w.heap.size → w'.heap[b]? = w.heap[b]? := fun b hb _ => by
    rw [hw, Below.heap_setCell _ _ _ _ (show b ≠ rb by omega), Below.heap_setCell _ _ _ _ (show b ≠ rb by omega)]
  have hH' := hH.far hk
  have hob : lo ≤ ob := by obtain ⟨_, _, _, _, _, _, _, _, _, h, _⟩ := hH; exact h
  have hh := hk ob hob (lt_of_cell o0)
  obtain ⟨A', c', D', d', hs, p0, p1, _, _, _, hBk, hD, hfb, hdb⟩ := hH'
  have e0 := (World.cell?_of_block (a := ⟨ob, 0, none⟩) hh).trans o0
  have e1 := (World.cell?_of_block (a := ⟨ob, 1, none⟩) hh).trans o1
  rw [p0] at e0
  rw [p1] at e1
  cases e0; cases e1
  refine ⟨A, c, D, d, by dsimp only; rw [h4, h6], ⟨hs, hBk, fun b hb => by have := (hfb b hb).1; omega⟩, hD, fun b hb => by have := (hdb b hb).1; omega, ?_⟩
  rw [hw]
  exact (hB.setCell (p := ⟨rb, 0, none⟩) hr0 _).setCell (p := ⟨rb, 1, none⟩) hr0 _
end Go.Proofs.Ytbekihiiildgmaa
open Go.RowKit Go.IntWalk Go.Maps
namespace Go.Proofs.Ytbekihiiildgmaa
set_option linter.unusedVariables false
set_option linter.unusedSimpArgs false
set_option maxHeartbeats 4000000
set_option maxRecDepth 20000
end Go.Proofs.Ytbekihiiildgmaa
namespace Go.Proofs.Ytbekihiiildgmaa
set_option linter.unusedVariables false
set_option linter.unusedSimpArgs false
open Go.RowKit Go.Maps Go.Shelf
attribute [local go_sem] Oper.semAt_some
set_option maxHeartbeats 400000
def lrStep (a : Int) (o : Rc) (x : PgAt) : Rc := lastStep a o x.2.2
def lrOf (a : Int) (pre : List PgAt) : Rc := pre.foldl (lrStep a) rc0
theorem lrOf_snoc (a : Int) (pre : List PgAt) (x : PgAt) : lrOf a (pre ++ [x]) = lrStep a (lrOf a pre) x := by unfold lrOf; rw [List.foldl_append]; rfl
theorem lr_tag (a : Int) : ∀ (ps : List Pg) (i j : Nat) (o : Rc), (tagFrom i j ps).foldl (lrStep a) o = lastPs a o ps
  | [], _, _, _ => rfl
  | p :: ps, i, j, o => lr_tag a ps i (j + 1) (lastStep a o p)
theorem lr_all (a : Int) : ∀ (f : List Bk) (i : Nat) (o : Rc), (allFrom i f).foldl (lrStep a) o = f.foldl (fun o b => lastPs a o b.pages) o
  | [], _, _ => rfl
  | b :: f, i, o => by
    rw [allFrom, List.foldl_append, lr_tag, lr_all a f]; rfl
theorem lrOf_last (f : List Bk) (a : Int) : lrOf a (allFrom 0 f) = last f a := lr_all a f 0 rc0
def findLast (f : List Bk) (a : Int) : Rc × Bool := if addrB a = true ∧ flashOk f = true then (last f a, decide (0 < (last f a).seq)) else (rc0, false)
def rcA (r : Rc) : Value := .agg #[.int .i64 r.kind, .int .i64 r.seq, .int .i64 r.addr, .int .i64 r.val]
theorem low_of {w : World} {g o n : Nat} {f : List Bk} {hs : List (Option Addr × Nat)} (hBk : Bks w (some ⟨g, o, none⟩) f hs) (h4 : f.length = n + 1) (hp : ∀ b ∈ f, b.pages.length = 4) : ∀ b, fblk (some ⟨g, o, none⟩) hs b → b < w.heap.size := fun b hb => by
  rcases hb with hb | ⟨i, x, hx, hb⟩
  · rw [blk_some] at hb
    subst hb
    obtain ⟨B, hB⟩ := get_some (l := f) (k := 0) (by omega)
    obtain ⟨_, _, c0, _⟩ := hBk.at_ hB
    exact lt_of_cell c0
  · obtain ⟨B, hB⟩ := get_some (l := f) (k := i) (by rw [← hBk.len]; exact (List.getElem?_eq_some_iff.1 hx).1)
    have hr := (hBk.pg i B x hB hx).1
    have hn : B.pages ≠ [] := by intro hn; have := hp B (List.mem_of_getElem? hB); rw [hn] at this; simp at this
    obtain ⟨b', o', he, hc⟩ := hr (pgs_ne hn)
    rw [he, blk_some] at hb
    subst hb
    obtain ⟨q, hq⟩ := get_some (l := pgs B.pages) (k := 0) (by rw [pgs_len]; have := List.length_pos_iff.2 hn; omega)
    exact lt_of_cell (hc 0 q hq).1
set_option maxRecDepth 100000 in
set_option maxHeartbeats 4000000 in
theorem impl_FindLast (f : List Bk) (a : Int) (A : Option Addr) (n c : Nat) (w : World) (hn : n = f.length) (hF : Fl w A f) :
    Calls Try.prog 44 #[.slice A n c, .int .i64 a] w fun e w' => e = .returned (.tuple #[rcA (findLast f a).1, .bool (findLast f a).2]) ∧ Below w.heap.size w w' := by
  subst hn
  refine (callsIn_wide (n := 6)).1 ?_
  refine callsIn_of_wp_marks Try.func44 rfl trivial ?_ rfl
  simp only [Try.ntmps44, List.size_toArray, List.length_cons, List.length_nil, Nat.reduceAdd, Nat.reduceSub, Array.replicate_succ, Array.replicate_zero, List.push_toArray, List.append_toArray, List.nil_append, List.cons_append]
  by_cases ha : addrB a = true
  · have hAc : ∀ w, Hid (Calls Try.prog 87 #[.int .i64 a] w fun e w' => e = .returned (.bool true) ∧ w = w') := fun w => by have := impl_addrOk a w; rw [ha] at this; exact this
    by_cases hok : flashOk f = true
    · have hfin : Hid (findLast f a = (last f a, decide (0 < (last f a).seq))) := by unfold Hid findLast; rw [if_pos ⟨ha, hok⟩]
      have HFL := Lib.hid (flashOk_len hok)
      have HP := Lib.hid (show ∀ b ∈ f, b.pages.length < 1000000000000 from fun b hb => by rw [(flashOk_shape hok b hb).1]; omega)
      have HPL := Lib.hid (fun b hb => (flashOk_shape hok b hb).1)
      obtain ⟨hs, hBk⟩ := hF
      have hFc : ∀ w, Fl w A f → Hid (Calls Try.prog 93 #[.slice A f.length c] w fun e w' => e = .returned (.bool true) ∧ Below w.heap.size w w') := fun w h => by have := impl_FlashOk f A c w h; rw [hok] at this; exact this
      clear ha hok
      gi_wp2_with (first | (refine ⟨trivial, ?_⟩; gi_at_call 87; refine (callsIn_wide.2 (hAc _).out).mono ?_; rintro e w0 ⟨rfl, rfl⟩) | (refine ⟨trivial, ?_⟩; gi_at_call 93; refine (callsIn_wide.2 (hFc _ (Fl.alloc (Fl.alloc ⟨hs, hBk⟩ _) _)).out).mono ?_; rintro e w1 ⟨rfl, hb1⟩; obtain ⟨hc1, hf1⟩ := bcell hb1; have r0 : w1.cell? ⟨w.heap.size + 1, 0, none⟩ = some (.int .i64 0) := (hc1 _ _ (by simp)).trans (by simp); have q0 : w1.frozen? ⟨w.heap.size + 1, 0, none⟩ = false := (hf1 _ _ (by simp)).trans (by simp); have r1 : w1.cell? ⟨w.heap.size + 1, 1, none⟩ = some (.int .i64 0) := (hc1 _ _ (by simp)).trans (by simp); have q1 : w1.frozen? ⟨w.heap.size + 1, 1, none⟩ = false := (hf1 _ _ (by simp)).trans (by simp); have r2 : w1.cell? ⟨w.heap.size + 1, 2, none⟩ = some (.int .i64 0) := (hc1 _ _ (by simp)).trans (by simp); have q2 : w1.frozen? ⟨w.heap.size + 1, 2, none⟩ = false := (hf1 _ _ (by simp)).trans (by simp); have r3 : w1.cell? ⟨w.heap.size + 1, 3, none⟩ = some (.int .i64 0) := (hc1 _ _ (by simp)).trans (by simp); have q3 : w1.frozen? ⟨w.heap.size + 1, 3, none⟩ = false := (hf1 _ _ (by simp)).trans (by simp); have b0 : w1.cell? ⟨w.heap.size, 0, none⟩ = some (.int .i64 a) := (hc1 _ _ (by simp <;> omega)).trans (by simp); have hs1 : w.heap.size + 2 ≤ w1.heap.size := (by have := hb1.size; simp at this; omega); clear hc1 hf1) | (refine ⟨trivial, ?_⟩; gi_at_call 94; refine (eachPage_in Fence.wide _ trivial rfl _ _ _ _).mono ?_; rintro e w2 ⟨rfl, rfl⟩))
      obtain ⟨g, o, rfl⟩ := hBk.addr (by intro e; have := HFL.out; rw [e] at this; simp at this)
      have hlow : ∀ b, fblk (some ⟨g, o, none⟩) hs b → b < w1.heap.size := fun b hb => by have := low_of hBk HFL.out HPL.out b hb; omega
      have hB1 : Below w.heap.size w w1 := Below.trans (by (repeat (first | (with_reducible exact Below.refl _ _) | (with_reducible assumption) | (refine Below.setCell ?_ (by first | omega | exact hB.size | exact hb.size | (have h := hB.size; simp; omega) | (have h := hb.size; simp; omega) | (simp; omega) | simp) _) | (refine Below.alloc ?_ (by first | omega | exact hB.size | exact hb.size | (have h := hB.size; simp; omega) | (have h := hb.size; simp; omega) | (simp; omega) | simp) _) | (refine Below.drew ?_)))) (hb1.mono (by simp; omega))
      clear hb1
      have hBk1 := hBk.below hB1 (Nat.le_refl _)
      have hR0 : Row ((w1.alloc (.cells #[.int .i64 0, .int .i64 0, .int .i64 0, .int .i64 0] 45)).alloc (.cells #[.slice (some ⟨g, o, none⟩) f.length c] 23)) (some ⟨w1.heap.size, 0, none⟩) (lrOf a []).vs := (Row.new w1 #[.int .i64 0, .int .i64 0, .int .i64 0, .int .i64 0] 45).alloc _
      have bA := Boxed.new (w1.alloc (.cells #[.int .i64 0, .int .i64 0, .int .i64 0, .int .i64 0] 45)) 23 (.slice (some ⟨g, o, none⟩) f.length c)
      simp only [World.size_alloc] at bA
      have hB0 : Below w1.heap.size w1 ((w1.alloc (.cells #[.int .i64 0, .int .i64 0, .int .i64 0, .int .i64 0] 45)).alloc (.cells #[.slice (some ⟨g, o, none⟩) f.length c] 23)) := ((Below.refl _ w1).alloc (Nat.le_refl _) _).alloc (by simp) _
      have hsz : ((w1.alloc (.cells #[.int .i64 0, .int .i64 0, .int .i64 0, .int .i64 0] 45)).alloc (.cells #[.slice (some ⟨g, o, none⟩) f.length c] 23)).heap.size = w1.heap.size + 2 := by simp
      have hBk2 := (hBk1.alloc (.cells #[.int .i64 0, .int .i64 0, .int .i64 0, .int .i64 0] 45)).alloc (.cells #[.slice (some ⟨g, o, none⟩) f.length c] 23)
      obtain ⟨W0, hW0⟩ : ∃ W0, (w1.alloc (.cells #[.int .i64 0, .int .i64 0, .int .i64 0, .int .i64 0] 45)).alloc (.cells #[.slice (some ⟨g, o, none⟩) f.length c] 23) = W0 := ⟨_, rfl⟩
      rw [hW0] at bA hB0 hsz hBk2 hR0 ⊢
      have hl4 : f.length < 1000000000000 := by rw [HFL.out]; omega
      clear hW0 hBk hBk1
      refine wpIn_rangeFunc_ownH rfl (by omega) (gf := 141) (lb := #[.pointer (some ⟨w1.heap.size + 1, 0, none⟩)]) rfl trivial (enters_of Try.func141 (by kernel_rfl) rfl)
        (eachPage_stops Fence.wide _ trivial rfl (by omega) (w1.heap.size + 1) w1.heap.size g o c f hs W0 (by omega) (by omega) bA.cell hl4 HP.out hBk2 hlow) belowK_t (belowK_b (by omega)) (Below.refl _ _) (fun _ => rfl)
        (fun pre W => Row W (some ⟨w1.heap.size, 0, none⟩) (lrOf a pre).vs ∧ Below w1.heap.size w1 W)
        (fun _ _ _ => False)
        (OwnFrom.and (fun pre X Y row h hg hr => row_own _ _ _ () X Y row h hg hr) (ownFrom_below (Nat.le_refl _) (by omega)))
        (fun _ _ _ _ _ hs _ _ => hs)
        ⟨hR0, hB0⟩
        (fun x a' W => ∃ Bx, w1.heap.size < Bx ∧ Laid W Bx 119 (pgv x.2.2) ∧ a' = { tmps := #[.slice (some ⟨g, o, none⟩) f.length c, .int .i64 a, undef, .pointer (some ⟨w.heap.size, 0, none⟩), .pointer (some ⟨w.heap.size + 1, 0, none⟩), .bool false, .pointer (some ⟨w1.heap.size, 0, none⟩), undef, .pointer (some ⟨Bx, 0, none⟩), .int .i64 a, .bool true, .bool false, .bool false, .slice (some ⟨g, o, none⟩) f.length c, .bool true, .bool false, .bool false, undef, .slice (some ⟨g, o, none⟩) f.length c, .func (.func 141) #[] #[.pointer (some ⟨w1.heap.size + 1, 0, none⟩)], .agg #[.int .i64 (x.1 : Int), .int .i64 (x.2.1 : Int)], .agg (pgv x.2.2), undef, undef, undef, undef, undef, undef, undef, undef, undef, undef, undef, undef, undef, undef, undef, undef, undef, undef, undef, undef, undef, undef, undef, undef], defers := [] })
        (fun x a' _ X Y row hs hg hr => by obtain ⟨Bx, h1, h2, h3⟩ := hs; exact ⟨Bx, h1, laid_own Bx _ _ _ () X Y row h2 hg hr, h3⟩)
        ?assign ?body ?done ?stop
      case assign =>
        rintro l pre x W K ⟨hR1, hB2⟩ hK
        dsimp only [encP]
        gi_wp2
        have hlt := hR1.lt (by simp [Rc.vs]) (blk_some.2 rfl)
        exact hK _ _ ((KeepsOthers.alloc _ _).from _) ((Below.refl _ W).alloc hB2.size _) ⟨hR1.alloc _, hB2.alloc hB2.size _⟩ ⟨W.heap.size, hlt, World.alloc_heap_new W _, rfl⟩
      case body =>
        rintro l pre x a' W hl ⟨r, hr⟩ ⟨hR1, hB2⟩ ⟨Bx, hBx, bX, rfl⟩ hlt
        have x0 : W.cell? ⟨Bx, 0, none⟩ = some (.int .i64 x.2.2.state) := bX.cell 0 rfl
        have x1 : W.cell? ⟨Bx, 1, none⟩ = some (.int .i64 x.2.2.rc.kind) := bX.cell 1 rfl
        have x2 : W.cell? ⟨Bx, 2, none⟩ = some (.int .i64 x.2.2.rc.seq) := bX.cell 2 rfl
        have x3 : W.cell? ⟨Bx, 3, none⟩ = some (.int .i64 x.2.2.rc.addr) := bX.cell 3 rfl
        have x4 : W.cell? ⟨Bx, 4, none⟩ = some (.int .i64 x.2.2.rc.val) := bX.cell 4 rfl
        have bB := (hB2.cell (p := ⟨w.heap.size, 0, none⟩) (by show w.heap.size < _; omega)).trans b0
        have hst : Hid (lrOf a (pre ++ [x]) = lrStep a (lrOf a pre) x) := lrOf_snoc a pre x
        generalize lrOf a pre = q at *
        obtain ⟨l0, f0⟩ := hR1.at0 (j := 0) rfl
        obtain ⟨l1, f1⟩ := hR1.at0 (j := 1) rfl
        obtain ⟨l2, f2⟩ := hR1.at0 (j := 2) rfl
        obtain ⟨l3, f3⟩ := hR1.at0 (j := 3) rfl
        have hW : Hid (Wrote W ((((W.setCell ⟨w1.heap.size, 0, none⟩ (.int .i64 x.2.2.rc.kind)).setCell ⟨w1.heap.size, 1, none⟩ (.int .i64 x.2.2.rc.seq)).setCell ⟨w1.heap.size, 2, none⟩ (.int .i64 x.2.2.rc.addr)).setCell ⟨w1.heap.size, 3, none⟩ (.int .i64 x.2.2.rc.val)) w1.heap.size 0 x.2.2.rc.vs) := wrote_rec hR1 x.2.2.rc
        have hbad : ∀ P : Prop, (P → False) → (x.2.2.state = 1 ∧ x.2.2.rc.addr = a ∧ q.seq < x.2.2.rc.seq → P) → Hid (lrOf a (pre ++ [x]) = q) := fun P h1 h2 => by
          rw [Hid, hst.out]; unfold lrStep lastStep; rw [if_neg (fun e => h1 (h2 e))]
        by_cases h1 : x.2.2.state = 1
        · by_cases h2 : x.2.2.rc.addr = a
          · by_cases hc : q.seq < x.2.2.rc.seq
            · have hs2 : Hid (lrOf a (pre ++ [x]) = x.2.2.rc) := by rw [Hid, hst.out]; unfold lrStep lastStep; rw [if_pos ⟨h1, h2, hc⟩]
              rw [h1] at x0
              rw [h2] at x3 hW
              clear hst hbad h1
              gi_wp2
              refine ⟨((((KeepsOthers.setCell _ _ _).trans (KeepsOthers.setCell _ _ _)).trans (KeepsOthers.setCell _ _ _)).trans (KeepsOthers.setCell _ _ _)).from _, ((((Below.refl _ W).setCell (p := ⟨w1.heap.size, 0, none⟩) (Nat.le_refl _) _).setCell (p := ⟨w1.heap.size, 1, none⟩) (Nat.le_refl _) _).setCell (p := ⟨w1.heap.size, 2, none⟩) (Nat.le_refl _) _).setCell (p := ⟨w1.heap.size, 3, none⟩) (Nat.le_refl _) _, by rw [hs2.out]; exact hW.out.rec_ hR1, (((hB2.setCell (p := ⟨w1.heap.size, 0, none⟩) (Nat.le_refl _) _).setCell (p := ⟨w1.heap.size, 1, none⟩) (Nat.le_refl _) _).setCell (p := ⟨w1.heap.size, 2, none⟩) (Nat.le_refl _) _).setCell (p := ⟨w1.heap.size, 3, none⟩) (Nat.le_refl _) _⟩
            · have hs2 := hbad _ hc (fun e => e.2.2)
              rw [h1] at x0
              rw [h2] at x3
              clear hst hbad h1 hW
              gi_wp2
              exact ⟨KeepsFrom.refl _ _, Below.refl _ _, by rw [hs2.out]; exact hR1, hB2⟩
          · have hs2 := hbad _ h2 (fun e => e.2.1)
            have h2' : (x.2.2.rc.addr == a) = false := by simpa using h2
            rw [h1] at x0
            clear hst hbad h1 hW
            gi_wp2
            exact ⟨KeepsFrom.refl _ _, Below.refl _ _, by rw [hs2.out]; exact hR1, hB2⟩
        · have hs2 := hbad _ h1 (fun e => e.1)
          have h1' : (x.2.2.state == 1) = false := by simpa using h1
          clear hst hbad hW
          gi_wp2
          exact ⟨KeepsFrom.refl _ _, Below.refl _ _, by rw [hs2.out]; exact hR1, hB2⟩
      case done =>
        rintro D ys W hD rfl ⟨hR1, hB2⟩ hK
        rw [lrOf_last] at hR1
        generalize last f a = q at *
        obtain ⟨l0, f0⟩ := hR1.at0 (j := 0) rfl
        obtain ⟨l1, f1⟩ := hR1.at0 (j := 1) rfl
        obtain ⟨l2, f2⟩ := hR1.at0 (j := 2) rfl
        obtain ⟨l3, f3⟩ := hR1.at0 (j := 3) rfl
        have rr0 := (hB2.cell (p := ⟨w.heap.size + 1, 0, none⟩) (by show w.heap.size + 1 < _; omega)).trans r0
        have rr1 := (hB2.cell (p := ⟨w.heap.size + 1, 1, none⟩) (by show w.heap.size + 1 < _; omega)).trans r1
        have rr2 := (hB2.cell (p := ⟨w.heap.size + 1, 2, none⟩) (by show w.heap.size + 1 < _; omega)).trans r2
        have rr3 := (hB2.cell (p := ⟨w.heap.size + 1, 3, none⟩) (by show w.heap.size + 1 < _; omega)).trans r3
        have qq0 := (hB2.frozen (p := ⟨w.heap.size + 1, 0, none⟩) (by show w.heap.size + 1 < _; omega)).trans q0
        have qq1 := (hB2.frozen (p := ⟨w.heap.size + 1, 1, none⟩) (by show w.heap.size + 1 < _; omega)).trans q1
        have qq2 := (hB2.frozen (p := ⟨w.heap.size + 1, 2, none⟩) (by show w.heap.size + 1 < _; omega)).trans q2
        have qq3 := (hB2.frozen (p := ⟨w.heap.size + 1, 3, none⟩) (by show w.heap.size + 1 < _; omega)).trans q3
        gi_wp2
        gi_region
        gi_wp2
        have hK' : ((((W.setCell ⟨w.heap.size + 1, 0, none⟩ (.int .i64 q.kind)).setCell ⟨w.heap.size + 1, 1, none⟩ (.int .i64 q.seq)).setCell ⟨w.heap.size + 1, 2, none⟩ (.int .i64 q.addr)).setCell ⟨w.heap.size + 1, 3, none⟩ (.int .i64 q.val)).drew.heap[D]? = some (.deferred (some [])) := by
          show ((((W.setCell ⟨w.heap.size + 1, 0, none⟩ (.int .i64 q.kind)).setCell ⟨w.heap.size + 1, 1, none⟩ (.int .i64 q.seq)).setCell ⟨w.heap.size + 1, 2, none⟩ (.int .i64 q.addr)).setCell ⟨w.heap.size + 1, 3, none⟩ (.int .i64 q.val)).heap[D]? = _
          rw [Below.heap_setCell _ _ _ _ (by simp; omega), Below.heap_setCell _ _ _ _ (by simp; omega), Below.heap_setCell _ _ _ _ (by simp; omega), Below.heap_setCell _ _ _ _ (by simp; omega)]
          exact hK
        have hBW : Below w.heap.size w ((((W.setCell ⟨w.heap.size + 1, 0, none⟩ (.int .i64 q.kind)).setCell ⟨w.heap.size + 1, 1, none⟩ (.int .i64 q.seq)).setCell ⟨w.heap.size + 1, 2, none⟩ (.int .i64 q.addr)).setCell ⟨w.heap.size + 1, 3, none⟩ (.int .i64 q.val)).drew := (((((hB1.trans (hB2.mono hB1.size)).setCell (p := ⟨w.heap.size + 1, 0, none⟩) (by show w.heap.size ≤ w.heap.size + 1; omega) _).setCell (p := ⟨w.heap.size + 1, 1, none⟩) (by show w.heap.size ≤ w.heap.size + 1; omega) _).setCell (p := ⟨w.heap.size + 1, 2, none⟩) (by show w.heap.size ≤ w.heap.size + 1; omega) _).setCell (p := ⟨w.heap.size + 1, 3, none⟩) (by show w.heap.size ≤ w.heap.size + 1; omega) _).drew
        have hRow : Row W (some ⟨w.heap.size + 1, 0, none⟩) rc0.vs := fun _ => ⟨_, _, rfl, fun j u hj => by
          match j, hj with
          | 0, hj => simp [Rc.vs, rc0] at hj; subst hj; exact ⟨rr0, qq0⟩
          | 1, hj => simp [Rc.vs, rc0] at hj; subst hj; exact ⟨rr1, qq1⟩
          | 2, hj => simp [Rc.vs, rc0] at hj; subst hj; exact ⟨rr2, qq2⟩
          | 3, hj => simp [Rc.vs, rc0] at hj; subst hj; exact ⟨rr3, qq3⟩
          | n + 4, hj => simp [Rc.vs] at hj⟩
        have hWr : Wrote W ((((W.setCell ⟨w.heap.size + 1, 0, none⟩ (.int .i64 q.kind)).setCell ⟨w.heap.size + 1, 1, none⟩ (.int .i64 q.seq)).setCell ⟨w.heap.size + 1, 2, none⟩ (.int .i64 q.addr)).setCell ⟨w.heap.size + 1, 3, none⟩ (.int .i64 q.val)) (w.heap.size + 1) 0 q.vs := wrote_rec hRow q
        have v0 : ((((W.setCell ⟨w.heap.size + 1, 0, none⟩ (.int .i64 q.kind)).setCell ⟨w.heap.size + 1, 1, none⟩ (.int .i64 q.seq)).setCell ⟨w.heap.size + 1, 2, none⟩ (.int .i64 q.addr)).setCell ⟨w.heap.size + 1, 3, none⟩ (.int .i64 q.val)).drew.cell? ⟨w.heap.size + 1, 0, none⟩ = some (.int .i64 q.kind) := hWr.new_ 0 _ rfl
        have v1 : ((((W.setCell ⟨w.heap.size + 1, 0, none⟩ (.int .i64 q.kind)).setCell ⟨w.heap.size + 1, 1, none⟩ (.int .i64 q.seq)).setCell ⟨w.heap.size + 1, 2, none⟩ (.int .i64 q.addr)).setCell ⟨w.heap.size + 1, 3, none⟩ (.int .i64 q.val)).drew.cell? ⟨w.heap.size + 1, 1, none⟩ = some (.int .i64 q.seq) := hWr.new_ 1 _ rfl
        have v2 : ((((W.setCell ⟨w.heap.size + 1, 0, none⟩ (.int .i64 q.kind)).setCell ⟨w.heap.size + 1, 1, none⟩ (.int .i64 q.seq)).setCell ⟨w.heap.size + 1, 2, none⟩ (.int .i64 q.addr)).setCell ⟨w.heap.size + 1, 3, none⟩ (.int .i64 q.val)).drew.cell? ⟨w.heap.size + 1, 2, none⟩ = some (.int .i64 q.addr) := hWr.new_ 2 _ rfl
        have v3 : ((((W.setCell ⟨w.heap.size + 1, 0, none⟩ (.int .i64 q.kind)).setCell ⟨w.heap.size + 1, 1, none⟩ (.int .i64 q.seq)).setCell ⟨w.heap.size + 1, 2, none⟩ (.int .i64 q.addr)).setCell ⟨w.heap.size + 1, 3, none⟩ (.int .i64 q.val)).drew.cell? ⟨w.heap.size + 1, 3, none⟩ = some (.int .i64 q.val) := hWr.new_ 3 _ rfl
        have hzV : w.heap.size + 1 < ((((W.setCell ⟨w.heap.size + 1, 0, none⟩ (.int .i64 q.kind)).setCell ⟨w.heap.size + 1, 1, none⟩ (.int .i64 q.seq)).setCell ⟨w.heap.size + 1, 2, none⟩ (.int .i64 q.addr)).setCell ⟨w.heap.size + 1, 3, none⟩ (.int .i64 q.val)).drew.heap.size := by have := hB2.size; simp; omega
        refine ⟨by simp, .inl ⟨_, _, rfl, run_takeDeferred hK', ?_⟩⟩
        obtain ⟨V, hV⟩ : ∃ V, ((((W.setCell ⟨w.heap.size + 1, 0, none⟩ (.int .i64 q.kind)).setCell ⟨w.heap.size + 1, 1, none⟩ (.int .i64 q.seq)).setCell ⟨w.heap.size + 1, 2, none⟩ (.int .i64 q.addr)).setCell ⟨w.heap.size + 1, 3, none⟩ (.int .i64 q.val)).drew = V := ⟨_, rfl⟩
        clear hWr
        rw [hV] at hK' hBW v0 v1 v2 v3 hzV ⊢
        have cX : ∀ o, (V.putObj D (.deferred none)).cell? ⟨w.heap.size + 1, o, none⟩ = V.cell? ⟨w.heap.size + 1, o, none⟩ := fun o => World.cell?_of_block (a := ⟨w.heap.size + 1, o, none⟩) (World.putObj_heap_other (by show w.heap.size + 1 ≠ D; omega))
        replace v0 := (cX 0).trans v0
        replace v1 := (cX 1).trans v1
        replace v2 := (cX 2).trans v2
        replace v3 := (cX 3).trans v3
        have hBX := hBW.trans (belowK_b (w := w) (Nat.le_refl _) V D _ (.deferred none) (by omega) hK' rfl rfl)
        have hzX : w.heap.size + 1 < (V.putObj D (.deferred none)).heap.size := by simpa using hzV
        generalize V.putObj D (.deferred none) = X at *
        exact ⟨.tuple #[rcA q, .bool (decide (0 < q.seq))], by simp [results, Try.results44, go_sem, hzX, v0, v1, v2, v3, rcA], by rw [hfin.out], hBX⟩
      case stop =>
        rintro D c pre W _ _ h _
        exact h.elim
    · have hok' : flashOk f = false := by simpa using hok
      have hfin : Hid (findLast f a = (rc0, false)) := by unfold Hid findLast; rw [if_neg (fun e => hok e.2)]
      have hFc : ∀ w, Fl w A f → Hid (Calls Try.prog 93 #[.slice A f.length c] w fun e w' => e = .returned (.bool false) ∧ Below w.heap.size w w') := fun w h => by have := impl_FlashOk f A c w h; rw [hok'] at this; exact this
      clear ha hok hok'
      gi_wp2_with (first | (refine ⟨trivial, ?_⟩; gi_at_call 87; refine (callsIn_wide.2 (hAc _).out).mono ?_; rintro e w0 ⟨rfl, rfl⟩) | (refine ⟨trivial, ?_⟩; gi_at_call 93; refine (callsIn_wide.2 (hFc _ ((hF.alloc _).alloc _)).out).mono ?_; rintro e w1 ⟨rfl, hb1⟩; obtain ⟨hc1, hf1⟩ := bcell hb1; have r0 : w1.cell? ⟨w.heap.size + 1, 0, none⟩ = some (.int .i64 0) := (hc1 _ _ (by simp)).trans (by simp); have q0 : w1.frozen? ⟨w.heap.size + 1, 0, none⟩ = false := (hf1 _ _ (by simp)).trans (by simp); have r1 : w1.cell? ⟨w.heap.size + 1, 1, none⟩ = some (.int .i64 0) := (hc1 _ _ (by simp)).trans (by simp); have q1 : w1.frozen? ⟨w.heap.size + 1, 1, none⟩ = false := (hf1 _ _ (by simp)).trans (by simp); have r2 : w1.cell? ⟨w.heap.size + 1, 2, none⟩ = some (.int .i64 0) := (hc1 _ _ (by simp)).trans (by simp); have q2 : w1.frozen? ⟨w.heap.size + 1, 2, none⟩ = false := (hf1 _ _ (by simp)).trans (by simp); have r3 : w1.cell? ⟨w.heap.size + 1, 3, none⟩ = some (.int .i64 0) := (hc1 _ _ (by simp)).trans (by simp); have q3 : w1.frozen? ⟨w.heap.size + 1, 3, none⟩ = false := (hf1 _ _ (by simp)).trans (by simp); have b0 : w1.cell? ⟨w.heap.size, 0, none⟩ = some (.int .i64 a) := (hc1 _ _ (by simp <;> omega)).trans (by simp); have hs1 : w.heap.size + 2 ≤ w1.heap.size := (by have := hb1.size; simp at this; omega); clear hc1 hf1))
      have hz : w.heap.size + 1 < w1.heap.size := by omega
      have hB1 : Below w.heap.size w w1 := Below.trans (by (repeat (first | (with_reducible exact Below.refl _ _) | (with_reducible assumption) | (refine Below.setCell ?_ (by first | omega | exact hB.size | exact hb.size | (have h := hB.size; simp; omega) | (have h := hb.size; simp; omega) | (simp; omega) | simp) _) | (refine Below.alloc ?_ (by first | omega | exact hB.size | exact hb.size | (have h := hB.size; simp; omega) | (have h := hb.size; simp; omega) | (simp; omega) | simp) _) | (refine Below.drew ?_)))) (hb1.mono (by simp; omega))
      clear hb1
      refine ⟨.tuple #[rcA rc0, .bool false], by simp [results, Try.results44, go_sem, hz, r0, r1, r2, r3, rcA, rc0], by rw [hfin.out], ?_⟩
      (repeat (first | (with_reducible exact Below.refl _ _) | (with_reducible assumption) | (refine Below.setCell ?_ (by first | omega | exact hB.size | exact hb.size | (have h := hB.size; simp; omega) | (have h := hb.size; simp; omega) | (simp; omega) | simp) _) | (refine Below.alloc ?_ (by first | omega | exact hB.size | exact hb.size | (have h := hB.size; simp; omega) | (have h := hb.size; simp; omega) | (simp; omega) | simp) _) | (refine Below.drew ?_)))
  · have ha' : addrB a = false := by simpa using ha
    have hfin : Hid (findLast f a = (rc0, false)) := by unfold Hid findLast; rw [if_neg (fun e => ha e.1)]
    have hAc : ∀ w, Hid (Calls Try.prog 87 #[.int .i64 a] w fun e w' => e = .returned (.bool false) ∧ w = w') := fun w => by have := impl_addrOk a w; rw [ha'] at this; exact this
    clear ha ha'
    gi_wp2_with (first | (refine ⟨trivial, ?_⟩; gi_at_call 87; refine (callsIn_wide.2 (hAc _).out).mono ?_; rintro e w1 ⟨rfl, rfl⟩) | (refine ⟨trivial, ?_⟩))
    refine ⟨.tuple #[rcA rc0, .bool false], by simp [results, Try.results44, go_sem, rcA, rc0], by rw [hfin.out], ?_⟩
    (repeat (first | (with_reducible exact Below.refl _ _) | (with_reducible assumption) | (refine Below.setCell ?_ (by first | omega | exact hB.size | exact hb.size | (have h := hB.size; simp; omega) | (have h := hb.size; simp; omega) | (simp; omega) | simp) _) | (refine Below.alloc ?_ (by first | omega | exact hB.size | exact hb.size | (have h := hB.size; simp; omega) | (have h := hb.size; simp; omega) | (simp; omega) | simp) _) | (refine Below.drew ?_)))
end Go.Proofs.Ytbekihiiildgmaa
