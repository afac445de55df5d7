/- Walks: the statements' own comparing functions: what is alike is told alike. Walks: the statements' own comparing functions. -/
import Derived.Test.YtfkjhnfbajflaaaC2
import Derived.Deep.RegionHeld3
import Derived.BigQuiet
namespace Go.Proofs.Ytfkjhnfbajflaaa
set_option linter.unusedVariables false
set_option linter.unusedSimpArgs false
open Go.RowKit Go.Maps
set_option maxHeartbeats 400000
theorem Below.drewN' (B : Nat) (w : World) (n : Nat) : Below B w (w.drewN n) := ⟨rfl, rfl, rfl, Nat.le_refl _, fun _ _ => rfl⟩
theorem laws_lqPages (A A' : Option Addr) (n c c' : Nat) (ps : List Pg) (w : World) (hn : n = ps.length) (hl : ps.length < 1000000000000) (hR : Row w A (pgs ps)) (hR' : Row w A' (pgs ps)) :
    Calls Try.prog 59 #[.slice A n c, .slice A' n c'] w fun e w' => e = .returned (.bool true) ∧ Below w.heap.size w w' := by
  subst hn
  go_enter Try.func59, Try.ntmps59
  go_wp2
  go_loopw [5] (fun i wr => ∃ (k : Nat), k ≤ ps.length ∧ i = .int .i64 k ∧ Below w.heap.size w wr) (fun i _ => ps.length - (intOf i).toNat)
  case atStart => exact ⟨0, by omega, rfl, Below.refl _ _⟩
  case round =>
    obtain ⟨k, hk, rfl, hb⟩ := hrel
    by_cases hlt : k < ps.length
    · obtain ⟨p, hp⟩ := get_some hlt
      obtain ⟨b, o, rfl⟩ := hR.addr (pgs_ne (by rintro rfl; simp at hlt))
      obtain ⟨b', o', rfl⟩ := hR'.addr (pgs_ne (by rintro rfl; simp at hlt))
      have hRk := hR.below hb (Nat.le_refl _)
      have hRk' := hR'.below hb (Nat.le_refl _)
      obtain ⟨c0, c1, c2, c3, c4⟩ := hRk.pg hp
      obtain ⟨d0, d1, d2, d3, d4⟩ := hRk'.pg hp
      have hk1 : (k : Int) < ps.length := by omega
      have HP := Lib.hid hp
      clear hp
      go_wp2
      go_quiet (fail)
      have hb2 : Below w.heap.size w (wr.drewN nq) := Below.trans hb (Below.drewN' _ _ _)
      go_wp2
      go_roundw
      case rel => exact ⟨k + 1, by omega, by go_num, hb2⟩
      case measure => simp [intOf]; omega
    · obtain rfl : k = ps.length := by omega
      go_wp2
      go_ret
      exact ⟨rfl, hb⟩
set_option maxHeartbeats 4000000 in
theorem laws_lqFlash (A A' : Option Addr) (n m c c' : Nat) (f : List Bk) (w : World) (hn : n = f.length) (hm : m = f.length) (hl : f.length < 1000000000000) (hp : ∀ b ∈ f, b.pages.length < 1000000000000) (hF : Fl w A f) (hF' : Fl w A' f) :
    Calls Try.prog 31 #[.slice A n c, .slice A' m c'] w fun e w' => e = .returned (.bool true) ∧ Below w.heap.size w w' := by
  subst hn
  subst hm
  obtain ⟨hs, hF⟩ := hF
  obtain ⟨ks, hF'⟩ := hF'
  have HP := Lib.hid hp
  clear hp
  go_enter Try.func31, Try.ntmps31
  go_wp2
  go_loopw [5] (fun i wr => ∃ (k : Nat), k ≤ f.length ∧ i = .int .i64 k ∧ Below w.heap.size w wr) (fun i _ => f.length - (intOf i).toNat)
  case atStart => exact ⟨0, by omega, rfl, Below.refl _ _⟩
  case round =>
    obtain ⟨k, hk, rfl, hb⟩ := hrel
    by_cases hlt : k < f.length
    · obtain ⟨p, hp⟩ := get_some hlt
      have hpl := HP.out p (List.mem_of_getElem? hp)
      obtain ⟨b, o, rfl⟩ := hF.addr (by rintro rfl; simp at hlt)
      obtain ⟨b', o', rfl⟩ := hF'.addr (by rintro rfl; simp at hlt)
      have hFk := hF.below hb (Nat.le_refl _)
      have hFk' := hF'.below hb (Nat.le_refl _)
      obtain ⟨⟨Ap, cp⟩, _, c0, c1, _, _, hRp, _⟩ := hFk.at_ hp
      obtain ⟨⟨Aq, cq⟩, _, d0, d1, _, _, hRq, _⟩ := hFk'.at_ hp
      have hk1 : (k : Int) < f.length := by omega
      dsimp only at *
      have hbb := lt_of_cell c0
      have hbb' := lt_of_cell d0
      clear hp
      go_wp2
      go_region_held3 (fun w' => w'.cell? ⟨b, o + k * 2, none⟩ = some (.slice Ap p.pages.length cp) ∧ w'.cell? ⟨b, o + k * 2 + 1, none⟩ = some (.int .i64 p.worn) ∧ w'.cell? ⟨b', o' + k * 2, none⟩ = some (.slice Aq p.pages.length cq) ∧ w'.cell? ⟨b', o' + k * 2 + 1, none⟩ = some (.int .i64 p.worn))
        (first | go_keep | trivial)
        (first | (go_at_call 59; refine (laws_lqPages Ap Aq _ cp cq p.pages _ rfl hpl hRp.drew hRq.drew).mono ?_; rintro e w1 ⟨rfl, hb1⟩; replace hb1 := undrew hb1; have e0 := (hb1.cell (p := ⟨b, o + k * 2, none⟩) hbb).trans c0; have e1 := (hb1.cell (p := ⟨b, o + k * 2 + 1, none⟩) hbb).trans c1; have g0 := (hb1.cell (p := ⟨b', o' + k * 2, none⟩) hbb').trans d0; have g1 := (hb1.cell (p := ⟨b', o' + k * 2 + 1, none⟩) hbb').trans d1))
      have hB1 := hb.trans (hb1.mono hb.size)
      go_wp2
      go_roundw
      case rel => exact ⟨k + 1, by omega, by go_num, hB1⟩
      case measure => simp [intOf]; omega
    · obtain rfl : k = f.length := by omega
      go_wp2
      go_ret
      exact ⟨rfl, hb⟩
/-- all blocks but one are alike -/
def others (f g : List Bk) (k : Int) : Prop := f.length = g.length ∧ ∀ j : Nat, (j : Int) ≠ k → f[j]? = g[j]?
end Go.Proofs.Ytfkjhnfbajflaaa
namespace Go.Proofs.Ytfkjhnfbajflaaa
set_option linter.unusedVariables false
set_option linter.unusedSimpArgs false
open Go.RowKit Go.Maps
set_option maxHeartbeats 400000
theorem eq_drop {α : Type} [DecidableEq α] {l m : List α} {k : Nat} {x y : α} (hx : l[k]? = some x) (hy : m[k]? = some y) : decide (l.drop k = m.drop k) = (decide (x = y) && decide (l.drop (k + 1) = m.drop (k + 1))) := by
  rw [drop_cons hx, drop_cons hy, Bool.eq_iff_iff]
  simp
end Go.Proofs.Ytfkjhnfbajflaaa
