/- Walks: the reference's steps: write, flush, fill. -/
import Derived.Test.YtlchlhjjoddocaaG7
import Derived.Test.YtlchlhjjoddocaaS
namespace Go.Proofs.Ytlchlhjjoddocaa
set_option linter.unusedVariables false
set_option linter.unusedSimpArgs false
open Go.RowKit Go.Maps
set_option maxHeartbeats 400000
set_option maxHeartbeats 4000000 in
set_option maxRecDepth 100000 in
theorem spec_l12Write (f : List Bk) (kind addr val : Int) (A D : Option Addr) (c m d : Nat) (w : World) (hf : f.length = 4) (hp : ∀ b ∈ f, b.pages.length = 4) (hm : ∀ b ∈ f, most b < 1000000000000) (hF : Fl w A f) :
    Calls Try.prog 68 #[.agg #[.slice A 4 c, .slice D m d], .int .i64 kind, .int .i64 addr, .int .i64 val] w fun e w' => ∃ v, e = .returned v ∧ OwnS w' w.heap.size v (wr f kind addr val) ∧ Below w.heap.size w w' := by
  obtain ⟨ib, hib, hbz0, hbz1, hbz2⟩ := info_parts Try.info3_step
  have HL := Lib.hid hf
  have HP4 := Lib.hid hp
  have HM := Lib.hid hm
  have hl4 : f.length < 1000000000000 := by omega
  have HP := Lib.hid (show ∀ b ∈ f, b.pages.length < 1000000000000 from fun b hb => by rw [hp b hb]; omega)
  have hfin : Hid (wr f kind addr val = if (room f).2.2 = false ∨ recOk ⟨kind, next f, addr, val⟩ = false then [] else (room f).1 ++ [⟨3, 0, 0, (room f).2.1, ⟨kind, next f, addr, val⟩⟩]) := rfl
  have hrl : (room f).1.length ≤ 5 := room_len hf hp
  clear hf hp hm
  go_enter Try.func68, Try.ntmps68
  go_wp2_with fail
  refine (spec_l3Next' _ f A c _ HL.out.symm hl4 HP.out HM.out (hF.alloc _)).mono ?_
  rintro e w1 ⟨rfl, hb⟩
  have hB : Below w.heap.size w w1 := Below.trans (by (repeat (first | (with_reducible exact Below.refl _ _) | (with_reducible assumption) | (refine Below.setCell ?_ (by first | omega | exact hB.size | exact hb.size | (have h := hB.size; simp; omega) | (have h := hb.size; simp; omega) | (simp; omega) | simp) _) | (refine Below.alloc ?_ (by first | omega | exact hB.size | exact hb.size | (have h := hB.size; simp; omega) | (have h := hb.size; simp; omega) | (simp; omega) | simp) _) | (refine Below.drew ?_)))) (hb.mono (by simp))
  have hz : w.heap.size < w1.heap.size := by have := hb.size; simp at this; omega
  obtain ⟨hc, hfz⟩ := bcell hb
  have x0 : w1.cell? ⟨w.heap.size, 0, none⟩ = some (.slice A 4 c) := (hc _ _ (by simp)).trans (by simp)
  have x1 : w1.cell? ⟨w.heap.size, 1, none⟩ = some (.slice D m d) := (hc _ _ (by simp)).trans (by simp)
  clear hb hc hfz
  generalize next f = nx at *
  go_wp2_with fail
  refine (spec_l12Room f A D c m d _ HL.out HP4.out ((hF.below hB (Nat.le_refl _)).alloc _)).mono ?_
  rintro e w2 ⟨v, rfl, hO, hb2⟩
  obtain ⟨hc, hfz⟩ := bcell hb2
  have r0 : w2.cell? ⟨w1.heap.size, 0, none⟩ = some (.int .i64 kind) := (hc _ _ (by simp)).trans (by simp)
  have r1 : w2.cell? ⟨w1.heap.size, 1, none⟩ = some (.int .i64 nx) := (hc _ _ (by simp)).trans (by simp)
  have r2 : w2.cell? ⟨w1.heap.size, 2, none⟩ = some (.int .i64 addr) := (hc _ _ (by simp)).trans (by simp)
  have r3 : w2.cell? ⟨w1.heap.size, 3, none⟩ = some (.int .i64 val) := (hc _ _ (by simp)).trans (by simp)
  have hB2 : Below w.heap.size w w2 := (hB.alloc hB.size _).trans (hb2.mono (by simp; omega))
  have hz2 : w1.heap.size + 1 ≤ w2.heap.size := by have := hb2.size; simpa using this
  replace hO := hO.mono (base' := w1.heap.size) (by simp)
  clear hb2 hc hfz x0 x1 hB
  generalize room f = rm at *
  obtain ⟨xs, bi, ok⟩ := rm
  dsimp only at *
  cases ok
  · have h3 : Hid (wr f kind addr val = []) := by rw [Hid, hfin.out, if_pos (.inl rfl)]
    go_wp2
    go_ret
    rw [h3.out]
    exact ⟨_, rfl, OwnS.nil _ _ (by omega), by (repeat (first | (with_reducible exact Below.refl _ _) | (with_reducible assumption) | (refine Below.setCell ?_ (by first | omega | exact hB.size | exact hb.size | (have h := hB.size; simp; omega) | (have h := hb.size; simp; omega) | (simp; omega) | simp) _) | (refine Below.alloc ?_ (by first | omega | exact hB.size | exact hb.size | (have h := hB.size; simp; omega) | (have h := hb.size; simp; omega) | (simp; omega) | simp) _) | (refine Below.drew ?_)))⟩
  · go_wp2_with fail
    refine (spec_RecOk ⟨kind, nx, addr, val⟩ _).mono ?_
    rintro e w3 ⟨rfl, hb3⟩
    obtain ⟨hc, hfz⟩ := bcell hb3
    replace r0 := (hc _ _ (lt_of_cell r0)).trans r0
    replace r1 := (hc _ _ (lt_of_cell r1)).trans r1
    replace r2 := (hc _ _ (lt_of_cell r2)).trans r2
    replace r3 := (hc _ _ (lt_of_cell r3)).trans r3
    have hB3 := hB2.trans (hb3.mono hB2.size)
    have hz3 := hb3.size
    have hO3 := hO.below hb3 (Nat.le_refl _)
    clear hO hc hfz hb3
    by_cases hok : recOk ⟨kind, nx, addr, val⟩ = true
    · have h3 : Hid (wr f kind addr val = xs ++ [⟨3, 0, 0, bi, ⟨kind, nx, addr, val⟩⟩]) := by
        rw [Hid, hfin.out, if_neg (by intro h; rcases h with h | h; cases h; rw [hok] at h; cases h)]
      rw [hok]
      have hO4 := hO3.below ((Below.refl w3.heap.size _).alloc (Nat.le_refl _) (.cells #[.int .i64 3, .int .i64 0, .int .i64 0, .int .i64 bi, .int .i64 kind, .int .i64 nx, .int .i64 addr, .int .i64 val] 107)) (Nat.le_refl _)
      have hnb : ∀ q, v.ownBlock = some q → w1.heap.size ≤ q := fun q e => (World.ownsRow.lt hO3 q e).1
      clear hfin
      go_wp2_with (at_builtin; refine wpList_append_lies _ rfl (.tmp 34) (.tmp 38) _ rfl w1.heap.size 107 ib _ 8 64 Try.underlying102 hib hbz0 hbz1 hbz2 rfl (by omega) v xs.length (sps xs) rfl hO4 ⟨w3.heap.size, 0, none⟩ 1 1 (⟨3, 0, 0, bi, ⟨kind, nx, addr, val⟩⟩ : Sp).vs rfl rfl (World.news_of_block (cs := #[.int .i64 3, .int .i64 0, .int .i64 0, .int .i64 bi, .int .i64 kind, .int .i64 nx, .int .i64 addr, .int .i64 val]) (t := 107) (fr := (0, 0)) (heap_alloc_new w3 _)) (by simp [Value.oneCell', Sp.vs]) (by omega) (by unfold maxLen; omega) (by omega) (by simp; omega) (w3.heap.size + 1) (by simp) ?_; intro g2 c2 w4 hown2 hgrow2 hat2 hlt2)
      have hbb : Below w1.heap.size w3 w4 := ((Below.refl _ _).alloc (by omega) _).grown hgrow2 (by simp; omega) hnb
      have hOS := OwnS.snoc (x := ⟨3, 0, 0, bi, ⟨kind, nx, addr, val⟩⟩) rfl hown2
      go_ret
      rw [h3.out]
      exact ⟨_, rfl, hOS.mono (by omega), hB3.trans (hbb.mono (by omega))⟩
    · have hok' : recOk ⟨kind, nx, addr, val⟩ = false := by simpa using hok
      have h3 : Hid (wr f kind addr val = []) := by rw [Hid, hfin.out, if_pos (.inr hok')]
      rw [hok']
      go_wp2
      go_ret
      rw [h3.out]
      exact ⟨_, rfl, OwnS.nil _ _ (by omega), by (repeat (first | (with_reducible exact Below.refl _ _) | (with_reducible assumption) | (refine Below.setCell ?_ (by first | omega | exact hB.size | exact hb.size | (have h := hB.size; simp; omega) | (have h := hb.size; simp; omega) | (simp; omega) | simp) _) | (refine Below.alloc ?_ (by first | omega | exact hB.size | exact hb.size | (have h := hB.size; simp; omega) | (have h := hb.size; simp; omega) | (simp; omega) | simp) _) | (refine Below.drew ?_)))⟩
end Go.Proofs.Ytlchlhjjoddocaa
