/- Walks: rows of pages, copies of a flash. -/
import Derived.Test.YtlchlhjjoddocaaB
import Derived.Deep.RegionHeld3
import Derived.StillTailTactics
namespace Go.Proofs.Ytlchlhjjoddocaa
set_option linter.unusedVariables false
set_option linter.unusedSimpArgs false
open Go.RowKit Go.Maps
set_option maxHeartbeats 400000
/-- a page stored: five cells -/
theorem wrote_page {w : World} {b o k : Nat} {ps : List Pg} {q : Pg} (h : Row w (some ⟨b, o, none⟩) (pgs ps)) (hk : ps[k]? = some q) (p : Pg) :
    Wrote w (((((w.setCell ⟨b, o + k * 5, none⟩ (.int .i64 p.state)).setCell ⟨b, o + k * 5 + 1, none⟩ (.int .i64 p.rc.kind)).setCell ⟨b, o + k * 5 + 2, none⟩ (.int .i64 p.rc.seq)).setCell ⟨b, o + k * 5 + 3, none⟩ (.int .i64 p.rc.addr)).setCell ⟨b, o + k * 5 + 4, none⟩ (.int .i64 p.rc.val)) b (o + k * 5) p.vs := by
  refine wrote_setRow b p.vs (o + k * 5) w fun j hj => ?_
  obtain ⟨c0, c1, c2, c3, c4⟩ := h.pg hk
  match j, hj with
  | 0, _ => exact ⟨_, c0⟩
  | 1, _ => exact ⟨_, c1⟩
  | 2, _ => exact ⟨_, c2⟩
  | 3, _ => exact ⟨_, c3⟩
  | 4, _ => exact ⟨_, c4⟩
theorem Row.setPage {w w' : World} {b o k : Nat} {ps : List Pg} {p : Pg} (h : Row w (some ⟨b, o, none⟩) (pgs ps)) (hk : k < ps.length) (hw : Wrote w w' b (o + k * 5) p.vs) : Row w' (some ⟨b, o, none⟩) (pgs (ps.set k p)) := by
  rw [pgs_set ps k p hk]
  exact hw.row h (by rw [pgs_len]; simp [Pg.vs]; omega)

theorem fill_step {α : Type} (p : α) (old : List α) (k : Nat) (h : k < old.length) : (List.replicate k p ++ old.drop k).set k p = List.replicate (k + 1) p ++ old.drop (k + 1) := by
  rw [List.set_append_right _ _ (by simp), List.length_replicate, Nat.sub_self, List.drop_eq_getElem_cons h, List.set_cons_zero, List.replicate_succ']
  simp
theorem impl_fill (b : Nat) (old : List Pg) (p : Pg) (w : World) (hl : old.length = 4) (hR : Row w (some ⟨b, 0, none⟩) (pgs old)) :
    Calls Try.prog 54 #[.pointer (some ⟨b, 0, none⟩), .agg #[.int .i64 p.state, .int .i64 p.rc.kind, .int .i64 p.rc.seq, .int .i64 p.rc.addr, .int .i64 p.rc.val]] w fun e w' =>
      e = .returned (.tuple #[]) ∧ Row w' (some ⟨b, 0, none⟩) (pgs (List.replicate 4 p)) ∧ Agr (· = b) w w' := by
  have hbl : b < w.heap.size := hR.lt (pgs_ne (by rintro rfl; simp at hl)) rfl
  have HL := Lib.hid hl
  clear hl
  obtain ⟨st, ⟨kd, sq, ad, vl⟩⟩ := p
  dsimp only
  go_enter Try.func54, Try.ntmps54
  go_wp2
  go_loopw [5] (fun i wr => ∃ (k : Nat), k ≤ 4 ∧ i = .int .i64 k ∧ Row wr (some ⟨b, 0, none⟩) (pgs (List.replicate k ⟨st, ⟨kd, sq, ad, vl⟩⟩ ++ old.drop k)) ∧ Agr (· = b) (w.alloc (.cells #[.int .i64 st, .int .i64 kd, .int .i64 sq, .int .i64 ad, .int .i64 vl] 42)) wr) (fun i _ => 4 - (intOf i).toNat)
  case atStart => exact ⟨0, by omega, rfl, by simpa using hR.alloc _, Agr.refl _ _⟩
  case round =>
    obtain ⟨k, hk, rfl, hr, hA⟩ := hrel
    by_cases hlt : k < 4
    · have hlen := HL.out
      obtain ⟨q, hq⟩ := get_some (l := List.replicate k (⟨st, ⟨kd, sq, ad, vl⟩⟩ : Pg) ++ old.drop k) (k := k) (by simp; omega)
      have hbox : ∀ i, wr.cell? ⟨w.heap.size, i, none⟩ = (w.alloc (.cells #[.int .i64 st, .int .i64 kd, .int .i64 sq, .int .i64 ad, .int .i64 vl] 42)).cell? ⟨w.heap.size, i, none⟩ := fun i =>
        hA.cell (by simp) (by omega) i
      have b0 : wr.cell? ⟨w.heap.size, 0, none⟩ = some (.int .i64 st) := (hbox 0).trans (by simp)
      have b1 : wr.cell? ⟨w.heap.size, 1, none⟩ = some (.int .i64 kd) := (hbox 1).trans (by simp)
      have b2 : wr.cell? ⟨w.heap.size, 2, none⟩ = some (.int .i64 sq) := (hbox 2).trans (by simp)
      have b3 : wr.cell? ⟨w.heap.size, 3, none⟩ = some (.int .i64 ad) := (hbox 3).trans (by simp)
      have b4 : wr.cell? ⟨w.heap.size, 4, none⟩ = some (.int .i64 vl) := (hbox 4).trans (by simp)
      obtain ⟨c0, c1, c2, c3, c4⟩ := hr.pg hq
      obtain ⟨f0, f1, f2, f3, f4⟩ := hr.pgf hq
      have hW := wrote_page hr hq ⟨st, ⟨kd, sq, ad, vl⟩⟩
      rw [Nat.zero_add] at c0 c1 c2 c3 c4 f0 f1 f2 f3 f4
      clear hbox hq hlen
      go_wp2
      go_region
      go_wp2
      go_roundw
      case rel =>
        refine ⟨k + 1, by omega, by go_num, ?_, ?_⟩
        · have := hr.setPage (k := k) (by have := HL.out; simp; omega) hW
          rw [Nat.zero_add, fill_step _ _ _ (by have := HL.out; omega)] at this
          exact this.drew
        · rw [Nat.zero_add] at hW
          exact (hA.trans hW.agr (fun _ _ h => h)).drew
      case measure => simp [intOf]; omega
    · obtain rfl : k = 4 := by omega
      go_wp2
      go_end0
      refine ⟨rfl, ?_, ?_⟩
      · rw [show old.drop 4 = [] from List.drop_of_length_le (by have := HL.out; omega), List.append_nil] at hr; exact hr
      · exact ((Agr.refl _ _).alloc _).trans hA (fun _ _ h => h)

theorem impl_pagesOf (p : Pg) (w : World) :
    Calls Try.prog 36 #[.agg #[.int .i64 p.state, .int .i64 p.rc.kind, .int .i64 p.rc.seq, .int .i64 p.rc.addr, .int .i64 p.rc.val]] w fun e w' =>
      ∃ b, e = .returned (.slice (some ⟨b, 0, none⟩) 4 4) ∧ w.heap.size ≤ b ∧ b < w'.heap.size ∧ Row w' (some ⟨b, 0, none⟩) (pgs (List.replicate 4 p)) ∧ Below w.heap.size w w' := by
  obtain ⟨st, ⟨kd, sq, ad, vl⟩⟩ := p
  dsimp only
  go_enter Try.func36, Try.ntmps36
  go_wp2_with fail
  have hb0 : Below w.heap.size w ((w.alloc (.cells #[.int .i64 st, .int .i64 kd, .int .i64 sq, .int .i64 ad, .int .i64 vl] 42)).alloc (.cells #[.int .i64 0, .int .i64 0, .int .i64 0, .int .i64 0, .int .i64 0, .int .i64 0, .int .i64 0, .int .i64 0, .int .i64 0, .int .i64 0, .int .i64 0, .int .i64 0, .int .i64 0, .int .i64 0, .int .i64 0, .int .i64 0, .int .i64 0, .int .i64 0, .int .i64 0, .int .i64 0] 85)) := ((Below.refl _ _).alloc (Nat.le_refl _) _).alloc (by simp) _
  have hsz : ∀ (W : World) (o : Obj), (W.alloc o).heap.size = W.heap.size + 1 := fun W o => by simp
  have hsz2 := Lib.hid (hsz (w.alloc (.cells #[.int .i64 st, .int .i64 kd, .int .i64 sq, .int .i64 ad, .int .i64 vl] 42)) (.cells #[.int .i64 0, .int .i64 0, .int .i64 0, .int .i64 0, .int .i64 0, .int .i64 0, .int .i64 0, .int .i64 0, .int .i64 0, .int .i64 0, .int .i64 0, .int .i64 0, .int .i64 0, .int .i64 0, .int .i64 0, .int .i64 0, .int .i64 0, .int .i64 0, .int .i64 0, .int .i64 0] 85))
  clear hsz
  refine (impl_fill (w.heap.size + 1) (List.replicate 4 ⟨0, rc0⟩) ⟨st, ⟨kd, sq, ad, vl⟩⟩ _ rfl ?_).mono ?_
  · have := Row.new (w.alloc (.cells #[.int .i64 st, .int .i64 kd, .int .i64 sq, .int .i64 ad, .int .i64 vl] 42)) #[.int .i64 0, .int .i64 0, .int .i64 0, .int .i64 0, .int .i64 0, .int .i64 0, .int .i64 0, .int .i64 0, .int .i64 0, .int .i64 0, .int .i64 0, .int .i64 0, .int .i64 0, .int .i64 0, .int .i64 0, .int .i64 0, .int .i64 0, .int .i64 0, .int .i64 0, .int .i64 0] 85
    rw [World.size_alloc] at this
    exact this
  · rintro e w1 ⟨rfl, hR, hA⟩
    have hB1 : Below w.heap.size w w1 := hb0.trans (hA.below (by simp; omega) (by rintro i rfl; omega))
    have hs1 : w.heap.size + 1 < w1.heap.size := by have := hA.size; rw [hsz2.out, World.size_alloc] at this; omega
    clear hA hb0 hsz2
    go_wp2
    go_ret
    exact ⟨_, rfl, by omega, hs1, hR, hB1⟩

theorem oneCell_pgs (ps : List Pg) : ∀ v ∈ pgs ps, v.oneCell' = true := by
  intro v hv
  simp only [pgs, List.mem_flatMap] at hv
  obtain ⟨p, _, hp⟩ := hv
  simp only [Pg.vs, List.mem_cons, List.not_mem_nil, or_false] at hp
  rcases hp with rfl | rfl | rfl | rfl | rfl <;> rfl
theorem Try.info_page : (Try.prog.info? 42).map (·.size) = some 5 := by kernel_rfl
theorem impl_pagesCopy (A : Option Addr) (c : Nat) (ps : List Pg) (w : World) (hl : ps.length = 4) (hR : Row w A (pgs ps)) :
    Calls Try.prog 53 #[.slice A 4 c] w fun e w' =>
      ∃ b, e = .returned (.slice (some ⟨b, 0, none⟩) 4 4) ∧ w.heap.size ≤ b ∧ b < w'.heap.size ∧ Row w' (some ⟨b, 0, none⟩) (pgs ps) ∧ Below w.heap.size w w' := by
  obtain ⟨pb, po, rfl⟩ := hR.addr (pgs_ne (by rintro rfl; simp at hl))
  have HL := Lib.hid hl
  clear hl
  have hlen : (pgs ps).length = 20 := by rw [pgs_len, HL.out]
  have hR0 : Row (w.alloc (.cells #[.int .i64 0, .int .i64 0, .int .i64 0, .int .i64 0, .int .i64 0, .int .i64 0, .int .i64 0, .int .i64 0, .int .i64 0, .int .i64 0, .int .i64 0, .int .i64 0, .int .i64 0, .int .i64 0, .int .i64 0, .int .i64 0, .int .i64 0, .int .i64 0, .int .i64 0, .int .i64 0] 85)) (some ⟨w.heap.size, 0, none⟩) (pgs (List.replicate 4 ⟨0, rc0⟩)) := Row.new w #[.int .i64 0, .int .i64 0, .int .i64 0, .int .i64 0, .int .i64 0, .int .i64 0, .int .i64 0, .int .i64 0, .int .i64 0, .int .i64 0, .int .i64 0, .int .i64 0, .int .i64 0, .int .i64 0, .int .i64 0, .int .i64 0, .int .i64 0, .int .i64 0, .int .i64 0, .int .i64 0] _
  obtain ⟨b', o', he, hc⟩ := hR0 (by simp [pgs, Pg.vs])
  cases he
  have hg : ∀ j, j < 20 → ∃ u, (pgs (List.replicate 4 ⟨0, rc0⟩))[j]? = some u := fun j hj => get_some (by rw [pgs_len]; simpa using hj)
  obtain ⟨b', o', he, hc'⟩ := (hR.alloc (.cells #[.int .i64 0, .int .i64 0, .int .i64 0, .int .i64 0, .int .i64 0, .int .i64 0, .int .i64 0, .int .i64 0, .int .i64 0, .int .i64 0, .int .i64 0, .int .i64 0, .int .i64 0, .int .i64 0, .int .i64 0, .int .i64 0, .int .i64 0, .int .i64 0, .int .i64 0, .int .i64 0] 85)) (by intro e; rw [e] at hlen; simp at hlen)
  cases he
  have hcp := run_copy_n (P := Try.prog) (w.alloc (.cells #[.int .i64 0, .int .i64 0, .int .i64 0, .int .i64 0, .int .i64 0, .int .i64 0, .int .i64 0, .int .i64 0, .int .i64 0, .int .i64 0, .int .i64 0, .int .i64 0, .int .i64 0, .int .i64 0, .int .i64 0, .int .i64 0, .int .i64 0, .int .i64 0, .int .i64 0, .int .i64 0] 85)) 34 34 3 42 5 w.heap.size 0 4 4 ⟨pb, po, none⟩ 4 c 4 (pgs ps) Try.underlying34 Try.info_page rfl hlen
    (fun j v hj => by rw [addr_add]; exact (hc' j v hj).1) (fun j hj => by obtain ⟨u, hu⟩ := hg j (by omega); rw [(hc j u hu).1]; rfl) (fun j hj => by obtain ⟨u, hu⟩ := hg j (by omega); exact (hc j u hu).2) (oneCell_pgs ps)
  have hW := wrote_setRow w.heap.size (pgs ps) 0 (w.alloc (.cells #[.int .i64 0, .int .i64 0, .int .i64 0, .int .i64 0, .int .i64 0, .int .i64 0, .int .i64 0, .int .i64 0, .int .i64 0, .int .i64 0, .int .i64 0, .int .i64 0, .int .i64 0, .int .i64 0, .int .i64 0, .int .i64 0, .int .i64 0, .int .i64 0, .int .i64 0, .int .i64 0] 85)) (fun j hj => by obtain ⟨u, hu⟩ := hg j (by omega); exact ⟨u, (hc j u hu).1⟩)
  obtain ⟨W1, hW1⟩ : ∃ W1, (w.alloc (.cells #[.int .i64 0, .int .i64 0, .int .i64 0, .int .i64 0, .int .i64 0, .int .i64 0, .int .i64 0, .int .i64 0, .int .i64 0, .int .i64 0, .int .i64 0, .int .i64 0, .int .i64 0, .int .i64 0, .int .i64 0, .int .i64 0, .int .i64 0, .int .i64 0, .int .i64 0, .int .i64 0] 85)).setCells w.heap.size 0 (pgs ps) = W1 := ⟨_, rfl⟩
  rw [hW1] at hcp hW
  have hr1 : Row W1 (some ⟨w.heap.size, 0, none⟩) (pgs ps) := fun _ => ⟨_, _, rfl, fun j u hj => ⟨by have := hW.new_ j u hj; rw [Nat.zero_add] at this ⊢; exact this, by
    rw [hW.frozen]; have hjl := (List.getElem?_eq_some_iff.1 hj).1; obtain ⟨u', hu'⟩ := hg j (by omega); exact (hc j u' hu').2⟩⟩
  have hs1 : w.heap.size < W1.heap.size := by rw [hW.size, World.size_alloc]; omega
  have hB1 : Below w.heap.size w W1 := ((Below.refl _ _).alloc (Nat.le_refl _) _).trans (hW.agr.below (by simp) (by rintro i rfl; omega))
  clear hW hW1 hc hc' hg hR0 hlen hR HL
  go_enter Try.func53, Try.ntmps53
  go_wp2
  go_ret
  exact ⟨_, rfl, Nat.le_refl _, hs1, hr1, hB1⟩

theorem make_blocks (w : World) : (Instr.makeSlice 23 (.int .i64 4) (.int .i64 4)).run Try.prog w = .ok (.slice (some ⟨w.heap.size, 0, none⟩) 4 4) (w.alloc (.cells #[.slice none 0 0, .int .i64 0, .slice none 0 0, .int .i64 0, .slice none 0 0, .int .i64 0, .slice none 0 0, .int .i64 0] 36)) := by kernel_rfl
theorem impl_flashCopy (A : Option Addr) (c : Nat) (f : List Bk) (w : World) (hl : f.length = 4) (hp : ∀ b ∈ f, b.pages.length = 4) (hF : Fl w A f) :
    Calls Try.prog 35 #[.slice A 4 c] w fun e w' =>
      ∃ g, e = .returned (.slice (some ⟨g, 0, none⟩) 4 4) ∧ OFl w' w.heap.size w'.heap.size (some ⟨g, 0, none⟩) f ∧ Below w.heap.size w w' := by
  obtain ⟨hs, hF⟩ := hF
  obtain ⟨bk, off, rfl⟩ := hF.addr (by rintro rfl; simp at hl)
  have HL := Lib.hid hl
  have HP := Lib.hid hp
  clear hl hp
  have hmk := make_blocks
  have hnew := Bks.new w 4 36 #[.slice none 0 0, .int .i64 0, .slice none 0 0, .int .i64 0, .slice none 0 0, .int .i64 0, .slice none 0 0, .int .i64 0] rfl
  have hB0 : Below w.heap.size w (w.alloc (.cells #[.slice none 0 0, .int .i64 0, .slice none 0 0, .int .i64 0, .slice none 0 0, .int .i64 0, .slice none 0 0, .int .i64 0] 36)) := (Below.refl _ _).alloc (Nat.le_refl _) _
  go_enter Try.func35, Try.ntmps35
  go_wp2
  go_loopw [11] (fun i wr => ∃ (k : Nat) (ks : List (Option Addr × Nat)), k ≤ 4 ∧ i = .int .i64 k ∧ Below w.heap.size w wr ∧ w.heap.size < wr.heap.size ∧ Bks wr (some ⟨w.heap.size, 0, none⟩) (f.take k ++ (List.replicate 4 zbk).drop k) ks ∧ Apt w.heap.size wr.heap.size (some ⟨w.heap.size, 0, none⟩) ks) (fun i _ => 4 - (intOf i).toNat)
  case atStart => exact ⟨0, _, by omega, rfl, hB0, by simp, hnew, (Apt.new _ _).mono (Nat.le_refl _) (by simp)⟩
  case round =>
    clear hnew hB0
    obtain ⟨k, ks, hk, rfl, hb, hsz, hBk, hApt⟩ := hrel
    by_cases hlt : k < 4
    · obtain ⟨B, hB⟩ := get_some (l := f) (k := k) (by have := HL.out; omega)
      have hBl : B.pages.length = 4 := HP.out B (List.mem_of_getElem? hB)
      obtain ⟨⟨Ap, cp⟩, _, c0, c1, _, _, hR, hlc⟩ := hF.at_ hB
      have hbk : bk < w.heap.size := lt_of_cell c0
      replace c0 := (hb.cell (p := ⟨bk, off + k * 2, none⟩) hbk).trans c0
      replace c1 := (hb.cell (p := ⟨bk, off + k * 2 + 1, none⟩) hbk).trans c1
      have hRw := (hR.below hb (Nat.le_refl _))
      have HB := Lib.hid hB
      have HBL := Lib.hid hBl
      rw [hBl] at c0
      clear hbk hB hR hBl hlc
      go_wp2
      have hx0 : (wr.alloc (.cells #[.slice Ap 4 cp, .int .i64 B.worn] 36)).cell? ⟨wr.heap.size, 0, none⟩ = some (.slice Ap 4 cp) := by simp
      have hx1 : (wr.alloc (.cells #[.slice Ap 4 cp, .int .i64 B.worn] 36)).cell? ⟨wr.heap.size, 1, none⟩ = some (.int .i64 B.worn) := by simp
      have hRW := hRw.alloc (.cells #[.slice Ap 4 cp, .int .i64 B.worn] 36)
      have hBW := hBk.alloc (.cells #[.slice Ap 4 cp, .int .i64 B.worn] 36)
      have hbW : Below w.heap.size w (wr.alloc (.cells #[.slice Ap 4 cp, .int .i64 B.worn] 36)) := hb.alloc hb.size _
      have hsW : (wr.alloc (.cells #[.slice Ap 4 cp, .int .i64 B.worn] 36)).heap.size = wr.heap.size + 1 := by simp
      generalize wr.alloc (.cells #[.slice Ap 4 cp, .int .i64 B.worn] 36) = W at *
      have HSW := Lib.hid hsW
      have hne1 : ¬ (w.heap.size = wr.heap.size) := by omega
      have hne2 : ¬ (wr.heap.size = w.heap.size) := by omega
      have HG : Hid ((f.take k ++ (List.replicate 4 zbk).drop k)[k]? = some zbk) := by
        have := HL.out
        rw [Hid, List.getElem?_append_right (by simp; omega), List.getElem?_drop, List.getElem?_replicate, if_pos (by simp; omega)]
      clear hsW hRw hBk hb c0 c1
      go_region_held3 (fun w' => w'.cell? ⟨wr.heap.size, 0, none⟩ = some (.slice Ap 4 cp) ∧ w'.cell? ⟨wr.heap.size, 1, none⟩ = some (.int .i64 B.worn)) (go_keep)
        (first | (go_at_call 53; refine (impl_pagesCopy Ap cp B.pages _ HBL.out (by exact hRW)).mono ?_; rintro e w1 ⟨b, rfl, h1, h2, h3, h4⟩; have y0 := (h4.cell (p := ⟨wr.heap.size, 0, none⟩) (by have := HSW.out; simp; omega)).trans hx0; have y1 := (h4.cell (p := ⟨wr.heap.size, 1, none⟩) (by have := HSW.out; simp; omega)).trans hx1; replace h4 := undrew h4; have hBk1 := hBW.below h4 (Nat.le_refl _); obtain ⟨_, _, z0, z1, z2, z3, _, _⟩ := hBk1.at_ HG.out; rw [Nat.zero_add] at z0 z1 z2 z3))
      have hW := wrote_hdr hBk1 HG.out (.slice (some ⟨b, 0, none⟩) 4 4) (.int .i64 B.worn)
      have hB2 : Below w.heap.size w w1 := hbW.trans (h4.mono (by have := HSW.out; omega))
      have e1 := HL.out
      have e2 := HBL.out
      have e3 := HSW.out
      simp only [World.size_drew] at h1
      have hR2 := hBk1.setBlock (i := k) (x := (some ⟨b, 0, none⟩, 4)) (c := B) (by simp; omega) (fun j y hy e => (hApt.in_ j y _ hy e).2.2 rfl) (by rw [blk_some]; omega) h3 (by omega) (by rw [e2]; exact hW)
      rw [copy_step zbk f 4 k B HB.out e1] at hR2
      have hApt2 := hApt.set (hi' := w1.heap.size) k (some ⟨b, 0, none⟩, 4) (fun c hc => by rw [blk_some] at hc; subst hc; exact ⟨by omega, h2⟩) (by omega) (by omega)
      rw [Nat.zero_add] at hR2 hW
      have hB3 := hB2.trans (hW.agr.below (B := w.heap.size) hB2.size (fun i e => by rw [e]; exact Nat.le_refl _))
      have hs3 := hW.size
      have hs4 : w.heap.size < w1.heap.size := by omega
      have HS3 := Lib.hid hs3
      clear hs3 e1 e2 e3 hW hB2 hBk1
      go_wp2
      go_roundw
      case rel => exact ⟨k + 1, _, by omega, by go_num, hB3, by rw [HS3.out]; exact hs4, hR2, by rw [HS3.out]; exact hApt2⟩
      case measure => simp [intOf]; omega
    · obtain rfl : k = 4 := by omega
      go_wp2
      go_ret
      refine ⟨_, rfl, ⟨ks, ?_, hApt⟩, hb⟩
      have := HL.out
      rw [show (List.replicate 4 zbk).drop 4 = [] from rfl, List.append_nil, List.take_of_length_le (by omega)] at hBk
      exact hBk
end Go.Proofs.Ytlchlhjjoddocaa
