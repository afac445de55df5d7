/- Walks: rows of pages, copies of a flash. Walks: a new flash, a flash wiped. Plain functions: what the reference finds in a flash, and its steps. Plain laws: a flash is ok just if its blocks are and no number is there twice; wiping keeps that. -/
import Derived.Test.YtfkjhnfbajflaaaB
import Derived.Deep.RegionHeld3
import Derived.StillTailTactics
import Derived.Deep.RegionLaw
namespace Go.Proofs.Ytfkjhnfbajflaaa
set_option linter.unusedVariables false
set_option linter.unusedSimpArgs false
open Go.RowKit Go.Maps
set_option maxHeartbeats 400000
/-- a page stored: five cells -/
theorem wrote_page {w : World} {b o k : Nat} {ps : List Pg} {q : Pg} (h : Row w (some ⟨b, o, none⟩) (pgs ps)) (hk : ps[k]? = some q) (p : Pg) :
    Wrote w (((((w.setCell ⟨b, o + k * 5, none⟩ (.int .i64 p.state)).setCell ⟨b, o + k * 5 + 1, none⟩ (.int .i64 p.rc.kind)).setCell ⟨b, o + k * 5 + 2, none⟩ (.int .i64 p.rc.seq)).setCell ⟨b, o + k * 5 + 3, none⟩ (.int .i64 p.rc.addr)).setCell ⟨b, o + k * 5 + 4, none⟩ (.int .i64 p.rc.val)) b (o + k * 5) p.vs := by
  refine wrote_setRow b p.vs (o + k * 5) w fun j hj => ?_
  obtain ⟨c0, c1, c2, c3, c4⟩ := h.pg hk
  match j, hj with
  | 0, _ => exact ⟨_, c0⟩
  | 1, _ => exact ⟨_, c1⟩
  | 2, _ => exact ⟨_, c2⟩
  | 3, _ => exact ⟨_, c3⟩
  | 4, _ => exact ⟨_, c4⟩
theorem Row.setPage {w w' : World} {b o k : Nat} {ps : List Pg} {p : Pg} (h : Row w (some ⟨b, o, none⟩) (pgs ps)) (hk : k < ps.length) (hw : Wrote w w' b (o + k * 5) p.vs) : Row w' (some ⟨b, o, none⟩) (pgs (ps.set k p)) := by
  rw [pgs_set ps k p hk]
  exact hw.row h (by rw [pgs_len]; simp [Pg.vs]; omega)

theorem fill_step {α : Type} (p : α) (old : List α) (k : Nat) (h : k < old.length) : (List.replicate k p ++ old.drop k).set k p = List.replicate (k + 1) p ++ old.drop (k + 1) := by
  rw [List.set_append_right _ _ (by simp), List.length_replicate, Nat.sub_self, List.drop_eq_getElem_cons h, List.set_cons_zero, List.replicate_succ']
  simp
theorem impl_fill (b : Nat) (old : List Pg) (p : Pg) (w : World) (hl : old.length = 4) (hR : Row w (some ⟨b, 0, none⟩) (pgs old)) :
    Calls Try.prog 66 #[.pointer (some ⟨b, 0, none⟩), .agg #[.int .i64 p.state, .int .i64 p.rc.kind, .int .i64 p.rc.seq, .int .i64 p.rc.addr, .int .i64 p.rc.val]] w fun e w' =>
      e = .returned (.tuple #[]) ∧ Row w' (some ⟨b, 0, none⟩) (pgs (List.replicate 4 p)) ∧ Agr (· = b) w w' := by
  have hbl : b < w.heap.size := hR.lt (pgs_ne (by rintro rfl; simp at hl)) rfl
  have HL := Lib.hid hl
  clear hl
  obtain ⟨st, ⟨kd, sq, ad, vl⟩⟩ := p
  dsimp only
  go_enter Try.func66, Try.ntmps66
  go_wp2
  go_loopw [5] (fun i wr => ∃ (k : Nat), k ≤ 4 ∧ i = .int .i64 k ∧ Row wr (some ⟨b, 0, none⟩) (pgs (List.replicate k ⟨st, ⟨kd, sq, ad, vl⟩⟩ ++ old.drop k)) ∧ Agr (· = b) (w.alloc (.cells #[.int .i64 st, .int .i64 kd, .int .i64 sq, .int .i64 ad, .int .i64 vl] 59)) wr) (fun i _ => 4 - (intOf i).toNat)
  case atStart => exact ⟨0, by omega, rfl, by simpa using hR.alloc _, Agr.refl _ _⟩
  case round =>
    obtain ⟨k, hk, rfl, hr, hA⟩ := hrel
    by_cases hlt : k < 4
    · have hlen := HL.out
      obtain ⟨q, hq⟩ := get_some (l := List.replicate k (⟨st, ⟨kd, sq, ad, vl⟩⟩ : Pg) ++ old.drop k) (k := k) (by simp; omega)
      have hbox : ∀ i, wr.cell? ⟨w.heap.size, i, none⟩ = (w.alloc (.cells #[.int .i64 st, .int .i64 kd, .int .i64 sq, .int .i64 ad, .int .i64 vl] 59)).cell? ⟨w.heap.size, i, none⟩ := fun i =>
        hA.cell (by simp) (by omega) i
      have b0 : wr.cell? ⟨w.heap.size, 0, none⟩ = some (.int .i64 st) := (hbox 0).trans (by simp)
      have b1 : wr.cell? ⟨w.heap.size, 1, none⟩ = some (.int .i64 kd) := (hbox 1).trans (by simp)
      have b2 : wr.cell? ⟨w.heap.size, 2, none⟩ = some (.int .i64 sq) := (hbox 2).trans (by simp)
      have b3 : wr.cell? ⟨w.heap.size, 3, none⟩ = some (.int .i64 ad) := (hbox 3).trans (by simp)
      have b4 : wr.cell? ⟨w.heap.size, 4, none⟩ = some (.int .i64 vl) := (hbox 4).trans (by simp)
      obtain ⟨c0, c1, c2, c3, c4⟩ := hr.pg hq
      obtain ⟨f0, f1, f2, f3, f4⟩ := hr.pgf hq
      have hW := wrote_page hr hq ⟨st, ⟨kd, sq, ad, vl⟩⟩
      rw [Nat.zero_add] at c0 c1 c2 c3 c4 f0 f1 f2 f3 f4
      clear hbox hq hlen
      go_wp2
      go_region
      go_wp2
      go_roundw
      case rel =>
        refine ⟨k + 1, by omega, by go_num, ?_, ?_⟩
        · have := hr.setPage (k := k) (by have := HL.out; simp; omega) hW
          rw [Nat.zero_add, fill_step _ _ _ (by have := HL.out; omega)] at this
          exact this.drew
        · rw [Nat.zero_add] at hW
          exact (hA.trans hW.agr (fun _ _ h => h)).drew
      case measure => simp [intOf]; omega
    · obtain rfl : k = 4 := by omega
      go_wp2
      go_end0
      refine ⟨rfl, ?_, ?_⟩
      · rw [show old.drop 4 = [] from List.drop_of_length_le (by have := HL.out; omega), List.append_nil] at hr; exact hr
      · exact ((Agr.refl _ _).alloc _).trans hA (fun _ _ h => h)

theorem impl_pagesOf (p : Pg) (w : World) :
    Calls Try.prog 44 #[.agg #[.int .i64 p.state, .int .i64 p.rc.kind, .int .i64 p.rc.seq, .int .i64 p.rc.addr, .int .i64 p.rc.val]] w fun e w' =>
      ∃ b, e = .returned (.slice (some ⟨b, 0, none⟩) 4 4) ∧ w.heap.size ≤ b ∧ b < w'.heap.size ∧ Row w' (some ⟨b, 0, none⟩) (pgs (List.replicate 4 p)) ∧ Below w.heap.size w w' := by
  obtain ⟨st, ⟨kd, sq, ad, vl⟩⟩ := p
  dsimp only
  go_enter Try.func44, Try.ntmps44
  go_wp2_with fail
  have hb0 : Below w.heap.size w ((w.alloc (.cells #[.int .i64 st, .int .i64 kd, .int .i64 sq, .int .i64 ad, .int .i64 vl] 59)).alloc (.cells #[.int .i64 0, .int .i64 0, .int .i64 0, .int .i64 0, .int .i64 0, .int .i64 0, .int .i64 0, .int .i64 0, .int .i64 0, .int .i64 0, .int .i64 0, .int .i64 0, .int .i64 0, .int .i64 0, .int .i64 0, .int .i64 0, .int .i64 0, .int .i64 0, .int .i64 0, .int .i64 0] 94)) := ((Below.refl _ _).alloc (Nat.le_refl _) _).alloc (by simp) _
  have hsz : ∀ (W : World) (o : Obj), (W.alloc o).heap.size = W.heap.size + 1 := fun W o => by simp
  have hsz2 := Lib.hid (hsz (w.alloc (.cells #[.int .i64 st, .int .i64 kd, .int .i64 sq, .int .i64 ad, .int .i64 vl] 59)) (.cells #[.int .i64 0, .int .i64 0, .int .i64 0, .int .i64 0, .int .i64 0, .int .i64 0, .int .i64 0, .int .i64 0, .int .i64 0, .int .i64 0, .int .i64 0, .int .i64 0, .int .i64 0, .int .i64 0, .int .i64 0, .int .i64 0, .int .i64 0, .int .i64 0, .int .i64 0, .int .i64 0] 94))
  clear hsz
  refine (impl_fill (w.heap.size + 1) (List.replicate 4 ⟨0, rc0⟩) ⟨st, ⟨kd, sq, ad, vl⟩⟩ _ rfl ?_).mono ?_
  · have := Row.new (w.alloc (.cells #[.int .i64 st, .int .i64 kd, .int .i64 sq, .int .i64 ad, .int .i64 vl] 59)) #[.int .i64 0, .int .i64 0, .int .i64 0, .int .i64 0, .int .i64 0, .int .i64 0, .int .i64 0, .int .i64 0, .int .i64 0, .int .i64 0, .int .i64 0, .int .i64 0, .int .i64 0, .int .i64 0, .int .i64 0, .int .i64 0, .int .i64 0, .int .i64 0, .int .i64 0, .int .i64 0] 94
    rw [World.size_alloc] at this
    exact this
  · rintro e w1 ⟨rfl, hR, hA⟩
    have hB1 : Below w.heap.size w w1 := hb0.trans (hA.below (by simp; omega) (by rintro i rfl; omega))
    have hs1 : w.heap.size + 1 < w1.heap.size := by have := hA.size; rw [hsz2.out, World.size_alloc] at this; omega
    clear hA hb0 hsz2
    go_wp2
    go_ret
    exact ⟨_, rfl, by omega, hs1, hR, hB1⟩

theorem oneCell_pgs (ps : List Pg) : ∀ v ∈ pgs ps, v.oneCell' = true := by
  intro v hv
  simp only [pgs, List.mem_flatMap] at hv
  obtain ⟨p, _, hp⟩ := hv
  simp only [Pg.vs, List.mem_cons, List.not_mem_nil, or_false] at hp
  rcases hp with rfl | rfl | rfl | rfl | rfl <;> rfl
theorem Try.info_page : (Try.prog.info? 59).map (·.size) = some 5 := by kernel_rfl
theorem impl_pagesCopy (A : Option Addr) (c : Nat) (ps : List Pg) (w : World) (hl : ps.length = 4) (hR : Row w A (pgs ps)) :
    Calls Try.prog 65 #[.slice A 4 c] w fun e w' =>
      ∃ b, e = .returned (.slice (some ⟨b, 0, none⟩) 4 4) ∧ w.heap.size ≤ b ∧ b < w'.heap.size ∧ Row w' (some ⟨b, 0, none⟩) (pgs ps) ∧ Below w.heap.size w w' := by
  obtain ⟨pb, po, rfl⟩ := hR.addr (pgs_ne (by rintro rfl; simp at hl))
  have HL := Lib.hid hl
  clear hl
  have hlen : (pgs ps).length = 20 := by rw [pgs_len, HL.out]
  have hR0 : Row (w.alloc (.cells #[.int .i64 0, .int .i64 0, .int .i64 0, .int .i64 0, .int .i64 0, .int .i64 0, .int .i64 0, .int .i64 0, .int .i64 0, .int .i64 0, .int .i64 0, .int .i64 0, .int .i64 0, .int .i64 0, .int .i64 0, .int .i64 0, .int .i64 0, .int .i64 0, .int .i64 0, .int .i64 0] 94)) (some ⟨w.heap.size, 0, none⟩) (pgs (List.replicate 4 ⟨0, rc0⟩)) := Row.new w #[.int .i64 0, .int .i64 0, .int .i64 0, .int .i64 0, .int .i64 0, .int .i64 0, .int .i64 0, .int .i64 0, .int .i64 0, .int .i64 0, .int .i64 0, .int .i64 0, .int .i64 0, .int .i64 0, .int .i64 0, .int .i64 0, .int .i64 0, .int .i64 0, .int .i64 0, .int .i64 0] _
  obtain ⟨b', o', he, hc⟩ := hR0 (by simp [pgs, Pg.vs])
  cases he
  have hg : ∀ j, j < 20 → ∃ u, (pgs (List.replicate 4 ⟨0, rc0⟩))[j]? = some u := fun j hj => get_some (by rw [pgs_len]; simpa using hj)
  obtain ⟨b', o', he, hc'⟩ := (hR.alloc (.cells #[.int .i64 0, .int .i64 0, .int .i64 0, .int .i64 0, .int .i64 0, .int .i64 0, .int .i64 0, .int .i64 0, .int .i64 0, .int .i64 0, .int .i64 0, .int .i64 0, .int .i64 0, .int .i64 0, .int .i64 0, .int .i64 0, .int .i64 0, .int .i64 0, .int .i64 0, .int .i64 0] 94)) (by intro e; rw [e] at hlen; simp at hlen)
  cases he
  have hcp := run_copy_n (P := Try.prog) (w.alloc (.cells #[.int .i64 0, .int .i64 0, .int .i64 0, .int .i64 0, .int .i64 0, .int .i64 0, .int .i64 0, .int .i64 0, .int .i64 0, .int .i64 0, .int .i64 0, .int .i64 0, .int .i64 0, .int .i64 0, .int .i64 0, .int .i64 0, .int .i64 0, .int .i64 0, .int .i64 0, .int .i64 0] 94)) 51 51 3 59 5 w.heap.size 0 4 4 ⟨pb, po, none⟩ 4 c 4 (pgs ps) Try.underlying51 Try.info_page rfl hlen
    (fun j v hj => by rw [addr_add]; exact (hc' j v hj).1) (fun j hj => by obtain ⟨u, hu⟩ := hg j (by omega); rw [(hc j u hu).1]; rfl) (fun j hj => by obtain ⟨u, hu⟩ := hg j (by omega); exact (hc j u hu).2) (oneCell_pgs ps)
  have hW := wrote_setRow w.heap.size (pgs ps) 0 (w.alloc (.cells #[.int .i64 0, .int .i64 0, .int .i64 0, .int .i64 0, .int .i64 0, .int .i64 0, .int .i64 0, .int .i64 0, .int .i64 0, .int .i64 0, .int .i64 0, .int .i64 0, .int .i64 0, .int .i64 0, .int .i64 0, .int .i64 0, .int .i64 0, .int .i64 0, .int .i64 0, .int .i64 0] 94)) (fun j hj => by obtain ⟨u, hu⟩ := hg j (by omega); exact ⟨u, (hc j u hu).1⟩)
  obtain ⟨W1, hW1⟩ : ∃ W1, (w.alloc (.cells #[.int .i64 0, .int .i64 0, .int .i64 0, .int .i64 0, .int .i64 0, .int .i64 0, .int .i64 0, .int .i64 0, .int .i64 0, .int .i64 0, .int .i64 0, .int .i64 0, .int .i64 0, .int .i64 0, .int .i64 0, .int .i64 0, .int .i64 0, .int .i64 0, .int .i64 0, .int .i64 0] 94)).setCells w.heap.size 0 (pgs ps) = W1 := ⟨_, rfl⟩
  rw [hW1] at hcp hW
  have hr1 : Row W1 (some ⟨w.heap.size, 0, none⟩) (pgs ps) := fun _ => ⟨_, _, rfl, fun j u hj => ⟨by have := hW.new_ j u hj; rw [Nat.zero_add] at this ⊢; exact this, by
    rw [hW.frozen]; have hjl := (List.getElem?_eq_some_iff.1 hj).1; obtain ⟨u', hu'⟩ := hg j (by omega); exact (hc j u' hu').2⟩⟩
  have hs1 : w.heap.size < W1.heap.size := by rw [hW.size, World.size_alloc]; omega
  have hB1 : Below w.heap.size w W1 := ((Below.refl _ _).alloc (Nat.le_refl _) _).trans (hW.agr.below (by simp) (by rintro i rfl; omega))
  clear hW hW1 hc hc' hg hR0 hlen hR HL
  go_enter Try.func65, Try.ntmps65
  go_wp2
  go_ret
  exact ⟨_, rfl, Nat.le_refl _, hs1, hr1, hB1⟩

theorem make_blocks (w : World) : (Instr.makeSlice 23 (.int .i64 4) (.int .i64 4)).run Try.prog w = .ok (.slice (some ⟨w.heap.size, 0, none⟩) 4 4) (w.alloc (.cells #[.slice none 0 0, .int .i64 0, .slice none 0 0, .int .i64 0, .slice none 0 0, .int .i64 0, .slice none 0 0, .int .i64 0] 53)) := by kernel_rfl
theorem impl_flashCopy (A : Option Addr) (c : Nat) (f : List Bk) (w : World) (hl : f.length = 4) (hp : ∀ b ∈ f, b.pages.length = 4) (hF : Fl w A f) :
    Calls Try.prog 43 #[.slice A 4 c] w fun e w' =>
      ∃ g, e = .returned (.slice (some ⟨g, 0, none⟩) 4 4) ∧ OFl w' w.heap.size w'.heap.size (some ⟨g, 0, none⟩) f ∧ Below w.heap.size w w' := by
  obtain ⟨hs, hF⟩ := hF
  obtain ⟨bk, off, rfl⟩ := hF.addr (by rintro rfl; simp at hl)
  have HL := Lib.hid hl
  have HP := Lib.hid hp
  clear hl hp
  have hmk := make_blocks
  have hnew := Bks.new w 4 53 #[.slice none 0 0, .int .i64 0, .slice none 0 0, .int .i64 0, .slice none 0 0, .int .i64 0, .slice none 0 0, .int .i64 0] rfl
  have hB0 : Below w.heap.size w (w.alloc (.cells #[.slice none 0 0, .int .i64 0, .slice none 0 0, .int .i64 0, .slice none 0 0, .int .i64 0, .slice none 0 0, .int .i64 0] 53)) := (Below.refl _ _).alloc (Nat.le_refl _) _
  go_enter Try.func43, Try.ntmps43
  go_wp2
  go_loopw [11] (fun i wr => ∃ (k : Nat) (ks : List (Option Addr × Nat)), k ≤ 4 ∧ i = .int .i64 k ∧ Below w.heap.size w wr ∧ w.heap.size < wr.heap.size ∧ Bks wr (some ⟨w.heap.size, 0, none⟩) (f.take k ++ (List.replicate 4 zbk).drop k) ks ∧ Apt w.heap.size wr.heap.size (some ⟨w.heap.size, 0, none⟩) ks) (fun i _ => 4 - (intOf i).toNat)
  case atStart => exact ⟨0, _, by omega, rfl, hB0, by simp, hnew, (Apt.new _ _).mono (Nat.le_refl _) (by simp)⟩
  case round =>
    clear hnew hB0
    obtain ⟨k, ks, hk, rfl, hb, hsz, hBk, hApt⟩ := hrel
    by_cases hlt : k < 4
    · obtain ⟨B, hB⟩ := get_some (l := f) (k := k) (by have := HL.out; omega)
      have hBl : B.pages.length = 4 := HP.out B (List.mem_of_getElem? hB)
      obtain ⟨⟨Ap, cp⟩, _, c0, c1, _, _, hR, hlc⟩ := hF.at_ hB
      have hbk : bk < w.heap.size := lt_of_cell c0
      replace c0 := (hb.cell (p := ⟨bk, off + k * 2, none⟩) hbk).trans c0
      replace c1 := (hb.cell (p := ⟨bk, off + k * 2 + 1, none⟩) hbk).trans c1
      have hRw := (hR.below hb (Nat.le_refl _))
      have HB := Lib.hid hB
      have HBL := Lib.hid hBl
      rw [hBl] at c0
      clear hbk hB hR hBl hlc
      go_wp2
      have hx0 : (wr.alloc (.cells #[.slice Ap 4 cp, .int .i64 B.worn] 53)).cell? ⟨wr.heap.size, 0, none⟩ = some (.slice Ap 4 cp) := by simp
      have hx1 : (wr.alloc (.cells #[.slice Ap 4 cp, .int .i64 B.worn] 53)).cell? ⟨wr.heap.size, 1, none⟩ = some (.int .i64 B.worn) := by simp
      have hRW := hRw.alloc (.cells #[.slice Ap 4 cp, .int .i64 B.worn] 53)
      have hBW := hBk.alloc (.cells #[.slice Ap 4 cp, .int .i64 B.worn] 53)
      have hbW : Below w.heap.size w (wr.alloc (.cells #[.slice Ap 4 cp, .int .i64 B.worn] 53)) := hb.alloc hb.size _
      have hsW : (wr.alloc (.cells #[.slice Ap 4 cp, .int .i64 B.worn] 53)).heap.size = wr.heap.size + 1 := by simp
      generalize wr.alloc (.cells #[.slice Ap 4 cp, .int .i64 B.worn] 53) = W at *
      have HSW := Lib.hid hsW
      have hne1 : ¬ (w.heap.size = wr.heap.size) := by omega
      have hne2 : ¬ (wr.heap.size = w.heap.size) := by omega
      have HG : Hid ((f.take k ++ (List.replicate 4 zbk).drop k)[k]? = some zbk) := by
        have := HL.out
        rw [Hid, List.getElem?_append_right (by simp; omega), List.getElem?_drop, List.getElem?_replicate, if_pos (by simp; omega)]
      clear hsW hRw hBk hb c0 c1
      go_region_held3 (fun w' => w'.cell? ⟨wr.heap.size, 0, none⟩ = some (.slice Ap 4 cp) ∧ w'.cell? ⟨wr.heap.size, 1, none⟩ = some (.int .i64 B.worn)) (go_keep)
        (first | (go_at_call 65; refine (impl_pagesCopy Ap cp B.pages _ HBL.out (by exact hRW)).mono ?_; rintro e w1 ⟨b, rfl, h1, h2, h3, h4⟩; have y0 := (h4.cell (p := ⟨wr.heap.size, 0, none⟩) (by have := HSW.out; simp; omega)).trans hx0; have y1 := (h4.cell (p := ⟨wr.heap.size, 1, none⟩) (by have := HSW.out; simp; omega)).trans hx1; replace h4 := undrew h4; have hBk1 := hBW.below h4 (Nat.le_refl _); obtain ⟨_, _, z0, z1, z2, z3, _, _⟩ := hBk1.at_ HG.out; rw [Nat.zero_add] at z0 z1 z2 z3))
      have hW := wrote_hdr hBk1 HG.out (.slice (some ⟨b, 0, none⟩) 4 4) (.int .i64 B.worn)
      have hB2 : Below w.heap.size w w1 := hbW.trans (h4.mono (by have := HSW.out; omega))
      have e1 := HL.out
      have e2 := HBL.out
      have e3 := HSW.out
      simp only [World.size_drew] at h1
      have hR2 := hBk1.setBlock (i := k) (x := (some ⟨b, 0, none⟩, 4)) (c := B) (by simp; omega) (fun j y hy e => (hApt.in_ j y _ hy e).2.2 rfl) (by rw [blk_some]; omega) h3 (by omega) (by rw [e2]; exact hW)
      rw [copy_step zbk f 4 k B HB.out e1] at hR2
      have hApt2 := hApt.set (hi' := w1.heap.size) k (some ⟨b, 0, none⟩, 4) (fun c hc => by rw [blk_some] at hc; subst hc; exact ⟨by omega, h2⟩) (by omega) (by omega)
      rw [Nat.zero_add] at hR2 hW
      have hB3 := hB2.trans (hW.agr.below (B := w.heap.size) hB2.size (fun i e => by rw [e]; exact Nat.le_refl _))
      have hs3 := hW.size
      have hs4 : w.heap.size < w1.heap.size := by omega
      have HS3 := Lib.hid hs3
      clear hs3 e1 e2 e3 hW hB2 hBk1
      go_wp2
      go_roundw
      case rel => exact ⟨k + 1, _, by omega, by go_num, hB3, by rw [HS3.out]; exact hs4, hR2, by rw [HS3.out]; exact hApt2⟩
      case measure => simp [intOf]; omega
    · obtain rfl : k = 4 := by omega
      go_wp2
      go_ret
      refine ⟨_, rfl, ⟨ks, ?_, hApt⟩, hb⟩
      have := HL.out
      rw [show (List.replicate 4 zbk).drop 4 = [] from rfl, List.append_nil, List.take_of_length_le (by omega)] at hBk
      exact hBk
end Go.Proofs.Ytfkjhnfbajflaaa
namespace Go.Proofs.Ytfkjhnfbajflaaa
set_option linter.unusedVariables false
set_option linter.unusedSimpArgs false
open Go.RowKit Go.Maps
set_option maxHeartbeats 400000
def pg0 : Pg := ⟨0, rc0⟩
def newBlock : Bk := ⟨List.replicate 4 pg0, 0⟩
def flashNew : List Bk := List.replicate 4 newBlock
theorem impl_FlashNew (w : World) :
    Calls Try.prog 32 #[] w fun e w' => ∃ g, e = .returned (.slice (some ⟨g, 0, none⟩) 4 4) ∧ OFl w' w.heap.size w'.heap.size (some ⟨g, 0, none⟩) flashNew ∧ Below w.heap.size w w' := by
  have hmk := make_blocks
  have hnew := Bks.new w 4 53 #[.slice none 0 0, .int .i64 0, .slice none 0 0, .int .i64 0, .slice none 0 0, .int .i64 0, .slice none 0 0, .int .i64 0] rfl
  have hB0 : Below w.heap.size w (w.alloc (.cells #[.slice none 0 0, .int .i64 0, .slice none 0 0, .int .i64 0, .slice none 0 0, .int .i64 0, .slice none 0 0, .int .i64 0] 53)) := (Below.refl _ _).alloc (Nat.le_refl _) _
  go_enter Try.func32, Try.ntmps32
  go_wp2
  go_loopw [6] (fun i wr => ∃ (k : Nat) (ks : List (Option Addr × Nat)), k ≤ 4 ∧ i = .int .i64 k ∧ Below w.heap.size w wr ∧ w.heap.size < wr.heap.size ∧ Bks wr (some ⟨w.heap.size, 0, none⟩) (flashNew.take k ++ (List.replicate 4 zbk).drop k) ks ∧ Apt w.heap.size wr.heap.size (some ⟨w.heap.size, 0, none⟩) ks) (fun i _ => 4 - (intOf i).toNat)
  case atStart => exact ⟨0, _, by omega, rfl, hB0, by simp, hnew, (Apt.new _ _).mono (Nat.le_refl _) (by simp)⟩
  case round =>
    clear hnew hB0
    obtain ⟨k, ks, hk, rfl, hb, hsz, hBk, hApt⟩ := hrel
    by_cases hlt : k < 4
    · have HG : Hid ((flashNew.take k ++ (List.replicate 4 zbk).drop k)[k]? = some zbk) := by
        rw [Hid, List.getElem?_append_right (by simp [flashNew]; omega), List.getElem?_drop, List.getElem?_replicate, if_pos (by simp [flashNew]; omega)]
      go_wp2_with fail
      refine (impl_pagesOf pg0 _).mono ?_
      rintro e w1 ⟨b, rfl, h1, h2, h3, h4⟩
      have hBk1 := hBk.below h4 (Nat.le_refl _)
      obtain ⟨_, _, z0, z1, z2, z3, _, _⟩ := hBk1.at_ HG.out
      have hW := (wrote_one z0 (.slice (some ⟨b, 0, none⟩) 4 4)).more z1
      have hR2 := hBk1.setBlock (i := k) (x := (some ⟨b, 0, none⟩, 4)) (c := newBlock) (by simp [flashNew]; omega) (fun j y hy e => (hApt.in_ j y _ hy e).2.2 rfl) (by rw [blk_some]; omega) h3 (by simp [newBlock]) hW
      rw [copy_step zbk flashNew 4 k newBlock (by rw [flashNew, List.getElem?_replicate, if_pos hlt]) rfl] at hR2
      have hApt2 := hApt.set (hi' := w1.heap.size) k (some ⟨b, 0, none⟩, 4) (fun c hc => by rw [blk_some] at hc; subst hc; exact ⟨by omega, h2⟩) (by omega) (by omega)
      have hB2 : Below w.heap.size w w1 := hb.trans (h4.mono (by omega))
      have hB3 := hB2.trans (hW.agr.below (B := w.heap.size) hB2.size (fun i e => by rw [e]; exact Nat.le_refl _))
      have hs4 : w.heap.size < w1.heap.size := by omega
      rw [Nat.zero_add] at z0 z1 z2 z3 hR2 hB3
      have HS3 := Lib.hid hW.size
      rw [Nat.zero_add] at HS3
      clear hW hB2 hBk1 hBk h4
      go_wp2
      go_roundw
      case rel => exact ⟨k + 1, _, by omega, by go_num, hB3, by rw [HS3.out]; exact hs4, hR2, by rw [HS3.out]; exact hApt2⟩
      case measure => simp [intOf]; omega
    · obtain rfl : k = 4 := by omega
      go_wp2
      go_ret
      exact ⟨_, rfl, ⟨ks, hBk, hApt⟩, hb⟩

/-- block i wiped -/
def wipe (f : List Bk) (i : Nat) (torn : Bool) : List Bk :=
  f.set i ⟨List.replicate 4 (if torn then ⟨2, rc0⟩ else pg0), (f.getD i zbk).worn + 1⟩
/-- what FlashWipe answers, of an ok flash and a block that is there -/
def flashWipe (f : List Bk) (block : Int) (torn : Bool) : List Bk × Bool :=
  if flashOk f = false ∨ blockB block = false then ([], false) else if (f.getD block.toNat zbk).worn = 200 then (f, false) else (wipe f block.toNat torn, true)
/-- two results: a flash of the call's own, and a bool -/
def FlPost (r : List Bk × Bool) (w : World) (e : Ending) (w' : World) : Prop :=
  ∃ A c, e = .returned (.tuple #[.slice A r.1.length c, .bool r.2]) ∧ r.1.length ≤ c ∧ OFl w' w.heap.size w'.heap.size A r.1 ∧ Below w.heap.size w w'
theorem ofl_nil (w : World) (lo hi : Nat) : OFl w lo hi none [] :=
  ⟨[], ⟨rfl, Row.nil _ _, fun _ _ _ h _ => absurd h (by simp)⟩, ⟨fun _ h => (by cases h), fun _ _ _ h _ => absurd h (by simp), fun _ _ _ _ _ h _ _ _ => absurd h (by simp)⟩⟩
/-- block i of a flash of one's own is replaced by newer pages -/
theorem OFl.replaced {w3 w4 w5 : World} {lo g b i n : Nat} {f : List Bk} {hs : List (Option Addr × Nat)} {c : Bk} (hBk : Bks w3 (some ⟨g, 0, none⟩) f hs) (hApt : Apt lo w3.heap.size (some ⟨g, 0, none⟩) hs) (hi : i < f.length)
    (h1 : w3.heap.size ≤ b) (h2 : b < w4.heap.size) (h3 : Row w4 (some ⟨b, 0, none⟩) (pgs c.pages)) (h4 : Below w3.heap.size w3 w4) (hc : c.pages.length = n) (hlo : lo ≤ w3.heap.size) (hW : Wrote w4 w5 g (0 + i * 2) [.slice (some ⟨b, 0, none⟩) n n, .int .i64 c.worn]) :
    OFl w5 lo w5.heap.size (some ⟨g, 0, none⟩) (f.set i c) ∧ Below lo w3 w5 := by
  subst hc
  have hBk1 := hBk.below h4 (Nat.le_refl _)
  have hg := hApt.top g (by rw [blk_some])
  have hs4 := h4.size
  refine ⟨⟨_, hBk1.setBlock (i := i) (x := (some ⟨b, 0, none⟩, c.pages.length)) (c := c) hi (fun j y hy e => (hApt.in_ j y _ hy e).2.2 rfl) (by rw [blk_some]; omega) h3 (Nat.le_refl _) hW, ?_⟩, ?_⟩
  · rw [hW.size]
    exact hApt.set (hi' := w4.heap.size) i _ (fun d hd => by rw [blk_some] at hd; omega) hlo (by omega)
  · exact (h4.mono hlo).trans (hW.agr.below (by omega) (fun k e => by rw [e]; exact hg.1))
theorem impl_FlashWipe (f : List Bk) (block : Int) (torn : Bool) (A : Option Addr) (c : Nat) (w : World) (hF : Fl w A f) :
    Calls Try.prog 15 #[.slice A f.length c, .int .i64 block, .bool torn] w (FlPost (flashWipe f block torn) w) := by
  by_cases hok : flashOk f = true
  · by_cases hbo : blockB block = true
    · have hb04 : 0 ≤ block ∧ block < 4 := by unfold blockB at hbo; simpa using hbo
      obtain ⟨i, rfl⟩ := Int.eq_ofNat_of_zero_le hb04.1
      have hi4 : i < 4 := by omega
      have hl := flashOk_len hok
      have hsh := flashOk_shape hok
      have HL := Lib.hid hl
      obtain ⟨B, hB⟩ := get_some (l := f) (k := i) (by omega)
      have hBm := hsh B (List.mem_of_getElem? hB)
      have hBget : f.getD i zbk = B := by rw [List.getD_eq_getElem?_getD, hB]; rfl
      have HSH := Lib.hid hsh
      clear hsh hb04 hl
      go_enter Try.func15, Try.ntmps15
      go_wp2_with fail
      refine (impl_FlashOk f A c _ hF).mono ?_
      rintro e w1 ⟨rfl, hb⟩
      rw [hok]
      go_wp2_with fail
      refine (impl_blockOk _ _).mono ?_
      rintro e w2 ⟨rfl, rfl⟩
      rw [hbo]
      go_wp2_with fail
      rw [HL.out]
      refine (impl_flashCopy A c f _ HL.out (fun b hb => (HSH.out b hb).1) (hF.below hb (Nat.le_refl _))).mono ?_
      rintro e w3 ⟨g, rfl, ⟨hs, hBk, hApt⟩, hb3⟩
      obtain ⟨x, hx, z0, z1, z2, z3, hR, _⟩ := hBk.at_ hB
      rw [Nat.zero_add] at z0 z1 z2 z3
      obtain ⟨hw1, hw2, hw3⟩ := hBm
      have hB3 : Below w.heap.size w w3 := hb.trans (hb3.mono hb.size)
      have hg := hApt.top g (by rw [blk_some])
      by_cases h200 : B.worn = 200
      · have hfin : Hid (flashWipe f i torn = (f, false)) := by unfold Hid flashWipe; rw [hok, hbo, Int.toNat_natCast, hBget]; simp [h200]
        rw [h200] at z1
        go_wp2
        go_ret2
        rw [hfin.out]
        exact ⟨some ⟨g, 0, none⟩, 4, ret_sl HL.out.symm, by rw [HL.out]; exact Nat.le_refl _, ⟨hs, hBk, hApt.mono hb.size (Nat.le_refl _)⟩, hB3⟩
      · have hfin : Hid (flashWipe f i torn = (wipe f i torn, true)) := by unfold Hid flashWipe; rw [hok, hbo, Int.toNat_natCast, hBget]; simp [h200]
        have hlt : B.worn < 200 := by omega
        have hi4' : (i : Int) < 4 := by omega
        have hi0 : (0 : Int) ≤ i := by omega
        have hwr : IntKind.i64.wrap (B.worn + 1) = B.worn + 1 := IntWalk.i64_in _ (by omega)
        cases torn
        · go_wp2
          go_region_law (first | (go_simp; go_at_call 44; refine (impl_pagesOf ⟨0, rc0⟩ _).mono ?_; rintro e w4 ⟨b, rfl, h1, h2, h3, h4⟩; replace h4 := undrew h4; have y1 := (h4.cell (p := ⟨g, i * 2 + 1, none⟩) hg.2).trans z1; have y0 := (h4.cell (p := ⟨g, i * 2, none⟩) hg.2).trans z0; have y2 := (h4.frozen (p := ⟨g, i * 2, none⟩) hg.2).trans z2; have y3 := (h4.frozen (p := ⟨g, i * 2 + 1, none⟩) hg.2).trans z3))
          all_goals
            have hBk1 := hBk.below h4 (Nat.le_refl _)
            have hW := wrote_hdr hBk1 hB (.slice (some ⟨b, 0, none⟩) 4 4) (.int .i64 (B.worn + 1))
            obtain ⟨hO, hb5⟩ := OFl.replaced (c := ⟨List.replicate 4 ⟨0, rc0⟩, B.worn + 1⟩) hBk hApt (by have := HL.out; omega) h1 h2 h3 h4 (by simp) hb3.size hW
            rw [Nat.zero_add] at hO hb5
            have hBf : Below w.heap.size w _ := hB3.trans (hb5.mono hb.size)
            have hO' := hO.mono hb.size (Nat.le_refl _)
            clear hO hb5 hW hBk1
            go_wp2
            go_ret2
            rw [hfin.out]
            have el : (wipe f i false).length = 4 := by unfold wipe; rw [List.length_set]; exact HL.out
            exact ⟨some ⟨g, 0, none⟩, 4, ret_sl el.symm, by rw [el]; exact Nat.le_refl _, by unfold wipe; rw [hBget]; exact hO', hBf⟩
        · go_wp2
          go_region_law (first | (go_simp; go_at_call 44; refine (impl_pagesOf ⟨2, rc0⟩ _).mono ?_; rintro e w4 ⟨b, rfl, h1, h2, h3, h4⟩; replace h4 := undrew h4; have y1 := (h4.cell (p := ⟨g, i * 2 + 1, none⟩) hg.2).trans z1; have y0 := (h4.cell (p := ⟨g, i * 2, none⟩) hg.2).trans z0; have y2 := (h4.frozen (p := ⟨g, i * 2, none⟩) hg.2).trans z2; have y3 := (h4.frozen (p := ⟨g, i * 2 + 1, none⟩) hg.2).trans z3))
          all_goals
            have hBk1 := hBk.below h4 (Nat.le_refl _)
            have hW := wrote_hdr hBk1 hB (.slice (some ⟨b, 0, none⟩) 4 4) (.int .i64 (B.worn + 1))
            obtain ⟨hO, hb5⟩ := OFl.replaced (c := ⟨List.replicate 4 ⟨2, rc0⟩, B.worn + 1⟩) hBk hApt (by have := HL.out; omega) h1 h2 h3 h4 (by simp) hb3.size hW
            rw [Nat.zero_add] at hO hb5
            have hBf : Below w.heap.size w _ := hB3.trans (hb5.mono hb.size)
            have hO' := hO.mono hb.size (Nat.le_refl _)
            clear hO hb5 hW hBk1
            go_wp2
            go_ret2
            rw [hfin.out]
            have el : (wipe f i true).length = 4 := by unfold wipe; rw [List.length_set]; exact HL.out
            exact ⟨some ⟨g, 0, none⟩, 4, ret_sl el.symm, by rw [el]; exact Nat.le_refl _, by unfold wipe; rw [hBget]; exact hO', hBf⟩
    · have hfin : Hid (flashWipe f block torn = ([], false)) := by unfold Hid flashWipe; simp [hbo]
      have ho : blockB block = false := by simpa using hbo
      go_enter Try.func15, Try.ntmps15
      go_wp2_with fail
      refine (impl_FlashOk f A c _ hF).mono ?_
      rintro e w1 ⟨rfl, hb⟩
      rw [hok]
      go_wp2_with fail
      refine (impl_blockOk _ _).mono ?_
      rintro e w2 ⟨rfl, rfl⟩
      rw [ho]
      go_wp2
      go_ret2
      rw [hfin.out]
      exact ⟨none, 0, rfl, Nat.le_refl _, ofl_nil _ _ _, hb⟩
  · have hfin : Hid (flashWipe f block torn = ([], false)) := by unfold Hid flashWipe; simp [hok]
    have ho : flashOk f = false := by simpa using hok
    go_enter Try.func15, Try.ntmps15
    go_wp2_with fail
    refine (impl_FlashOk f A c _ hF).mono ?_
    rintro e w1 ⟨rfl, hb⟩
    rw [ho]
    go_wp2
    go_ret2
    rw [hfin.out]
    exact ⟨none, 0, rfl, Nat.le_refl _, ofl_nil _ _ _, hb⟩
end Go.Proofs.Ytfkjhnfbajflaaa
namespace Go.Proofs.Ytfkjhnfbajflaaa
set_option linter.unusedVariables false
set_option linter.unusedSimpArgs false
def isClean (p : Pg) : Bool := decide (p.state = 0)
def clean (b : Bk) : Nat := b.pages.countP isClean
def hasSeq (s : Int) (p : Pg) : Bool := decide (p.state = 1) && decide (p.rc.seq = s)
def seqIn (f : List Bk) (s : Int) : Bool := f.any fun b => b.pages.any (hasSeq s)
def lastStep (addr : Int) (o : Rc) (p : Pg) : Rc := if p.state = 1 ∧ p.rc.addr = addr ∧ o.seq < p.rc.seq then p.rc else o
def lastPs (addr : Int) (o : Rc) (ps : List Pg) : Rc := ps.foldl (lastStep addr) o
def last (f : List Bk) (addr : Int) : Rc := f.foldl (fun o b => lastPs addr o b.pages) rc0
def live (f : List Bk) (p : Pg) : Bool := decide (p.state = 1) && decide (last f p.rc.addr = p.rc)
def mostPs (n : Int) (ps : List Pg) : Int := ps.foldl (fun n p => max n p.rc.seq) n
def most (b : Bk) : Int := mostPs 0 b.pages
def leastStep (n : Int) (p : Pg) : Int := if 0 < p.rc.seq ∧ (n = 0 ∨ p.rc.seq < n) then p.rc.seq else n
def least (b : Bk) : Int := b.pages.foldl leastStep 0
def topSeq (f : List Bk) : Int := f.foldl (fun n b => max n (most b)) 0
def next (f : List Bk) : Int := topSeq f + 1
def openGo (f : List Bk) : Nat → Int → List Bk → Int × Bool
  | _, out, [] => (max out 0, decide (0 ≤ out))
  | i, out, b :: r => if 0 < clean b ∧ clean b < 4 then (i, true) else if 0 < clean b ∧ (out < 0 ∨ b.worn < (f.getD out.toNat zbk).worn) then openGo f (i + 1) i r else openGo f (i + 1) out r
def openB (f : List Bk) : Int × Bool := openGo f 0 (-1) f
def oldGo (f : List Bk) : Nat → Nat → List Bk → Nat
  | _, out, [] => out
  | i, out, b :: r => if most b < most (f.getD out zbk) then oldGo f (i + 1) i r else oldGo f (i + 1) out r
def old (f : List Bk) : Nat := oldGo f 1 0 (f.drop 1)
end Go.Proofs.Ytfkjhnfbajflaaa
namespace Go.Proofs.Ytfkjhnfbajflaaa
set_option linter.unusedVariables false
set_option linter.unusedSimpArgs false
def seqsP (ps : List Pg) : List Int := (ps.filter fun p => decide (p.state = 1)).map fun p => p.rc.seq
def seqsF (f : List Bk) : List Int := f.flatMap fun b => seqsP b.pages
theorem seqsP_cons (p : Pg) (ps : List Pg) : seqsP (p :: ps) = if p.state = 1 then p.rc.seq :: seqsP ps else seqsP ps := by
  unfold seqsP
  rw [List.filter_cons]
  by_cases h : p.state = 1 <;> simp [h]
theorem pagesGo_iff (k : List Int → Bool) : ∀ (ps : List Pg) (seen : List Int), pagesGo seen k ps = true ↔ (∀ p ∈ ps, pageOk p = true) ∧ (seqsP ps).Nodup ∧ (∀ q ∈ seqsP ps, q ∉ seen) ∧ k ((seqsP ps).reverse ++ seen) = true
  | [], seen => by simp [pagesGo, seqsP]
  | p :: ps, seen => by
    unfold pagesGo
    rw [seqsP_cons]
    by_cases h1 : pageOk p = false
    · simp [h1]
    · have h1' : pageOk p = true := by simpa using h1
      rw [if_neg h1]
      by_cases h2 : p.state = 1
      · rw [if_neg (by simpa using h2), if_pos h2]
        by_cases h3 : p.rc.seq ∈ seen
        · rw [if_pos h3]
          constructor
          · intro h; cases h
          · rintro ⟨_, _, h, _⟩; exact absurd h3 (h _ (List.mem_cons_self ..))
        · rw [if_neg h3, pagesGo_iff k ps]
          constructor
          · rintro ⟨a, b, c, d⟩
            refine ⟨?_, List.nodup_cons.2 ⟨fun hm => c _ hm (List.mem_cons_self ..), b⟩, ?_, ?_⟩
            · intro q hq; rcases List.mem_cons.1 hq with rfl | hq; exact h1'; exact a q hq
            · intro q hq; rcases List.mem_cons.1 hq with rfl | hq; exact h3; exact fun hm => c q hq (List.mem_cons_of_mem _ hm)
            · rw [List.reverse_cons, List.append_assoc]; exact d
          · rintro ⟨a, b, c, d⟩
            obtain ⟨b1, b2⟩ := List.nodup_cons.1 b
            refine ⟨fun q hq => a q (List.mem_cons_of_mem _ hq), b2, ?_, ?_⟩
            · intro q hq hm
              rcases List.mem_cons.1 hm with rfl | hm
              · exact b1 hq
              · exact c q (List.mem_cons_of_mem _ hq) hm
            · rw [List.reverse_cons, List.append_assoc] at d; exact d
      · rw [if_pos h2, if_neg h2, pagesGo_iff k ps]
        constructor
        · rintro ⟨a, b⟩
          exact ⟨fun q hq => by rcases List.mem_cons.1 hq with rfl | hq; exact h1'; exact a q hq, b⟩
        · rintro ⟨a, b⟩
          exact ⟨fun q hq => a q (List.mem_cons_of_mem _ hq), b⟩
theorem blocksGo_iff : ∀ (f : List Bk) (seen : List Int), blocksGo seen f = true ↔ (∀ b ∈ f, blockShape b = true ∧ ∀ p ∈ b.pages, pageOk p = true) ∧ (seqsF f).Nodup ∧ (∀ q ∈ seqsF f, q ∉ seen)
  | [], seen => by simp [blocksGo, seqsF]
  | b :: f, seen => by
    unfold blocksGo
    rw [show seqsF (b :: f) = seqsP b.pages ++ seqsF f from by simp [seqsF]]
    by_cases h1 : blockShape b = false
    · simp [h1]
    · have h1' : blockShape b = true := by simpa using h1
      rw [if_neg h1, pagesGo_iff, blocksGo_iff f]
      constructor
      · rintro ⟨a, b1, c, d, e, g⟩
        refine ⟨fun x hx => ?_, List.nodup_append.2 ⟨b1, e, fun x hx y hy hxy => ?_⟩, fun q hq => ?_⟩
        · rcases List.mem_cons.1 hx with rfl | hx
          · exact ⟨h1', a⟩
          · exact d x hx
        · subst hxy; exact g x hy (List.mem_append_left _ (List.mem_reverse.2 hx))
        · rcases List.mem_append.1 hq with hq | hq
          · exact c q hq
          · exact fun hm => g q hq (List.mem_append_right _ hm)
      · rintro ⟨a, b1, c⟩
        obtain ⟨n1, n2, n3⟩ := List.nodup_append.1 b1
        refine ⟨(a b (List.mem_cons_self ..)).2, n1, fun q hq => c q (List.mem_append_left _ hq), fun x hx => a x (List.mem_cons_of_mem _ hx), n2, fun q hq hm => ?_⟩
        rcases List.mem_append.1 hm with hm | hm
        · exact n3 q (List.mem_reverse.1 hm) q hq rfl
        · exact c q (List.mem_append_right _ hq) hm
theorem flashOk_iff (f : List Bk) : flashOk f = true ↔ f.length = 4 ∧ (∀ b ∈ f, blockShape b = true ∧ ∀ p ∈ b.pages, pageOk p = true) ∧ (seqsF f).Nodup := by
  unfold flashOk
  rw [Bool.and_eq_true, decide_eq_true_iff, blocksGo_iff]
  constructor
  · rintro ⟨a, b, c, _⟩; exact ⟨a, b, c⟩
  · rintro ⟨a, b, c⟩; exact ⟨a, b, c, fun _ _ h => by cases h⟩
/-- a block without numbers put in the place of another -/
theorem seqsF_set : ∀ (f : List Bk) (i : Nat) (b : Bk), seqsP b.pages = [] → (seqsF (f.set i b)).Sublist (seqsF f)
  | [], i, b, h => by simp
  | c :: f, 0, b, h => by
    rw [List.set_cons_zero, show seqsF (b :: f) = seqsP b.pages ++ seqsF f from by simp [seqsF], show seqsF (c :: f) = seqsP c.pages ++ seqsF f from by simp [seqsF], h]
    exact List.sublist_append_right _ _
  | c :: f, i + 1, b, h => by
    rw [List.set_cons_succ, show seqsF (c :: f.set i b) = seqsP c.pages ++ seqsF (f.set i b) from by simp [seqsF], show seqsF (c :: f) = seqsP c.pages ++ seqsF f from by simp [seqsF]]
    exact (seqsF_set f i b h).append_left _
theorem getD_mem {f : List Bk} {i : Nat} (h : i < f.length) : f.getD i zbk ∈ f := by
  rw [List.getD_eq_getElem?_getD, List.getElem?_eq_getElem h]
  exact List.getElem_mem h
theorem wiped_ok {f : List Bk} (h : flashOk f = true) {i : Nat} (hi : i < 4) (torn : Bool) (hw : (f.getD i zbk).worn ≠ 200) : flashOk (wipe f i torn) = true := by
  have hs := flashOk_shape h _ (getD_mem (i := i) (by have := flashOk_len h; omega))
  rw [flashOk_iff] at h ⊢
  obtain ⟨a, b, c⟩ := h
  have key : blockShape ⟨List.replicate 4 (if torn then ⟨2, rc0⟩ else pg0), (f.getD i zbk).worn + 1⟩ = true := by
    unfold blockShape
    have h1 : 0 ≤ (f.getD i zbk).worn + 1 := by omega
    have h2 : (f.getD i zbk).worn + 1 ≤ 200 := by omega
    simp only [h1, h2, decide_true, Bool.true_and, List.length_replicate]
    cases torn <;> decide
  refine ⟨by unfold wipe; simpa using a, fun x hx => ?_, (seqsF_set f i _ ?_).nodup c⟩
  · unfold wipe at hx
    rcases List.mem_or_eq_of_mem_set hx with hx | rfl
    · exact b x hx
    · refine ⟨key, fun p hp => ?_⟩
      have := List.eq_of_mem_replicate hp
      subst this
      cases torn <;> decide
  · show seqsP (List.replicate 4 (if torn then ⟨2, rc0⟩ else pg0)) = []
    cases torn <;> decide
theorem wipe_len (f : List Bk) (i : Nat) (torn : Bool) : (wipe f i torn).length = f.length := by unfold wipe; simp
theorem wipe_at {f : List Bk} {i : Nat} (h : i < f.length) (torn : Bool) : (wipe f i torn)[i]? = some ⟨List.replicate 4 (if torn then ⟨2, rc0⟩ else pg0), (f.getD i zbk).worn + 1⟩ := by
  unfold wipe; rw [List.getElem?_set_self h]
theorem wipe_ne {f : List Bk} {i j : Nat} (h : j ≠ i) (torn : Bool) : (wipe f i torn)[j]? = f[j]? := by
  unfold wipe; rw [List.getElem?_set_ne (by omega)]
end Go.Proofs.Ytfkjhnfbajflaaa
