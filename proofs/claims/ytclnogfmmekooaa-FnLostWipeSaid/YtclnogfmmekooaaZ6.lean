/- What the laws' walks share: words, plain laws, and the walks of functions, part 6. -/
import Derived.Deep.RegionHeld3
import Derived.StillTailTactics
import Derived.Deep.RegionLaw
import Derived.BigQuiet
import Derived.Deep.RegionWith
import Derived.Test.YtclnogfmmekooaaProg
import Derived.WalkKit
import Derived.KernelRfl
import Derived.Deep.AppendLies
import Derived.Deep.Onto
import Derived.OwnWalk
import Derived.Test.YtclnogfmmekooaaZ5
namespace Go.Proofs.Ytclnogfmmekooaa
set_option linter.unusedVariables false
set_option linter.unusedSimpArgs false
open Go.RowKit Go.Maps
set_option maxHeartbeats 400000
/-- a page stored: five cells -/
theorem wrote_page {w : World} {b o k : Nat} {ps : List Pg} {q : Pg} (h : Row w (some ⟨b, o, none⟩) (pgs ps)) (hk : ps[k]? = some q) (p : Pg) :
 Wrote w (((((w.setCell ⟨b, o + k * 5, none⟩ (.int .i64 p.state)).setCell ⟨b, o + k * 5 + 1, none⟩ (.int .i64 p.rc.kind)).setCell ⟨b, o + k * 5 + 2, none⟩ (.int .i64 p.rc.seq)).setCell ⟨b, o + k * 5 + 3, none⟩ (.int .i64 p.rc.addr)).setCell ⟨b, o + k * 5 + 4, none⟩ (.int .i64 p.rc.val)) b (o + k * 5) p.vs := by
 refine wrote_setRow b p.vs (o + k * 5) w fun j hj => ?_
 obtain ⟨c0, c1, c2, c3, c4⟩ := h.pg hk
 match j, hj with
 | 0, _ => exact ⟨_, c0⟩
 | 1, _ => exact ⟨_, c1⟩
 | 2, _ => exact ⟨_, c2⟩
 | 3, _ => exact ⟨_, c3⟩
 | 4, _ => exact ⟨_, c4⟩
theorem Row.setPage {w w' : World} {b o k : Nat} {ps : List Pg} {p : Pg} (h : Row w (some ⟨b, o, none⟩) (pgs ps)) (hk : k < ps.length) (hw : Wrote w w' b (o + k * 5) p.vs) : Row w' (some ⟨b, o, none⟩) (pgs (ps.set k p)) := by
 rw [pgs_set ps k p hk]
 exact hw.row h (by rw [pgs_len]; simp [Pg.vs]; omega)

theorem fill_step {α : Type} (p : α) (old : List α) (k : Nat) (h : k < old.length) : (List.replicate k p ++ old.drop k).set k p = List.replicate (k + 1) p ++ old.drop (k + 1) := by
 rw [List.set_append_right _ _ (by simp), List.length_replicate, Nat.sub_self, List.drop_eq_getElem_cons h, List.set_cons_zero, List.replicate_succ']
 simp
theorem impl_fill (b : Nat) (old : List Pg) (p : Pg) (w : World) (hl : old.length = 4) (hR : Row w (some ⟨b, 0, none⟩) (pgs old)) :
 Calls Try.prog 60 #[.pointer (some ⟨b, 0, none⟩), .agg #[.int .i64 p.state, .int .i64 p.rc.kind, .int .i64 p.rc.seq, .int .i64 p.rc.addr, .int .i64 p.rc.val]] w fun e w' =>
  e = .returned (.tuple #[]) ∧ Row w' (some ⟨b, 0, none⟩) (pgs (List.replicate 4 p)) ∧ Agr (· = b) w w' := by
 have hbl : b < w.heap.size := hR.lt (pgs_ne (by rintro rfl; simp at hl)) rfl
 have HL := Lib.hid hl
 clear hl
 obtain ⟨st, ⟨kd, sq, ad, vl⟩⟩ := p
 dsimp only
 go_enter Try.func60, Try.ntmps60
 go_wp2
 go_loopw [5] (fun i wr => ∃ (k : Nat), k ≤ 4 ∧ i = .int .i64 k ∧ Row wr (some ⟨b, 0, none⟩) (pgs (List.replicate k ⟨st, ⟨kd, sq, ad, vl⟩⟩ ++ old.drop k)) ∧ Agr (· = b) (w.alloc (.cells #[.int .i64 st, .int .i64 kd, .int .i64 sq, .int .i64 ad, .int .i64 vl] 42)) wr) (fun i _ => 4 - (intOf i).toNat)
 case atStart => exact ⟨0, by omega, rfl, by simpa using hR.alloc _, Agr.refl _ _⟩
 case round =>
  obtain ⟨k, hk, rfl, hr, hA⟩ := hrel
  by_cases hlt : k < 4
  · have hlen := HL.out
    obtain ⟨q, hq⟩ := get_some (l := List.replicate k (⟨st, ⟨kd, sq, ad, vl⟩⟩ : Pg) ++ old.drop k) (k := k) (by simp; omega)
    have hbox : ∀ i, wr.cell? ⟨w.heap.size, i, none⟩ = (w.alloc (.cells #[.int .i64 st, .int .i64 kd, .int .i64 sq, .int .i64 ad, .int .i64 vl] 42)).cell? ⟨w.heap.size, i, none⟩ := fun i =>
     hA.cell (by simp) (by omega) i
    have b0 : wr.cell? ⟨w.heap.size, 0, none⟩ = some (.int .i64 st) := (hbox 0).trans (by simp)
    have b1 : wr.cell? ⟨w.heap.size, 1, none⟩ = some (.int .i64 kd) := (hbox 1).trans (by simp)
    have b2 : wr.cell? ⟨w.heap.size, 2, none⟩ = some (.int .i64 sq) := (hbox 2).trans (by simp)
    have b3 : wr.cell? ⟨w.heap.size, 3, none⟩ = some (.int .i64 ad) := (hbox 3).trans (by simp)
    have b4 : wr.cell? ⟨w.heap.size, 4, none⟩ = some (.int .i64 vl) := (hbox 4).trans (by simp)
    obtain ⟨c0, c1, c2, c3, c4⟩ := hr.pg hq
    obtain ⟨f0, f1, f2, f3, f4⟩ := hr.pgf hq
    have hW := wrote_page hr hq ⟨st, ⟨kd, sq, ad, vl⟩⟩
    rw [Nat.zero_add] at c0 c1 c2 c3 c4 f0 f1 f2 f3 f4
    clear hbox hq hlen
    go_wp2
    go_region
    go_wp2
    go_roundw
    case rel =>
     refine ⟨k + 1, by omega, by go_num, ?_, ?_⟩
     · have := hr.setPage (k := k) (by have := HL.out; simp; omega) hW
       rw [Nat.zero_add, fill_step _ _ _ (by have := HL.out; omega)] at this
       exact this.drew
     · rw [Nat.zero_add] at hW
       exact (hA.trans hW.agr (fun _ _ h => h)).drew
    case measure => simp [intOf]; omega
  · obtain rfl : k = 4 := by omega
    go_wp2
    go_end0
    refine ⟨rfl, ?_, ?_⟩
    · rw [show old.drop 4 = [] from List.drop_of_length_le (by have := HL.out; omega), List.append_nil] at hr; exact hr
    · exact ((Agr.refl _ _).alloc _).trans hA (fun _ _ h => h)

theorem impl_pagesOf (p : Pg) (w : World) :
 Calls Try.prog 38 #[.agg #[.int .i64 p.state, .int .i64 p.rc.kind, .int .i64 p.rc.seq, .int .i64 p.rc.addr, .int .i64 p.rc.val]] w fun e w' =>
  ∃ b, e = .returned (.slice (some ⟨b, 0, none⟩) 4 4) ∧ w.heap.size ≤ b ∧ b < w'.heap.size ∧ Row w' (some ⟨b, 0, none⟩) (pgs (List.replicate 4 p)) ∧ Below w.heap.size w w' := by
 obtain ⟨st, ⟨kd, sq, ad, vl⟩⟩ := p
 dsimp only
 go_enter Try.func38, Try.ntmps38
 go_wp2_with fail
 have hb0 : Below w.heap.size w ((w.alloc (.cells #[.int .i64 st, .int .i64 kd, .int .i64 sq, .int .i64 ad, .int .i64 vl] 42)).alloc (.cells #[.int .i64 0, .int .i64 0, .int .i64 0, .int .i64 0, .int .i64 0, .int .i64 0, .int .i64 0, .int .i64 0, .int .i64 0, .int .i64 0, .int .i64 0, .int .i64 0, .int .i64 0, .int .i64 0, .int .i64 0, .int .i64 0, .int .i64 0, .int .i64 0, .int .i64 0, .int .i64 0] 103)) := ((Below.refl _ _).alloc (Nat.le_refl _) _).alloc (by simp) _
 have hsz : ∀ (W : World) (o : Obj), (W.alloc o).heap.size = W.heap.size + 1 := fun W o => by simp
 have hsz2 := Lib.hid (hsz (w.alloc (.cells #[.int .i64 st, .int .i64 kd, .int .i64 sq, .int .i64 ad, .int .i64 vl] 42)) (.cells #[.int .i64 0, .int .i64 0, .int .i64 0, .int .i64 0, .int .i64 0, .int .i64 0, .int .i64 0, .int .i64 0, .int .i64 0, .int .i64 0, .int .i64 0, .int .i64 0, .int .i64 0, .int .i64 0, .int .i64 0, .int .i64 0, .int .i64 0, .int .i64 0, .int .i64 0, .int .i64 0] 103))
 clear hsz
 refine (impl_fill (w.heap.size + 1) (List.replicate 4 ⟨0, rc0⟩) ⟨st, ⟨kd, sq, ad, vl⟩⟩ _ rfl ?_).mono ?_
 · have := Row.new (w.alloc (.cells #[.int .i64 st, .int .i64 kd, .int .i64 sq, .int .i64 ad, .int .i64 vl] 42)) #[.int .i64 0, .int .i64 0, .int .i64 0, .int .i64 0, .int .i64 0, .int .i64 0, .int .i64 0, .int .i64 0, .int .i64 0, .int .i64 0, .int .i64 0, .int .i64 0, .int .i64 0, .int .i64 0, .int .i64 0, .int .i64 0, .int .i64 0, .int .i64 0, .int .i64 0, .int .i64 0] 103
   rw [World.size_alloc] at this
   exact this
 · rintro e w1 ⟨rfl, hR, hA⟩
   have hB1 : Below w.heap.size w w1 := hb0.trans (hA.below (by simp; omega) (by rintro i rfl; omega))
   have hs1 : w.heap.size + 1 < w1.heap.size := by have := hA.size; rw [hsz2.out, World.size_alloc] at this; omega
   clear hA hb0 hsz2
   go_wp2
   go_ret
   exact ⟨_, rfl, by omega, hs1, hR, hB1⟩

theorem oneCell_pgs (ps : List Pg) : ∀ v ∈ pgs ps, v.oneCell' = true := by
 intro v hv
 simp only [pgs, List.mem_flatMap] at hv
 obtain ⟨p, _, hp⟩ := hv
 simp only [Pg.vs, List.mem_cons, List.not_mem_nil, or_false] at hp
 rcases hp with rfl | rfl | rfl | rfl | rfl <;> rfl
theorem Try.info_page : (Try.prog.info? 42).map (·.size) = some 5 := by kernel_rfl
theorem impl_pagesCopy (A : Option Addr) (c : Nat) (ps : List Pg) (w : World) (hl : ps.length = 4) (hR : Row w A (pgs ps)) :
 Calls Try.prog 61 #[.slice A 4 c] w fun e w' =>
  ∃ b, e = .returned (.slice (some ⟨b, 0, none⟩) 4 4) ∧ w.heap.size ≤ b ∧ b < w'.heap.size ∧ Row w' (some ⟨b, 0, none⟩) (pgs ps) ∧ Below w.heap.size w w' := by
 obtain ⟨pb, po, rfl⟩ := hR.addr (pgs_ne (by rintro rfl; simp at hl))
 have HL := Lib.hid hl
 clear hl
 have hlen : (pgs ps).length = 20 := by rw [pgs_len, HL.out]
 have hR0 : Row (w.alloc (.cells #[.int .i64 0, .int .i64 0, .int .i64 0, .int .i64 0, .int .i64 0, .int .i64 0, .int .i64 0, .int .i64 0, .int .i64 0, .int .i64 0, .int .i64 0, .int .i64 0, .int .i64 0, .int .i64 0, .int .i64 0, .int .i64 0, .int .i64 0, .int .i64 0, .int .i64 0, .int .i64 0] 103)) (some ⟨w.heap.size, 0, none⟩) (pgs (List.replicate 4 ⟨0, rc0⟩)) := Row.new w #[.int .i64 0, .int .i64 0, .int .i64 0, .int .i64 0, .int .i64 0, .int .i64 0, .int .i64 0, .int .i64 0, .int .i64 0, .int .i64 0, .int .i64 0, .int .i64 0, .int .i64 0, .int .i64 0, .int .i64 0, .int .i64 0, .int .i64 0, .int .i64 0, .int .i64 0, .int .i64 0] _
 obtain ⟨b', o', he, hc⟩ := hR0 (by simp [pgs, Pg.vs])
 cases he
 have hg : ∀ j, j < 20 → ∃ u, (pgs (List.replicate 4 ⟨0, rc0⟩))[j]? = some u := fun j hj => get_some (by rw [pgs_len]; simpa using hj)
 obtain ⟨b', o', he, hc'⟩ := (hR.alloc (.cells #[.int .i64 0, .int .i64 0, .int .i64 0, .int .i64 0, .int .i64 0, .int .i64 0, .int .i64 0, .int .i64 0, .int .i64 0, .int .i64 0, .int .i64 0, .int .i64 0, .int .i64 0, .int .i64 0, .int .i64 0, .int .i64 0, .int .i64 0, .int .i64 0, .int .i64 0, .int .i64 0] 103)) (by intro e; rw [e] at hlen; simp at hlen)
 cases he
 have hcp := run_copy_n (P := Try.prog) (w.alloc (.cells #[.int .i64 0, .int .i64 0, .int .i64 0, .int .i64 0, .int .i64 0, .int .i64 0, .int .i64 0, .int .i64 0, .int .i64 0, .int .i64 0, .int .i64 0, .int .i64 0, .int .i64 0, .int .i64 0, .int .i64 0, .int .i64 0, .int .i64 0, .int .i64 0, .int .i64 0, .int .i64 0] 103)) 33 33 3 42 5 w.heap.size 0 4 4 ⟨pb, po, none⟩ 4 c 4 (pgs ps) Try.underlying33 Try.info_page rfl hlen
  (fun j v hj => by rw [addr_add]; exact (hc' j v hj).1) (fun j hj => by obtain ⟨u, hu⟩ := hg j (by omega); rw [(hc j u hu).1]; rfl) (fun j hj => by obtain ⟨u, hu⟩ := hg j (by omega); exact (hc j u hu).2) (oneCell_pgs ps)
 have hW := wrote_setRow w.heap.size (pgs ps) 0 (w.alloc (.cells #[.int .i64 0, .int .i64 0, .int .i64 0, .int .i64 0, .int .i64 0, .int .i64 0, .int .i64 0, .int .i64 0, .int .i64 0, .int .i64 0, .int .i64 0, .int .i64 0, .int .i64 0, .int .i64 0, .int .i64 0, .int .i64 0, .int .i64 0, .int .i64 0, .int .i64 0, .int .i64 0] 103)) (fun j hj => by obtain ⟨u, hu⟩ := hg j (by omega); exact ⟨u, (hc j u hu).1⟩)
 obtain ⟨W1, hW1⟩ : ∃ W1, (w.alloc (.cells #[.int .i64 0, .int .i64 0, .int .i64 0, .int .i64 0, .int .i64 0, .int .i64 0, .int .i64 0, .int .i64 0, .int .i64 0, .int .i64 0, .int .i64 0, .int .i64 0, .int .i64 0, .int .i64 0, .int .i64 0, .int .i64 0, .int .i64 0, .int .i64 0, .int .i64 0, .int .i64 0] 103)).setCells w.heap.size 0 (pgs ps) = W1 := ⟨_, rfl⟩
 rw [hW1] at hcp hW
 have hr1 : Row W1 (some ⟨w.heap.size, 0, none⟩) (pgs ps) := fun _ => ⟨_, _, rfl, fun j u hj => ⟨by have := hW.new_ j u hj; rw [Nat.zero_add] at this ⊢; exact this, by
  rw [hW.frozen]; have hjl := (List.getElem?_eq_some_iff.1 hj).1; obtain ⟨u', hu'⟩ := hg j (by omega); exact (hc j u' hu').2⟩⟩
 have hs1 : w.heap.size < W1.heap.size := by rw [hW.size, World.size_alloc]; omega
 have hB1 : Below w.heap.size w W1 := ((Below.refl _ _).alloc (Nat.le_refl _) _).trans (hW.agr.below (by simp) (by rintro i rfl; omega))
 clear hW hW1 hc hc' hg hR0 hlen hR HL
 go_enter Try.func61, Try.ntmps61
 go_wp2
 go_ret
 exact ⟨_, rfl, Nat.le_refl _, hs1, hr1, hB1⟩

theorem make_blocks (w : World) : (Instr.makeSlice 25 (.int .i64 4) (.int .i64 4)).run Try.prog w = .ok (.slice (some ⟨w.heap.size, 0, none⟩) 4 4) (w.alloc (.cells #[.slice none 0 0, .int .i64 0, .slice none 0 0, .int .i64 0, .slice none 0 0, .int .i64 0, .slice none 0 0, .int .i64 0] 35)) := by kernel_rfl
theorem impl_flashCopy (A : Option Addr) (c : Nat) (f : List Bk) (w : World) (hl : f.length = 4) (hp : ∀ b ∈ f, b.pages.length = 4) (hF : Fl w A f) :
 Calls Try.prog 40 #[.slice A 4 c] w fun e w' =>
  ∃ g, e = .returned (.slice (some ⟨g, 0, none⟩) 4 4) ∧ OFl w' w.heap.size w'.heap.size (some ⟨g, 0, none⟩) f ∧ Below w.heap.size w w' := by
 obtain ⟨hs, hF⟩ := hF
 obtain ⟨bk, off, rfl⟩ := hF.addr (by rintro rfl; simp at hl)
 have HL := Lib.hid hl
 have HP := Lib.hid hp
 clear hl hp
 have hmk := make_blocks
 have hnew := Bks.new w 4 35 #[.slice none 0 0, .int .i64 0, .slice none 0 0, .int .i64 0, .slice none 0 0, .int .i64 0, .slice none 0 0, .int .i64 0] rfl
 have hB0 : Below w.heap.size w (w.alloc (.cells #[.slice none 0 0, .int .i64 0, .slice none 0 0, .int .i64 0, .slice none 0 0, .int .i64 0, .slice none 0 0, .int .i64 0] 35)) := (Below.refl _ _).alloc (Nat.le_refl _) _
 go_enter Try.func40, Try.ntmps40
 go_wp2
 go_loopw [11] (fun i wr => ∃ (k : Nat) (ks : List (Option Addr × Nat)), k ≤ 4 ∧ i = .int .i64 k ∧ Below w.heap.size w wr ∧ w.heap.size < wr.heap.size ∧ Bks wr (some ⟨w.heap.size, 0, none⟩) (f.take k ++ (List.replicate 4 zbk).drop k) ks ∧ Apt w.heap.size wr.heap.size (some ⟨w.heap.size, 0, none⟩) ks) (fun i _ => 4 - (intOf i).toNat)
 case atStart => exact ⟨0, _, by omega, rfl, hB0, by simp, hnew, (Apt.new _ _).mono (Nat.le_refl _) (by simp)⟩
 case round =>
  clear hnew hB0
  obtain ⟨k, ks, hk, rfl, hb, hsz, hBk, hApt⟩ := hrel
  by_cases hlt : k < 4
  · obtain ⟨B, hB⟩ := get_some (l := f) (k := k) (by have := HL.out; omega)
    have hBl : B.pages.length = 4 := HP.out B (List.mem_of_getElem? hB)
    obtain ⟨⟨Ap, cp⟩, _, c0, c1, _, _, hR, hlc⟩ := hF.at_ hB
    have hbk : bk < w.heap.size := lt_of_cell c0
    replace c0 := (hb.cell (p := ⟨bk, off + k * 2, none⟩) hbk).trans c0
    replace c1 := (hb.cell (p := ⟨bk, off + k * 2 + 1, none⟩) hbk).trans c1
    have hRw := (hR.below hb (Nat.le_refl _))
    have HB := Lib.hid hB
    have HBL := Lib.hid hBl
    rw [hBl] at c0
    clear hbk hB hR hBl hlc
    go_wp2
    have hx0 : (wr.alloc (.cells #[.slice Ap 4 cp, .int .i64 B.worn] 35)).cell? ⟨wr.heap.size, 0, none⟩ = some (.slice Ap 4 cp) := by simp
    have hx1 : (wr.alloc (.cells #[.slice Ap 4 cp, .int .i64 B.worn] 35)).cell? ⟨wr.heap.size, 1, none⟩ = some (.int .i64 B.worn) := by simp
    have hRW := hRw.alloc (.cells #[.slice Ap 4 cp, .int .i64 B.worn] 35)
    have hBW := hBk.alloc (.cells #[.slice Ap 4 cp, .int .i64 B.worn] 35)
    have hbW : Below w.heap.size w (wr.alloc (.cells #[.slice Ap 4 cp, .int .i64 B.worn] 35)) := hb.alloc hb.size _
    have hsW : (wr.alloc (.cells #[.slice Ap 4 cp, .int .i64 B.worn] 35)).heap.size = wr.heap.size + 1 := by simp
    generalize wr.alloc (.cells #[.slice Ap 4 cp, .int .i64 B.worn] 35) = W at *
    have HSW := Lib.hid hsW
    have hne1 : ¬ (w.heap.size = wr.heap.size) := by omega
    have hne2 : ¬ (wr.heap.size = w.heap.size) := by omega
    have HG : Hid ((f.take k ++ (List.replicate 4 zbk).drop k)[k]? = some zbk) := by
     have := HL.out
     rw [Hid, List.getElem?_append_right (by simp; omega), List.getElem?_drop, List.getElem?_replicate, if_pos (by simp; omega)]
    clear hsW hRw hBk hb c0 c1
    go_region_held3 (fun w' => w'.cell? ⟨wr.heap.size, 0, none⟩ = some (.slice Ap 4 cp) ∧ w'.cell? ⟨wr.heap.size, 1, none⟩ = some (.int .i64 B.worn)) (go_keep)
     (first | (go_at_call 61; refine (impl_pagesCopy Ap cp B.pages _ HBL.out (by exact hRW)).mono ?_; rintro e w1 ⟨b, rfl, h1, h2, h3, h4⟩; have y0 := (h4.cell (p := ⟨wr.heap.size, 0, none⟩) (by have := HSW.out; simp; omega)).trans hx0; have y1 := (h4.cell (p := ⟨wr.heap.size, 1, none⟩) (by have := HSW.out; simp; omega)).trans hx1; replace h4 := undrew h4; have hBk1 := hBW.below h4 (Nat.le_refl _); obtain ⟨_, _, z0, z1, z2, z3, _, _⟩ := hBk1.at_ HG.out; rw [Nat.zero_add] at z0 z1 z2 z3))
    have hW := wrote_hdr hBk1 HG.out (.slice (some ⟨b, 0, none⟩) 4 4) (.int .i64 B.worn)
    have hB2 : Below w.heap.size w w1 := hbW.trans (h4.mono (by have := HSW.out; omega))
    have e1 := HL.out
    have e2 := HBL.out
    have e3 := HSW.out
    simp only [World.size_drew] at h1
    have hR2 := hBk1.setBlock (i := k) (x := (some ⟨b, 0, none⟩, 4)) (c := B) (by simp; omega) (fun j y hy e => (hApt.in_ j y _ hy e).2.2 rfl) (by rw [blk_some]; omega) h3 (by omega) (by rw [e2]; exact hW)
    rw [copy_step zbk f 4 k B HB.out e1] at hR2
    have hApt2 := hApt.set (hi' := w1.heap.size) k (some ⟨b, 0, none⟩, 4) (fun c hc => by rw [blk_some] at hc; subst hc; exact ⟨by omega, h2⟩) (by omega) (by omega)
    rw [Nat.zero_add] at hR2 hW
    have hB3 := hB2.trans (hW.agr.below (B := w.heap.size) hB2.size (fun i e => by rw [e]; exact Nat.le_refl _))
    have hs3 := hW.size
    have hs4 : w.heap.size < w1.heap.size := by omega
    have HS3 := Lib.hid hs3
    clear hs3 e1 e2 e3 hW hB2 hBk1
    go_wp2
    go_roundw
    case rel => exact ⟨k + 1, _, by omega, by go_num, hB3, by rw [HS3.out]; exact hs4, hR2, by rw [HS3.out]; exact hApt2⟩
    case measure => simp [intOf]; omega
  · obtain rfl : k = 4 := by omega
    go_wp2
    go_ret
    refine ⟨_, rfl, ⟨ks, ?_, hApt⟩, hb⟩
    have := HL.out
    rw [show (List.replicate 4 zbk).drop 4 = [] from rfl, List.append_nil, List.take_of_length_le (by omega)] at hBk
    exact hBk
end Go.Proofs.Ytclnogfmmekooaa
namespace Go.Proofs.Ytclnogfmmekooaa
set_option linter.unusedVariables false
set_option linter.unusedSimpArgs false
open Go.RowKit Go.Maps
set_option maxHeartbeats 400000
def pg0 : Pg := ⟨0, rc0⟩
def newBlock : Bk := ⟨List.replicate 4 pg0, 0⟩
def flashNew : List Bk := List.replicate 4 newBlock
theorem impl_FlashNew (w : World) :
 Calls Try.prog 21 #[] w fun e w' => ∃ g, e = .returned (.slice (some ⟨g, 0, none⟩) 4 4) ∧ OFl w' w.heap.size w'.heap.size (some ⟨g, 0, none⟩) flashNew ∧ Below w.heap.size w w' := by
 have hmk := make_blocks
 have hnew := Bks.new w 4 35 #[.slice none 0 0, .int .i64 0, .slice none 0 0, .int .i64 0, .slice none 0 0, .int .i64 0, .slice none 0 0, .int .i64 0] rfl
 have hB0 : Below w.heap.size w (w.alloc (.cells #[.slice none 0 0, .int .i64 0, .slice none 0 0, .int .i64 0, .slice none 0 0, .int .i64 0, .slice none 0 0, .int .i64 0] 35)) := (Below.refl _ _).alloc (Nat.le_refl _) _
 go_enter Try.func21, Try.ntmps21
 go_wp2
 go_loopw [6] (fun i wr => ∃ (k : Nat) (ks : List (Option Addr × Nat)), k ≤ 4 ∧ i = .int .i64 k ∧ Below w.heap.size w wr ∧ w.heap.size < wr.heap.size ∧ Bks wr (some ⟨w.heap.size, 0, none⟩) (flashNew.take k ++ (List.replicate 4 zbk).drop k) ks ∧ Apt w.heap.size wr.heap.size (some ⟨w.heap.size, 0, none⟩) ks) (fun i _ => 4 - (intOf i).toNat)
 case atStart => exact ⟨0, _, by omega, rfl, hB0, by simp, hnew, (Apt.new _ _).mono (Nat.le_refl _) (by simp)⟩
 case round =>
  clear hnew hB0
  obtain ⟨k, ks, hk, rfl, hb, hsz, hBk, hApt⟩ := hrel
  by_cases hlt : k < 4
  · have HG : Hid ((flashNew.take k ++ (List.replicate 4 zbk).drop k)[k]? = some zbk) := by
     rw [Hid, List.getElem?_append_right (by simp [flashNew]; omega), List.getElem?_drop, List.getElem?_replicate, if_pos (by simp [flashNew]; omega)]
    go_wp2_with fail
    refine (impl_pagesOf pg0 _).mono ?_
    rintro e w1 ⟨b, rfl, h1, h2, h3, h4⟩
    have hBk1 := hBk.below h4 (Nat.le_refl _)
    obtain ⟨_, _, z0, z1, z2, z3, _, _⟩ := hBk1.at_ HG.out
    have hW := (wrote_one z0 (.slice (some ⟨b, 0, none⟩) 4 4)).more z1
    have hR2 := hBk1.setBlock (i := k) (x := (some ⟨b, 0, none⟩, 4)) (c := newBlock) (by simp [flashNew]; omega) (fun j y hy e => (hApt.in_ j y _ hy e).2.2 rfl) (by rw [blk_some]; omega) h3 (by simp [newBlock]) hW
    rw [copy_step zbk flashNew 4 k newBlock (by rw [flashNew, List.getElem?_replicate, if_pos hlt]) rfl] at hR2
    have hApt2 := hApt.set (hi' := w1.heap.size) k (some ⟨b, 0, none⟩, 4) (fun c hc => by rw [blk_some] at hc; subst hc; exact ⟨by omega, h2⟩) (by omega) (by omega)
    have hB2 : Below w.heap.size w w1 := hb.trans (h4.mono (by omega))
    have hB3 := hB2.trans (hW.agr.below (B := w.heap.size) hB2.size (fun i e => by rw [e]; exact Nat.le_refl _))
    have hs4 : w.heap.size < w1.heap.size := by omega
    rw [Nat.zero_add] at z0 z1 z2 z3 hR2 hB3
    have HS3 := Lib.hid hW.size
    rw [Nat.zero_add] at HS3
    clear hW hB2 hBk1 hBk h4
    go_wp2
    go_roundw
    case rel => exact ⟨k + 1, _, by omega, by go_num, hB3, by rw [HS3.out]; exact hs4, hR2, by rw [HS3.out]; exact hApt2⟩
    case measure => simp [intOf]; omega
  · obtain rfl : k = 4 := by omega
    go_wp2
    go_ret
    exact ⟨_, rfl, ⟨ks, hBk, hApt⟩, hb⟩

/-- block i wiped -/
def wipe (f : List Bk) (i : Nat) (torn : Bool) : List Bk :=
 f.set i ⟨List.replicate 4 (if torn then ⟨2, rc0⟩ else pg0), (f.getD i zbk).worn + 1⟩
/-- what FlashWipe answers, of an ok flash and a block that is there -/
def flashWipe (f : List Bk) (block : Int) (torn : Bool) : List Bk × Bool :=
 if flashOk f = false ∨ blockB block = false then ([], false) else if (f.getD block.toNat zbk).worn = 200 then (f, false) else (wipe f block.toNat torn, true)
/-- two results: a flash of the call's own, and a bool -/
def FlPost (r : List Bk × Bool) (w : World) (e : Ending) (w' : World) : Prop :=
 ∃ A c, e = .returned (.tuple #[.slice A r.1.length c, .bool r.2]) ∧ r.1.length ≤ c ∧ OFl w' w.heap.size w'.heap.size A r.1 ∧ Below w.heap.size w w'
theorem ofl_nil (w : World) (lo hi : Nat) : OFl w lo hi none [] :=
 ⟨[], ⟨rfl, Row.nil _ _, fun _ _ _ h _ => absurd h (by simp)⟩, ⟨fun _ h => (by cases h), fun _ _ _ h _ => absurd h (by simp), fun _ _ _ _ _ h _ _ _ => absurd h (by simp)⟩⟩
/-- block i of a flash of one's own is replaced by newer pages -/
theorem OFl.replaced {w3 w4 w5 : World} {lo g b i n : Nat} {f : List Bk} {hs : List (Option Addr × Nat)} {c : Bk} (hBk : Bks w3 (some ⟨g, 0, none⟩) f hs) (hApt : Apt lo w3.heap.size (some ⟨g, 0, none⟩) hs) (hi : i < f.length)
 (h1 : w3.heap.size ≤ b) (h2 : b < w4.heap.size) (h3 : Row w4 (some ⟨b, 0, none⟩) (pgs c.pages)) (h4 : Below w3.heap.size w3 w4) (hc : c.pages.length = n) (hlo : lo ≤ w3.heap.size) (hW : Wrote w4 w5 g (0 + i * 2) [.slice (some ⟨b, 0, none⟩) n n, .int .i64 c.worn]) :
 OFl w5 lo w5.heap.size (some ⟨g, 0, none⟩) (f.set i c) ∧ Below lo w3 w5 := by
 subst hc
 have hBk1 := hBk.below h4 (Nat.le_refl _)
 have hg := hApt.top g (by rw [blk_some])
 have hs4 := h4.size
 refine ⟨⟨_, hBk1.setBlock (i := i) (x := (some ⟨b, 0, none⟩, c.pages.length)) (c := c) hi (fun j y hy e => (hApt.in_ j y _ hy e).2.2 rfl) (by rw [blk_some]; omega) h3 (Nat.le_refl _) hW, ?_⟩, ?_⟩
 · rw [hW.size]
   exact hApt.set (hi' := w4.heap.size) i _ (fun d hd => by rw [blk_some] at hd; omega) hlo (by omega)
 · exact (h4.mono hlo).trans (hW.agr.below (by omega) (fun k e => by rw [e]; exact hg.1))
theorem impl_FlashWipe (f : List Bk) (block : Int) (torn : Bool) (A : Option Addr) (c : Nat) (w : World) (hF : Fl w A f) :
 Calls Try.prog 22 #[.slice A f.length c, .int .i64 block, .bool torn] w (FlPost (flashWipe f block torn) w) := by
 by_cases hok : flashOk f = true
 · by_cases hbo : blockB block = true
   · have hb04 : 0 ≤ block ∧ block < 4 := by unfold blockB at hbo; simpa using hbo
     obtain ⟨i, rfl⟩ := Int.eq_ofNat_of_zero_le hb04.1
     have hi4 : i < 4 := by omega
     have hl := flashOk_len hok
     have hsh := flashOk_shape hok
     have HL := Lib.hid hl
     obtain ⟨B, hB⟩ := get_some (l := f) (k := i) (by omega)
     have hBm := hsh B (List.mem_of_getElem? hB)
     have hBget : f.getD i zbk = B := by rw [List.getD_eq_getElem?_getD, hB]; rfl
     have HSH := Lib.hid hsh
     clear hsh hb04 hl
     go_enter Try.func22, Try.ntmps22
     go_wp2_with fail
     refine (impl_FlashOk f A c _ hF).mono ?_
     rintro e w1 ⟨rfl, hb⟩
     rw [hok]
     go_wp2_with fail
     refine (impl_blockOk _ _).mono ?_
     rintro e w2 ⟨rfl, rfl⟩
     rw [hbo]
     go_wp2_with fail
     rw [HL.out]
     refine (impl_flashCopy A c f _ HL.out (fun b hb => (HSH.out b hb).1) (hF.below hb (Nat.le_refl _))).mono ?_
     rintro e w3 ⟨g, rfl, ⟨hs, hBk, hApt⟩, hb3⟩
     obtain ⟨x, hx, z0, z1, z2, z3, hR, _⟩ := hBk.at_ hB
     rw [Nat.zero_add] at z0 z1 z2 z3
     obtain ⟨hw1, hw2, hw3⟩ := hBm
     have hB3 : Below w.heap.size w w3 := hb.trans (hb3.mono hb.size)
     have hg := hApt.top g (by rw [blk_some])
     by_cases h200 : B.worn = 200
     · have hfin : Hid (flashWipe f i torn = (f, false)) := by unfold Hid flashWipe; rw [hok, hbo, Int.toNat_natCast, hBget]; simp [h200]
       rw [h200] at z1
       go_wp2
       go_ret2
       rw [hfin.out]
       exact ⟨some ⟨g, 0, none⟩, 4, ret_sl HL.out.symm, by rw [HL.out]; exact Nat.le_refl _, ⟨hs, hBk, hApt.mono hb.size (Nat.le_refl _)⟩, hB3⟩
     · have hfin : Hid (flashWipe f i torn = (wipe f i torn, true)) := by unfold Hid flashWipe; rw [hok, hbo, Int.toNat_natCast, hBget]; simp [h200]
       have hlt : B.worn < 200 := by omega
       have hi4' : (i : Int) < 4 := by omega
       have hi0 : (0 : Int) ≤ i := by omega
       have hwr : IntKind.i64.wrap (B.worn + 1) = B.worn + 1 := IntWalk.i64_in _ (by omega)
       cases torn
       · go_wp2
         go_region_law (first | (go_simp; go_at_call 38; refine (impl_pagesOf ⟨0, rc0⟩ _).mono ?_; rintro e w4 ⟨b, rfl, h1, h2, h3, h4⟩; replace h4 := undrew h4; have y1 := (h4.cell (p := ⟨g, i * 2 + 1, none⟩) hg.2).trans z1; have y0 := (h4.cell (p := ⟨g, i * 2, none⟩) hg.2).trans z0; have y2 := (h4.frozen (p := ⟨g, i * 2, none⟩) hg.2).trans z2; have y3 := (h4.frozen (p := ⟨g, i * 2 + 1, none⟩) hg.2).trans z3))
         all_goals
          have hBk1 := hBk.below h4 (Nat.le_refl _)
          have hW := wrote_hdr hBk1 hB (.slice (some ⟨b, 0, none⟩) 4 4) (.int .i64 (B.worn + 1))
          obtain ⟨hO, hb5⟩ := OFl.replaced (c := ⟨List.replicate 4 ⟨0, rc0⟩, B.worn + 1⟩) hBk hApt (by have := HL.out; omega) h1 h2 h3 h4 (by simp) hb3.size hW
          rw [Nat.zero_add] at hO hb5
          have hBf : Below w.heap.size w _ := hB3.trans (hb5.mono hb.size)
          have hO' := hO.mono hb.size (Nat.le_refl _)
          clear hO hb5 hW hBk1
          go_wp2
          go_ret2
          rw [hfin.out]
          have el : (wipe f i false).length = 4 := by unfold wipe; rw [List.length_set]; exact HL.out
          exact ⟨some ⟨g, 0, none⟩, 4, ret_sl el.symm, by rw [el]; exact Nat.le_refl _, by unfold wipe; rw [hBget]; exact hO', hBf⟩
       · go_wp2
         go_region_law (first | (go_simp; go_at_call 38; refine (impl_pagesOf ⟨2, rc0⟩ _).mono ?_; rintro e w4 ⟨b, rfl, h1, h2, h3, h4⟩; replace h4 := undrew h4; have y1 := (h4.cell (p := ⟨g, i * 2 + 1, none⟩) hg.2).trans z1; have y0 := (h4.cell (p := ⟨g, i * 2, none⟩) hg.2).trans z0; have y2 := (h4.frozen (p := ⟨g, i * 2, none⟩) hg.2).trans z2; have y3 := (h4.frozen (p := ⟨g, i * 2 + 1, none⟩) hg.2).trans z3))
         all_goals
          have hBk1 := hBk.below h4 (Nat.le_refl _)
          have hW := wrote_hdr hBk1 hB (.slice (some ⟨b, 0, none⟩) 4 4) (.int .i64 (B.worn + 1))
          obtain ⟨hO, hb5⟩ := OFl.replaced (c := ⟨List.replicate 4 ⟨2, rc0⟩, B.worn + 1⟩) hBk hApt (by have := HL.out; omega) h1 h2 h3 h4 (by simp) hb3.size hW
          rw [Nat.zero_add] at hO hb5
          have hBf : Below w.heap.size w _ := hB3.trans (hb5.mono hb.size)
          have hO' := hO.mono hb.size (Nat.le_refl _)
          clear hO hb5 hW hBk1
          go_wp2
          go_ret2
          rw [hfin.out]
          have el : (wipe f i true).length = 4 := by unfold wipe; rw [List.length_set]; exact HL.out
          exact ⟨some ⟨g, 0, none⟩, 4, ret_sl el.symm, by rw [el]; exact Nat.le_refl _, by unfold wipe; rw [hBget]; exact hO', hBf⟩
   · have hfin : Hid (flashWipe f block torn = ([], false)) := by unfold Hid flashWipe; simp [hbo]
     have ho : blockB block = false := by simpa using hbo
     go_enter Try.func22, Try.ntmps22
     go_wp2_with fail
     refine (impl_FlashOk f A c _ hF).mono ?_
     rintro e w1 ⟨rfl, hb⟩
     rw [hok]
     go_wp2_with fail
     refine (impl_blockOk _ _).mono ?_
     rintro e w2 ⟨rfl, rfl⟩
     rw [ho]
     go_wp2
     go_ret2
     rw [hfin.out]
     exact ⟨none, 0, rfl, Nat.le_refl _, ofl_nil _ _ _, hb⟩
 · have hfin : Hid (flashWipe f block torn = ([], false)) := by unfold Hid flashWipe; simp [hok]
   have ho : flashOk f = false := by simpa using hok
   go_enter Try.func22, Try.ntmps22
   go_wp2_with fail
   refine (impl_FlashOk f A c _ hF).mono ?_
   rintro e w1 ⟨rfl, hb⟩
   rw [ho]
   go_wp2
   go_ret2
   rw [hfin.out]
   exact ⟨none, 0, rfl, Nat.le_refl _, ofl_nil _ _ _, hb⟩
end Go.Proofs.Ytclnogfmmekooaa
namespace Go.Proofs.Ytclnogfmmekooaa
set_option linter.unusedVariables false
set_option linter.unusedSimpArgs false
def isClean (p : Pg) : Bool := decide (p.state = 0)
def clean (b : Bk) : Nat := b.pages.countP isClean
def hasSeq (s : Int) (p : Pg) : Bool := decide (p.state = 1) && decide (p.rc.seq = s)
def seqIn (f : List Bk) (s : Int) : Bool := f.any fun b => b.pages.any (hasSeq s)
def lastStep (addr : Int) (o : Rc) (p : Pg) : Rc := if p.state = 1 ∧ p.rc.addr = addr ∧ o.seq < p.rc.seq then p.rc else o
def lastPs (addr : Int) (o : Rc) (ps : List Pg) : Rc := ps.foldl (lastStep addr) o
def last (f : List Bk) (addr : Int) : Rc := f.foldl (fun o b => lastPs addr o b.pages) rc0
def live (f : List Bk) (p : Pg) : Bool := decide (p.state = 1) && decide (last f p.rc.addr = p.rc)
def mostPs (n : Int) (ps : List Pg) : Int := ps.foldl (fun n p => max n p.rc.seq) n
def most (b : Bk) : Int := mostPs 0 b.pages
def leastStep (n : Int) (p : Pg) : Int := if 0 < p.rc.seq ∧ (n = 0 ∨ p.rc.seq < n) then p.rc.seq else n
def least (b : Bk) : Int := b.pages.foldl leastStep 0
def topSeq (f : List Bk) : Int := f.foldl (fun n b => max n (most b)) 0
def next (f : List Bk) : Int := topSeq f + 1
def openGo (f : List Bk) : Nat → Int → List Bk → Int × Bool
 | _, out, [] => (max out 0, decide (0 ≤ out))
 | i, out, b :: r => if 0 < clean b ∧ clean b < 4 then (i, true) else if 0 < clean b ∧ (out < 0 ∨ b.worn < (f.getD out.toNat zbk).worn) then openGo f (i + 1) i r else openGo f (i + 1) out r
def openB (f : List Bk) : Int × Bool := openGo f 0 (-1) f
def oldGo (f : List Bk) : Nat → Nat → List Bk → Nat
 | _, out, [] => out
 | i, out, b :: r => if most b < most (f.getD out zbk) then oldGo f (i + 1) i r else oldGo f (i + 1) out r
def old (f : List Bk) : Nat := oldGo f 1 0 (f.drop 1)
end Go.Proofs.Ytclnogfmmekooaa
namespace Go.Proofs.Ytclnogfmmekooaa
set_option linter.unusedVariables false
set_option linter.unusedSimpArgs false
def seqsP (ps : List Pg) : List Int := (ps.filter fun p => decide (p.state = 1)).map fun p => p.rc.seq
def seqsF (f : List Bk) : List Int := f.flatMap fun b => seqsP b.pages
theorem seqsP_cons (p : Pg) (ps : List Pg) : seqsP (p :: ps) = if p.state = 1 then p.rc.seq :: seqsP ps else seqsP ps := by
 unfold seqsP
 rw [List.filter_cons]
 by_cases h : p.state = 1 <;> simp [h]
theorem pagesGo_iff (k : List Int → Bool) : ∀ (ps : List Pg) (seen : List Int), pagesGo seen k ps = true ↔ (∀ p ∈ ps, pageOk p = true) ∧ (seqsP ps).Nodup ∧ (∀ q ∈ seqsP ps, q ∉ seen) ∧ k ((seqsP ps).reverse ++ seen) = true
 | [], seen => by simp [pagesGo, seqsP]
 | p :: ps, seen => by
   unfold pagesGo
   rw [seqsP_cons]
   by_cases h1 : pageOk p = false
   · simp [h1]
   · have h1' : pageOk p = true := by simpa using h1
     rw [if_neg h1]
     by_cases h2 : p.state = 1
     · rw [if_neg (by simpa using h2), if_pos h2]
       by_cases h3 : p.rc.seq ∈ seen
       · rw [if_pos h3]
         constructor
         · intro h; cases h
         · rintro ⟨_, _, h, _⟩; exact absurd h3 (h _ (List.mem_cons_self ..))
       · rw [if_neg h3, pagesGo_iff k ps]
         constructor
         · rintro ⟨a, b, c, d⟩
           refine ⟨?_, List.nodup_cons.2 ⟨fun hm => c _ hm (List.mem_cons_self ..), b⟩, ?_, ?_⟩
           · intro q hq; rcases List.mem_cons.1 hq with rfl | hq; exact h1'; exact a q hq
           · intro q hq; rcases List.mem_cons.1 hq with rfl | hq; exact h3; exact fun hm => c q hq (List.mem_cons_of_mem _ hm)
           · rw [List.reverse_cons, List.append_assoc]; exact d
         · rintro ⟨a, b, c, d⟩
           obtain ⟨b1, b2⟩ := List.nodup_cons.1 b
           refine ⟨fun q hq => a q (List.mem_cons_of_mem _ hq), b2, ?_, ?_⟩
           · intro q hq hm
             rcases List.mem_cons.1 hm with rfl | hm
             · exact b1 hq
             · exact c q (List.mem_cons_of_mem _ hq) hm
           · rw [List.reverse_cons, List.append_assoc] at d; exact d
     · rw [if_pos h2, if_neg h2, pagesGo_iff k ps]
       constructor
       · rintro ⟨a, b⟩
         exact ⟨fun q hq => by rcases List.mem_cons.1 hq with rfl | hq; exact h1'; exact a q hq, b⟩
       · rintro ⟨a, b⟩
         exact ⟨fun q hq => a q (List.mem_cons_of_mem _ hq), b⟩
theorem blocksGo_iff : ∀ (f : List Bk) (seen : List Int), blocksGo seen f = true ↔ (∀ b ∈ f, blockShape b = true ∧ ∀ p ∈ b.pages, pageOk p = true) ∧ (seqsF f).Nodup ∧ (∀ q ∈ seqsF f, q ∉ seen)
 | [], seen => by simp [blocksGo, seqsF]
 | b :: f, seen => by
   unfold blocksGo
   rw [show seqsF (b :: f) = seqsP b.pages ++ seqsF f from by simp [seqsF]]
   by_cases h1 : blockShape b = false
   · simp [h1]
   · have h1' : blockShape b = true := by simpa using h1
     rw [if_neg h1, pagesGo_iff, blocksGo_iff f]
     constructor
     · rintro ⟨a, b1, c, d, e, g⟩
       refine ⟨fun x hx => ?_, List.nodup_append.2 ⟨b1, e, fun x hx y hy hxy => ?_⟩, fun q hq => ?_⟩
       · rcases List.mem_cons.1 hx with rfl | hx
         · exact ⟨h1', a⟩
         · exact d x hx
       · subst hxy; exact g x hy (List.mem_append_left _ (List.mem_reverse.2 hx))
       · rcases List.mem_append.1 hq with hq | hq
         · exact c q hq
         · exact fun hm => g q hq (List.mem_append_right _ hm)
     · rintro ⟨a, b1, c⟩
       obtain ⟨n1, n2, n3⟩ := List.nodup_append.1 b1
       refine ⟨(a b (List.mem_cons_self ..)).2, n1, fun q hq => c q (List.mem_append_left _ hq), fun x hx => a x (List.mem_cons_of_mem _ hx), n2, fun q hq hm => ?_⟩
       rcases List.mem_append.1 hm with hm | hm
       · exact n3 q (List.mem_reverse.1 hm) q hq rfl
       · exact c q (List.mem_append_right _ hq) hm
theorem flashOk_iff (f : List Bk) : flashOk f = true ↔ f.length = 4 ∧ (∀ b ∈ f, blockShape b = true ∧ ∀ p ∈ b.pages, pageOk p = true) ∧ (seqsF f).Nodup := by
 unfold flashOk
 rw [Bool.and_eq_true, decide_eq_true_iff, blocksGo_iff]
 constructor
 · rintro ⟨a, b, c, _⟩; exact ⟨a, b, c⟩
 · rintro ⟨a, b, c⟩; exact ⟨a, b, c, fun _ _ h => by cases h⟩
/-- a block without numbers put in the place of another -/
theorem seqsF_set : ∀ (f : List Bk) (i : Nat) (b : Bk), seqsP b.pages = [] → (seqsF (f.set i b)).Sublist (seqsF f)
 | [], i, b, h => by simp
 | c :: f, 0, b, h => by
   rw [List.set_cons_zero, show seqsF (b :: f) = seqsP b.pages ++ seqsF f from by simp [seqsF], show seqsF (c :: f) = seqsP c.pages ++ seqsF f from by simp [seqsF], h]
   exact List.sublist_append_right _ _
 | c :: f, i + 1, b, h => by
   rw [List.set_cons_succ, show seqsF (c :: f.set i b) = seqsP c.pages ++ seqsF (f.set i b) from by simp [seqsF], show seqsF (c :: f) = seqsP c.pages ++ seqsF f from by simp [seqsF]]
   exact (seqsF_set f i b h).append_left _
theorem getD_mem {f : List Bk} {i : Nat} (h : i < f.length) : f.getD i zbk ∈ f := by
 rw [List.getD_eq_getElem?_getD, List.getElem?_eq_getElem h]
 exact List.getElem_mem h
theorem wiped_ok {f : List Bk} (h : flashOk f = true) {i : Nat} (hi : i < 4) (torn : Bool) (hw : (f.getD i zbk).worn ≠ 200) : flashOk (wipe f i torn) = true := by
 have hs := flashOk_shape h _ (getD_mem (i := i) (by have := flashOk_len h; omega))
 rw [flashOk_iff] at h ⊢
 obtain ⟨a, b, c⟩ := h
 have key : blockShape ⟨List.replicate 4 (if torn then ⟨2, rc0⟩ else pg0), (f.getD i zbk).worn + 1⟩ = true := by
  unfold blockShape
  have h1 : 0 ≤ (f.getD i zbk).worn + 1 := by omega
  have h2 : (f.getD i zbk).worn + 1 ≤ 200 := by omega
  simp only [h1, h2, decide_true, Bool.true_and, List.length_replicate]
  cases torn <;> decide
 refine ⟨by unfold wipe; simpa using a, fun x hx => ?_, (seqsF_set f i _ ?_).nodup c⟩
 · unfold wipe at hx
   rcases List.mem_or_eq_of_mem_set hx with hx | rfl
   · exact b x hx
   · refine ⟨key, fun p hp => ?_⟩
     have := List.eq_of_mem_replicate hp
     subst this
     cases torn <;> decide
 · show seqsP (List.replicate 4 (if torn then ⟨2, rc0⟩ else pg0)) = []
   cases torn <;> decide
theorem wipe_len (f : List Bk) (i : Nat) (torn : Bool) : (wipe f i torn).length = f.length := by unfold wipe; simp
theorem wipe_at {f : List Bk} {i : Nat} (h : i < f.length) (torn : Bool) : (wipe f i torn)[i]? = some ⟨List.replicate 4 (if torn then ⟨2, rc0⟩ else pg0), (f.getD i zbk).worn + 1⟩ := by
 unfold wipe; rw [List.getElem?_set_self h]
theorem wipe_ne {f : List Bk} {i j : Nat} (h : j ≠ i) (torn : Bool) : (wipe f i torn)[j]? = f[j]? := by
 unfold wipe; rw [List.getElem?_set_ne (by omega)]
end Go.Proofs.Ytclnogfmmekooaa
namespace Go.Proofs.Ytclnogfmmekooaa
set_option linter.unusedVariables false
set_option linter.unusedSimpArgs false
open Go.RowKit Go.Maps
set_option maxHeartbeats 400000
theorem spec_l2Clean (b : Bk) (A : Option Addr) (c : Nat) (w : World) (hl : b.pages.length < 1000000000000) (hR : Row w A (pgs b.pages)) :
 Calls Try.prog 111 #[.agg #[.slice A b.pages.length c, .int .i64 b.worn]] w fun e w' => e = .returned (.int .i64 (clean b)) ∧ Below w.heap.size w w' := by
 obtain ⟨ps, n⟩ := b
 dsimp only at *
 have hT : Hid ((clean ⟨ps, n⟩ : Int) = 0 + (ps.drop 0).countP isClean) := by unfold Hid clean; simp
 go_enter Try.func111, Try.ntmps111
 go_wp2
 go_loopw [3, 4] (fun q i wr => ∃ (k m : Nat), k ≤ ps.length ∧ i = .int .i64 k ∧ q = .int .i64 m ∧ m ≤ k ∧ wr = w.alloc (.cells #[.slice A ps.length c, .int .i64 n] 35) ∧ Hid ((clean ⟨ps, n⟩ : Int) = m + (ps.drop k).countP isClean)) (fun _ i _ => ps.length - (intOf i).toNat)
 case atStart => exact ⟨0, 0, by omega, rfl, rfl, by omega, rfl, hT⟩
 case round =>
  clear hT
  obtain ⟨k, m, hk, rfl, rfl, hm, rfl, hT⟩ := hrel
  by_cases hlt : k < ps.length
  · obtain ⟨p, hp⟩ := get_some hlt
    obtain ⟨bk, o, rfl⟩ := hR.addr (pgs_ne (by rintro rfl; simp at hlt))
    obtain ⟨c0, _⟩ := (hR.alloc (.cells #[.slice (some ⟨bk, o, none⟩) ps.length c, .int .i64 n] 35)).pg hp
    have hd := Lib.hid (drop_cons hp)
    have hk1 : (k : Int) < ps.length := by omega
    clear hp
    by_cases h0 : p.state = 0
    · have hi : Hid (isClean p = true) := by unfold Hid isClean; simp [h0]
      rw [h0] at c0
      clear h0
      go_wp2
      go_roundw
      case rel => exact ⟨k + 1, m + 1, by omega, by go_num, by go_num, by omega, by trivial, by rw [Hid, hT.out, hd.out, List.countP_cons, hi.out]; simp; omega⟩
      case measure => simp [intOf]; omega
    · have hi : Hid (isClean p = false) := by unfold Hid isClean; simp [h0]
      go_wp2
      go_roundw
      case rel => exact ⟨k + 1, m, by omega, by go_num, rfl, by omega, by trivial, by rw [Hid, hT.out, hd.out, List.countP_cons, hi.out]; simp⟩
      case measure => simp [intOf]; omega
  · obtain rfl : k = ps.length := by omega
    go_wp2
    go_ret
    exact ⟨ret_int (by rw [hT.out, List.drop_of_length_le (Nat.le_refl _)]; simp), by (repeat (first | (with_reducible exact Below.refl _ _) | (with_reducible assumption) | (refine Below.setCell ?_ (by first | omega | exact hB.size | exact hb.size | (have h := hB.size; simp; omega) | (have h := hb.size; simp; omega) | (simp; omega) | simp) _) | (refine Below.alloc ?_ (by first | omega | exact hB.size | exact hb.size | (have h := hB.size; simp; omega) | (have h := hb.size; simp; omega) | (simp; omega) | simp) _) | (refine Below.drew ?_)))⟩
theorem spec_l3Most (b : Bk) (A : Option Addr) (c : Nat) (w : World) (hl : b.pages.length < 1000000000000) (hR : Row w A (pgs b.pages)) :
 Calls Try.prog 113 #[.agg #[.slice A b.pages.length c, .int .i64 b.worn]] w fun e w' => e = .returned (.int .i64 (most b)) ∧ Below w.heap.size w w' := by
 obtain ⟨ps, n⟩ := b
 dsimp only at *
 have hT : Hid (most ⟨ps, n⟩ = mostPs 0 (ps.drop 0)) := rfl
 go_enter Try.func113, Try.ntmps113
 go_wp2
 go_loopw [3, 4] (fun q i wr => ∃ (k : Nat) (m : Int), k ≤ ps.length ∧ i = .int .i64 k ∧ q = .int .i64 m ∧ wr = w.alloc (.cells #[.slice A ps.length c, .int .i64 n] 35) ∧ Hid (most ⟨ps, n⟩ = mostPs m (ps.drop k))) (fun _ i _ => ps.length - (intOf i).toNat)
 case atStart => exact ⟨0, 0, by omega, rfl, rfl, rfl, hT⟩
 case round =>
  clear hT
  obtain ⟨k, m, hk, rfl, rfl, rfl, hT⟩ := hrel
  by_cases hlt : k < ps.length
  · obtain ⟨p, hp⟩ := get_some hlt
    obtain ⟨bk, o, rfl⟩ := hR.addr (pgs_ne (by rintro rfl; simp at hlt))
    obtain ⟨c0, c1, c2, c3, c4⟩ := (hR.alloc (.cells #[.slice (some ⟨bk, o, none⟩) ps.length c, .int .i64 n] 35)).pg hp
    have hd := Lib.hid (drop_cons hp)
    have hk1 : (k : Int) < ps.length := by omega
    clear hp
    go_wp2
    go_roundw
    case rel => exact ⟨k + 1, max m p.rc.seq, by omega, by go_num, by congr 1; split <;> omega, by trivial, by rw [Hid, hT.out, hd.out]; rfl⟩
    case measure => simp [intOf]; omega
  · obtain rfl : k = ps.length := by omega
    go_wp2
    go_ret
    exact ⟨ret_int (by rw [hT.out, List.drop_of_length_le (Nat.le_refl _)]; rfl), by (repeat (first | (with_reducible exact Below.refl _ _) | (with_reducible assumption) | (refine Below.setCell ?_ (by first | omega | exact hB.size | exact hb.size | (have h := hB.size; simp; omega) | (have h := hb.size; simp; omega) | (simp; omega) | simp) _) | (refine Below.alloc ?_ (by first | omega | exact hB.size | exact hb.size | (have h := hB.size; simp; omega) | (have h := hb.size; simp; omega) | (simp; omega) | simp) _) | (refine Below.drew ?_)))⟩
end Go.Proofs.Ytclnogfmmekooaa
namespace Go.Proofs.Ytclnogfmmekooaa
set_option linter.unusedVariables false
set_option linter.unusedSimpArgs false
open Go.RowKit Go.Maps
set_option maxHeartbeats 400000
def bkHas (s : Int) (b : Bk) : Bool := b.pages.any (hasSeq s)
theorem spec_l2Seq (f : List Bk) (s : Int) (A : Option Addr) (c : Nat) (w : World) (hl : f.length < 1000000000000) (hp : ∀ b ∈ f, b.pages.length < 1000000000000) (hF : Fl w A f) :
 Calls Try.prog 112 #[.slice A f.length c, .int .i64 s] w fun e w' => e = .returned (.bool (seqIn f s)) ∧ w = w' := by
 obtain ⟨hs, hBk⟩ := hF
 have HP := Lib.hid hp
 have hT : Hid (seqIn f s = (f.drop 0).any (bkHas s)) := rfl
 clear hp
 go_enter Try.func112, Try.ntmps112
 go_wp2
 go_loop [5] (fun i => ∃ (k : Nat), k ≤ f.length ∧ i = .int .i64 k ∧ Hid (seqIn f s = (f.drop k).any (bkHas s))) (fun i => f.length - (intOf i).toNat)
 case atStart => exact ⟨0, by omega, rfl, hT⟩
 case round =>
  clear hT
  obtain ⟨k, hk, rfl, hT⟩ := hrel
  by_cases hlt : k < f.length
  · obtain ⟨B, hB⟩ := get_some hlt
    obtain ⟨g, o, rfl⟩ := hBk.addr (by rintro rfl; simp at hlt)
    obtain ⟨⟨Ap, cp⟩, _, z0, _, _, _, hR, _⟩ := hBk.at_ hB
    have hd := Lib.hid (drop_cons hB)
    have hpl := HP.out B (List.mem_of_getElem? hB)
    have hk1 : (k : Int) < f.length := by omega
    obtain ⟨ps, n⟩ := B
    dsimp only at *
    have hT0 : Hid (seqIn f s = ((ps.drop 0).any (hasSeq s) || (f.drop (k + 1)).any (bkHas s))) := by rw [Hid, hT.out, hd.out]; rfl
    clear hB hT hd
    go_wp2
    go_loop [6] (fun j => ∃ (m : Nat), m ≤ ps.length ∧ j = .int .i64 m ∧ Hid (seqIn f s = ((ps.drop m).any (hasSeq s) || (f.drop (k + 1)).any (bkHas s)))) (fun j => ps.length - (intOf j).toNat)
    case atStart => exact ⟨0, by omega, rfl, hT0⟩
    case round =>
     clear hT0
     obtain ⟨m, hm, rfl, hT⟩ := hrel
     by_cases hltm : m < ps.length
     · obtain ⟨p, hq⟩ := get_some hltm
       obtain ⟨pb, po, rfl⟩ := hR.addr (pgs_ne (by rintro rfl; simp at hltm))
       obtain ⟨c0, c1, c2, c3, c4⟩ := hR.pg hq
       have hd := Lib.hid (drop_cons hq)
       have hm1 : (m : Int) < ps.length := by omega
       have hT1 : Hid (seqIn f s = (hasSeq s p || ((ps.drop (m + 1)).any (hasSeq s) || (f.drop (k + 1)).any (bkHas s)))) := by rw [Hid, hT.out, hd.out, List.any_cons, Bool.or_assoc]
       clear hq hT hd
       by_cases h1 : p.state = 1
       · by_cases h2 : p.rc.seq = s
         · have hi : Hid (hasSeq s p = true) := by unfold Hid hasSeq; simp [h1, h2]
           rw [h1] at c0
           rw [h2] at c2
           clear h1 h2
           go_wp2
           go_ret
           exact ⟨ret_bool (by rw [hT1.out, hi.out]; rfl), rfl⟩
         · have hi : Hid (hasSeq s p = false) := by unfold Hid hasSeq; simp [h1, h2]
           rw [h1] at c0
           clear h1
           go_wp2
           go_round
           case rel => exact ⟨m + 1, by omega, by go_num, by rw [Hid, hT1.out, hi.out]; rfl⟩
           case measure => simp [intOf]; omega
       · have hi : Hid (hasSeq s p = false) := by unfold Hid hasSeq; simp [h1]
         go_wp2
         go_round
         case rel => exact ⟨m + 1, by omega, by go_num, by rw [Hid, hT1.out, hi.out]; rfl⟩
         case measure => simp [intOf]; omega
     · obtain rfl : m = ps.length := by omega
       go_wp2
       go_round
       case rel => exact ⟨k + 1, by omega, by go_num, by rw [Hid, hT.out, List.drop_of_length_le (Nat.le_refl _)]; rfl⟩
       case measure => simp [intOf]; omega
  · obtain rfl : k = f.length := by omega
    go_wp2
    go_ret
    exact ⟨ret_bool (by rw [hT.out, List.drop_of_length_le (Nat.le_refl _)]; rfl), rfl⟩
theorem spec_l3Next (f : List Bk) (A : Option Addr) (c : Nat) (w : World) (hl : f.length < 1000000000000) (hp : ∀ b ∈ f, b.pages.length < 1000000000000) (hn : ∀ b ∈ f, most b < 1000000000000) (hF : Fl w A f) :
 Calls Try.prog 108 #[.slice A f.length c] w fun e w' => e = .returned (.int .i64 (next f)) ∧ Below w.heap.size w w' := by
 have HP := Lib.hid hp
 have HN := Lib.hid hn
 have hT : Hid (topSeq f = (f.drop 0).foldl (fun n b => max n (most b)) 0) := rfl
 clear hp hn
 go_enter Try.func108, Try.ntmps108
 go_wp2
 go_loopw [3, 4] (fun q i wr => ∃ (k : Nat) (m : Int), k ≤ f.length ∧ i = .int .i64 k ∧ q = .int .i64 m ∧ 0 ≤ m ∧ m < 1000000000000 ∧ Below w.heap.size w wr ∧ Hid (topSeq f = (f.drop k).foldl (fun n b => max n (most b)) m)) (fun _ i _ => f.length - (intOf i).toNat)
 case atStart => exact ⟨0, 0, by omega, rfl, rfl, by omega, by omega, Below.refl _ _, hT⟩
 case round =>
  clear hT
  obtain ⟨k, m, hk, rfl, rfl, hm0, hm1, hb, hT⟩ := hrel
  by_cases hlt : k < f.length
  · obtain ⟨B, hB⟩ := get_some hlt
    obtain ⟨hs, hBk⟩ := hF.below hb (Nat.le_refl _)
    obtain ⟨g, o, rfl⟩ := hBk.addr (by rintro rfl; simp at hlt)
    obtain ⟨⟨Ap, cp⟩, _, z0, z1, _, _, hR, _⟩ := hBk.at_ hB
    have hd := Lib.hid (drop_cons hB)
    have hpl := HP.out B (List.mem_of_getElem? hB)
    have hnl := HN.out B (List.mem_of_getElem? hB)
    have hk1 : (k : Int) < f.length := by omega
    clear hB
    go_wp2_with fail
    refine (spec_l3Most B Ap cp _ hpl hR).mono ?_
    rintro e w1 ⟨rfl, hb1⟩
    have hB1 := hb.trans (hb1.mono hb.size)
    have hT1 : Hid (topSeq f = (f.drop (k + 1)).foldl (fun n b => max n (most b)) (max m (most B))) := by rw [Hid, hT.out, hd.out]; rfl
    clear hT hd
    generalize most B = x at *
    go_wp2
    go_roundw
    case rel => exact ⟨k + 1, max m x, by omega, by go_num, by congr 1; split <;> omega, by omega, by omega, hB1, hT1⟩
    case measure => simp [intOf]; omega
  · obtain rfl : k = f.length := by omega
    go_wp2
    go_ret
    exact ⟨ret_int (by unfold next; rw [hT.out, List.drop_of_length_le (Nat.le_refl _)]; rfl), hb⟩
theorem Row.rc {w : World} {b o : Nat} {x : Rc} (h : Row w (some ⟨b, o, none⟩) x.vs) :
 w.cell? ⟨b, o, none⟩ = some (.int .i64 x.kind) ∧ w.cell? ⟨b, o + 1, none⟩ = some (.int .i64 x.seq) ∧ w.cell? ⟨b, o + 2, none⟩ = some (.int .i64 x.addr) ∧ w.cell? ⟨b, o + 3, none⟩ = some (.int .i64 x.val) := by
 obtain ⟨b', o', he, hc⟩ := h (by simp [Rc.vs])
 cases he
 exact ⟨(hc 0 _ rfl).1, (hc 1 _ rfl).1, (hc 2 _ rfl).1, (hc 3 _ rfl).1⟩
theorem Row.rcf {w : World} {b o : Nat} {x : Rc} (h : Row w (some ⟨b, o, none⟩) x.vs) :
 w.frozen? ⟨b, o, none⟩ = false ∧ w.frozen? ⟨b, o + 1, none⟩ = false ∧ w.frozen? ⟨b, o + 2, none⟩ = false ∧ w.frozen? ⟨b, o + 3, none⟩ = false := by
 obtain ⟨b', o', he, hc⟩ := h (by simp [Rc.vs])
 cases he
 exact ⟨(hc 0 _ rfl).2, (hc 1 _ rfl).2, (hc 2 _ rfl).2, (hc 3 _ rfl).2⟩
theorem wrote_rec {w : World} {b o : Nat} {x : Rc} (h : Row w (some ⟨b, o, none⟩) x.vs) (y : Rc) :
 Wrote w ((((w.setCell ⟨b, o, none⟩ (.int .i64 y.kind)).setCell ⟨b, o + 1, none⟩ (.int .i64 y.seq)).setCell ⟨b, o + 2, none⟩ (.int .i64 y.addr)).setCell ⟨b, o + 3, none⟩ (.int .i64 y.val)) b o y.vs := by
 refine wrote_setRow b y.vs o w fun j hj => ?_
 obtain ⟨c0, c1, c2, c3⟩ := h.rc
 match j, hj with
 | 0, _ => exact ⟨_, c0⟩
 | 1, _ => exact ⟨_, c1⟩
 | 2, _ => exact ⟨_, c2⟩
 | 3, _ => exact ⟨_, c3⟩
theorem Wrote.rec_ {w w' : World} {b o : Nat} {x y : Rc} (hw : Wrote w w' b o y.vs) (h : Row w (some ⟨b, o, none⟩) x.vs) : Row w' (some ⟨b, o, none⟩) y.vs := fun _ => by
 obtain ⟨b', o', he, hc⟩ := h (by simp [Rc.vs])
 cases he
 refine ⟨b, o, rfl, fun j u hj => ⟨hw.new_ j u hj, (hw.frozen _).trans ?_⟩⟩
 have hl : j < x.vs.length := (List.getElem?_eq_some_iff.1 hj).1
 exact (hc j _ (List.getElem?_eq_getElem hl)).2
theorem spec_l3Last (f : List Bk) (addr : Int) (A : Option Addr) (c : Nat) (w : World) (hl : f.length < 1000000000000) (hp : ∀ b ∈ f, b.pages.length < 1000000000000) (hF : Fl w A f) :
 Calls Try.prog 110 #[.slice A f.length c, .int .i64 addr] w fun e w' => e = .returned (.tuple #[.agg #[.int .i64 (last f addr).kind, .int .i64 (last f addr).seq, .int .i64 (last f addr).addr, .int .i64 (last f addr).val], .bool (decide (0 < (last f addr).seq))]) ∧ Below w.heap.size w w' := by
 have HP := Lib.hid hp
 have hT : Hid (last f addr = (f.drop 0).foldl (fun o b => lastPs addr o b.pages) rc0) := rfl
 clear hp
 go_enter Try.func110, Try.ntmps110
 go_wp2
 go_loopw [7] (fun i wr => ∃ (k : Nat) (x : Rc), k ≤ f.length ∧ i = .int .i64 k ∧ Below w.heap.size w wr ∧ w.heap.size + 1 < wr.heap.size ∧ Row wr (some ⟨w.heap.size + 1, 0, none⟩) x.vs ∧ Row wr (some ⟨w.heap.size, 0, none⟩) rc0.vs ∧ Hid (last f addr = (f.drop k).foldl (fun o b => lastPs addr o b.pages) x)) (fun i _ => f.length - (intOf i).toNat)
 case atStart =>
  refine ⟨0, rc0, by omega, rfl, by (repeat (first | (with_reducible exact Below.refl _ _) | (with_reducible assumption) | (refine Below.setCell ?_ (by first | omega | exact hB.size | exact hb.size | (have h := hB.size; simp; omega) | (have h := hb.size; simp; omega) | (simp; omega) | simp) _) | (refine Below.alloc ?_ (by first | omega | exact hB.size | exact hb.size | (have h := hB.size; simp; omega) | (have h := hb.size; simp; omega) | (simp; omega) | simp) _) | (refine Below.drew ?_))), by simp, ?_, ?_, hT⟩
  · have := Row.new (w.alloc (.cells #[.int .i64 0, .int .i64 0, .int .i64 0, .int .i64 0] 40)) #[.int .i64 0, .int .i64 0, .int .i64 0, .int .i64 0] 40
    simp only [World.size_alloc] at this
    exact this
  · exact (Row.new w #[.int .i64 0, .int .i64 0, .int .i64 0, .int .i64 0] 40).alloc _
 case round =>
  clear hT
  obtain ⟨k, x, hk, rfl, hb, hsz, hx, hz, hT⟩ := hrel
  by_cases hlt : k < f.length
  · obtain ⟨B, hB⟩ := get_some hlt
    have hF1 := hF.below hb (Nat.le_refl _)
    obtain ⟨hs, hBk⟩ := hF1
    obtain ⟨g, o, rfl⟩ := hBk.addr (by rintro rfl; simp at hlt)
    obtain ⟨⟨Ap, cp⟩, _, z0, _, _, _, hR, _⟩ := hBk.at_ hB
    have hd := Lib.hid (drop_cons hB)
    have hpl := HP.out B (List.mem_of_getElem? hB)
    have hk1 : (k : Int) < f.length := by omega
    have HB := Lib.hid hB
    obtain ⟨ps, n⟩ := B
    dsimp only at *
    have hT0 : Hid (last f addr = (f.drop (k + 1)).foldl (fun o b => lastPs addr o b.pages) (lastPs addr x (ps.drop 0))) := by rw [Hid, hT.out, hd.out]; rfl
    clear hB hT hd
    go_wp2
    go_loopw [8] (fun j wr => ∃ (m : Nat) (x : Rc), m ≤ ps.length ∧ j = .int .i64 m ∧ Below w.heap.size w wr ∧ w.heap.size + 1 < wr.heap.size ∧ Row wr (some ⟨w.heap.size + 1, 0, none⟩) x.vs ∧ Row wr (some ⟨w.heap.size, 0, none⟩) rc0.vs ∧ Hid (last f addr = (f.drop (k + 1)).foldl (fun o b => lastPs addr o b.pages) (lastPs addr x (ps.drop m)))) (fun j _ => ps.length - (intOf j).toNat)
    case atStart => exact ⟨0, x, by omega, rfl, hb, hsz, hx, hz, hT0⟩
    case round =>
     clear hT0 z0 hR hBk hx hz hb hsz
     obtain ⟨m, x, hm, rfl, hb, hsz, hx, hz, hT⟩ := hrel
     obtain ⟨hs, hBk⟩ := hF.below hb (Nat.le_refl _)
     obtain ⟨⟨Ap, cp⟩, _, z0, _, _, _, hR, _⟩ := hBk.at_ HB.out
     dsimp only at z0 hR
     by_cases hltm : m < ps.length
     · obtain ⟨p, hq⟩ := get_some hltm
       obtain ⟨pb, po, rfl⟩ := hR.addr (pgs_ne (by rintro rfl; simp at hltm))
       obtain ⟨c0, c1, c2, c3, c4⟩ := hR.pg hq
       obtain ⟨o0, o1, o2, o3⟩ := hx.rc
       obtain ⟨r0, r1, r2, r3⟩ := hx.rcf
       have hd := Lib.hid (drop_cons hq)
       have hm1 : (m : Int) < ps.length := by omega
       have hT1 : Hid (last f addr = (f.drop (k + 1)).foldl (fun o b => lastPs addr o b.pages) (lastPs addr (lastStep addr x p) (ps.drop (m + 1)))) := by rw [Hid, hT.out, hd.out]; rfl
       have hx1 := hx.alloc (.cells #[.int .i64 p.state, .int .i64 p.rc.kind, .int .i64 p.rc.seq, .int .i64 p.rc.addr, .int .i64 p.rc.val] 42)
       have hz1 := hz.alloc (.cells #[.int .i64 p.state, .int .i64 p.rc.kind, .int .i64 p.rc.seq, .int .i64 p.rc.addr, .int .i64 p.rc.val] 42)
       clear hq hT hd
       by_cases h1 : p.state = 1
       · by_cases h2 : p.rc.addr = addr
         · by_cases h3 : x.seq < p.rc.seq
           · have hi : Hid (lastStep addr x p = p.rc) := by unfold Hid lastStep; rw [if_pos ⟨h1, h2, h3⟩]
             subst h2
             have hW := wrote_rec hx p.rc
             have hx2 := (hW.rec_ hx).alloc (.cells #[.int .i64 1, .int .i64 p.rc.kind, .int .i64 p.rc.seq, .int .i64 p.rc.addr, .int .i64 p.rc.val] 42)
             have hz2 := (hW.far hz (by rw [blk_some]; omega)).alloc (.cells #[.int .i64 1, .int .i64 p.rc.kind, .int .i64 p.rc.seq, .int .i64 p.rc.addr, .int .i64 p.rc.val] 42)
             have hs2 := hW.size
             simp only [Nat.zero_add] at hx2 hz2 o1 o2 o3 r1 r2 r3 hs2
             rw [h1] at c0
             clear h1 hx1 hz1 hW
             go_wp2
             go_roundw
             case rel => exact ⟨m + 1, p.rc, by omega, by go_num, by (repeat (first | (with_reducible exact Below.refl _ _) | (with_reducible assumption) | (refine Below.setCell ?_ (by first | omega | exact hB.size | exact hb.size | (have h := hB.size; simp; omega) | (have h := hb.size; simp; omega) | (simp; omega) | simp) _) | (refine Below.alloc ?_ (by first | omega | exact hB.size | exact hb.size | (have h := hB.size; simp; omega) | (have h := hb.size; simp; omega) | (simp; omega) | simp) _) | (refine Below.drew ?_))), by simp; omega, hx2, hz2, by have h := hT1; rw [hi.out] at h; exact h⟩
             case measure => simp [intOf]; omega
           · have hi : Hid (lastStep addr x p = x) := by unfold Hid lastStep; rw [if_neg (fun h => h3 h.2.2)]
             simp only [Nat.zero_add] at o1 o2 o3
             subst h2
             rw [h1] at c0 hx1 hz1
             clear h1
             go_wp2
             go_roundw
             case rel => exact ⟨m + 1, x, by omega, by go_num, by (repeat (first | (with_reducible exact Below.refl _ _) | (with_reducible assumption) | (refine Below.setCell ?_ (by first | omega | exact hB.size | exact hb.size | (have h := hB.size; simp; omega) | (have h := hb.size; simp; omega) | (simp; omega) | simp) _) | (refine Below.alloc ?_ (by first | omega | exact hB.size | exact hb.size | (have h := hB.size; simp; omega) | (have h := hb.size; simp; omega) | (simp; omega) | simp) _) | (refine Below.drew ?_))), by simp; omega, hx1, hz1, by have h := hT1; rw [hi.out] at h; exact h⟩
             case measure => simp [intOf]; omega
         · have hi : Hid (lastStep addr x p = x) := by unfold Hid lastStep; rw [if_neg (fun h => h2 h.2.1)]
           rw [h1] at c0 hx1 hz1
           clear h1
           go_wp2
           go_roundw
           case rel => exact ⟨m + 1, x, by omega, by go_num, by (repeat (first | (with_reducible exact Below.refl _ _) | (with_reducible assumption) | (refine Below.setCell ?_ (by first | omega | exact hB.size | exact hb.size | (have h := hB.size; simp; omega) | (have h := hb.size; simp; omega) | (simp; omega) | simp) _) | (refine Below.alloc ?_ (by first | omega | exact hB.size | exact hb.size | (have h := hB.size; simp; omega) | (have h := hb.size; simp; omega) | (simp; omega) | simp) _) | (refine Below.drew ?_))), by simp; omega, hx1, hz1, by have h := hT1; rw [hi.out] at h; exact h⟩
           case measure => simp [intOf]; omega
       · have hi : Hid (lastStep addr x p = x) := by unfold Hid lastStep; rw [if_neg (fun h => h1 h.1)]
         go_wp2
         go_roundw
         case rel => exact ⟨m + 1, x, by omega, by go_num, by (repeat (first | (with_reducible exact Below.refl _ _) | (with_reducible assumption) | (refine Below.setCell ?_ (by first | omega | exact hB.size | exact hb.size | (have h := hB.size; simp; omega) | (have h := hb.size; simp; omega) | (simp; omega) | simp) _) | (refine Below.alloc ?_ (by first | omega | exact hB.size | exact hb.size | (have h := hB.size; simp; omega) | (have h := hb.size; simp; omega) | (simp; omega) | simp) _) | (refine Below.drew ?_))), by simp; omega, hx1, hz1, by have h := hT1; rw [hi.out] at h; exact h⟩
         case measure => simp [intOf]; omega
     · obtain rfl : m = ps.length := by omega
       go_wp2
       go_roundw
       case rel => exact ⟨k + 1, x, by omega, by go_num, hb, hsz, hx, hz, by rw [Hid, hT.out, List.drop_of_length_le (Nat.le_refl _)]; rfl⟩
       case measure => simp [intOf]; omega
  · obtain rfl : k = f.length := by omega
    have hfin : Hid (last f addr = x) := by rw [Hid, hT.out, List.drop_of_length_le (Nat.le_refl _)]; rfl
    obtain ⟨o0, o1, o2, o3⟩ := hx.rc
    obtain ⟨q0, q1, q2, q3⟩ := hz.rc
    obtain ⟨r0, r1, r2, r3⟩ := hz.rcf
    simp only [Nat.zero_add] at o1 o2 o3 r1 r2 r3 q1 q2 q3
    go_wp2
    go_region
    go_wp2
    refine bodyPost_ret (v := .tuple #[.agg #[.int .i64 x.kind, .int .i64 x.seq, .int .i64 x.addr, .int .i64 x.val], .bool (decide (0 < x.seq))]) (by simp [results, Try.results110, go_sem, q0, q1, q2, q3]) rfl ⟨by rw [hfin.out], by (repeat (first | (with_reducible exact Below.refl _ _) | (with_reducible assumption) | (refine Below.setCell ?_ (by first | omega | exact hB.size | exact hb.size | (have h := hB.size; simp; omega) | (have h := hb.size; simp; omega) | (simp; omega) | simp) _) | (refine Below.alloc ?_ (by first | omega | exact hB.size | exact hb.size | (have h := hB.size; simp; omega) | (have h := hb.size; simp; omega) | (simp; omega) | simp) _) | (refine Below.drew ?_)))⟩
theorem spec_l3Live (f : List Bk) (p : Pg) (A : Option Addr) (c : Nat) (w : World) (hl : f.length < 1000000000000) (hp : ∀ b ∈ f, b.pages.length < 1000000000000) (hF : Fl w A f) :
 Calls Try.prog 116 #[.slice A f.length c, .agg #[.int .i64 p.state, .int .i64 p.rc.kind, .int .i64 p.rc.seq, .int .i64 p.rc.addr, .int .i64 p.rc.val]] w fun e w' => e = .returned (.bool (live f p)) ∧ Below w.heap.size w w' := by
 by_cases h1 : p.state = 1
 · have hfin : Hid (live f p = decide (last f p.rc.addr = p.rc)) := by unfold Hid live; simp [h1]
   rw [h1]
   clear h1
   go_enter Try.func116, Try.ntmps116
   go_wp2_with fail
   refine (spec_l3Last f p.rc.addr A c _ hl hp (hF.alloc _)).mono ?_
   rintro e w1 ⟨rfl, hb⟩
   have hB : Below w.heap.size w w1 := Below.trans (by (repeat (first | (with_reducible exact Below.refl _ _) | (with_reducible assumption) | (refine Below.setCell ?_ (by first | omega | exact hB.size | exact hb.size | (have h := hB.size; simp; omega) | (have h := hb.size; simp; omega) | (simp; omega) | simp) _) | (refine Below.alloc ?_ (by first | omega | exact hB.size | exact hb.size | (have h := hB.size; simp; omega) | (have h := hb.size; simp; omega) | (simp; omega) | simp) _) | (refine Below.drew ?_)))) (hb.mono (by simp))
   obtain ⟨hc, hf⟩ := bcell hb
   have hz : w.heap.size < w1.heap.size := by have := hb.size; simp at this; omega
   have hle : Hid (decide (last f p.rc.addr = p.rc) = (decide ((last f p.rc.addr).kind = p.rc.kind) && (decide ((last f p.rc.addr).seq = p.rc.seq) && (decide ((last f p.rc.addr).addr = p.rc.addr) && decide ((last f p.rc.addr).val = p.rc.val))))) := by
    unfold Hid
    generalize last f p.rc.addr = x
    obtain ⟨a, b, c, d⟩ := x
    obtain ⟨st, e, g, h, i⟩ := p
    simp [Bool.and_assoc]
   generalize last f p.rc.addr = x at *
   clear hb
   go_wp2
   all_goals go_ret
   all_goals exact ⟨ret_bool (by rw [hfin.out, hle.out]; simp [*]), by (repeat (first | (with_reducible exact Below.refl _ _) | (with_reducible assumption) | (refine Below.setCell ?_ (by first | omega | exact hB.size | exact hb.size | (have h := hB.size; simp; omega) | (have h := hb.size; simp; omega) | (simp; omega) | simp) _) | (refine Below.alloc ?_ (by first | omega | exact hB.size | exact hb.size | (have h := hB.size; simp; omega) | (have h := hb.size; simp; omega) | (simp; omega) | simp) _) | (refine Below.drew ?_)))⟩
 · have hfin : Hid (live f p = false) := by unfold Hid live; simp [h1]
   go_enter Try.func116, Try.ntmps116
   go_wp2
   go_ret
   exact ⟨ret_bool hfin.out.symm, by (repeat (first | (with_reducible exact Below.refl _ _) | (with_reducible assumption) | (refine Below.setCell ?_ (by first | omega | exact hB.size | exact hb.size | (have h := hB.size; simp; omega) | (have h := hb.size; simp; omega) | (simp; omega) | simp) _) | (refine Below.alloc ?_ (by first | omega | exact hB.size | exact hb.size | (have h := hB.size; simp; omega) | (have h := hb.size; simp; omega) | (simp; omega) | simp) _) | (refine Below.drew ?_)))⟩
end Go.Proofs.Ytclnogfmmekooaa
namespace Go.Proofs.Ytclnogfmmekooaa
set_option linter.unusedVariables false
set_option linter.unusedSimpArgs false
open Go.RowKit Go.Maps
set_option maxHeartbeats 400000
set_option maxRecDepth 100000 in
set_option maxHeartbeats 8000000 in
theorem spec_l3Old (f : List Bk) (A : Option Addr) (c : Nat) (w : World) (hl : f.length < 1000000000000) (h0 : 0 < f.length) (hp : ∀ b ∈ f, b.pages.length < 1000000000000) (hF : Fl w A f) :
 Calls Try.prog 115 #[.slice A f.length c] w fun e w' => e = .returned (.int .i64 (old f)) ∧ old f < f.length ∧ Below w.heap.size w w' := by
 have HP := Lib.hid hp
 have hT : Hid (old f = oldGo f 1 0 (f.drop 1)) := rfl
 clear hp
 go_enter Try.func115, Try.ntmps115
 go_wp2
 go_loopw [3, 4] (fun q i wr => ∃ (k m : Nat), k ≤ f.length ∧ 1 ≤ k ∧ i = .int .i64 k ∧ q = .int .i64 m ∧ m < f.length ∧ Below w.heap.size w wr ∧ Hid (old f = oldGo f k m (f.drop k))) (fun _ i _ => f.length - (intOf i).toNat)
 case atStart => exact ⟨1, 0, by omega, by omega, rfl, rfl, h0, Below.refl _ _, hT⟩
 case round =>
  clear hT
  obtain ⟨k, m, hk, hk0, rfl, rfl, hm, hb, hT⟩ := hrel
  by_cases hlt : k < f.length
  · obtain ⟨B, hB⟩ := get_some hlt
    obtain ⟨C, hC⟩ := get_some hm
    have hFk := hF.below hb (Nat.le_refl _)
    obtain ⟨hs, hBk⟩ := hFk
    obtain ⟨g, o, rfl⟩ := hBk.addr (by rintro rfl; simp at hlt)
    obtain ⟨⟨Ap, cp⟩, hx1, z0, z1, _, _, hR, _⟩ := hBk.at_ hB
    obtain ⟨⟨Aq, cq⟩, hx2, y0, y1, _, _, hR2, _⟩ := hBk.at_ hC
    have hd := Lib.hid (drop_cons hB)
    have hpl := HP.out B (List.mem_of_getElem? hB)
    have hpl2 := HP.out C (List.mem_of_getElem? hC)
    have hk1 : (k : Int) < f.length := by omega
    have hm1 : (m : Int) < f.length := by omega
    have hgd : f.getD m zbk = C := by rw [List.getD_eq_getElem?_getD, hC]; rfl
    have hT1 : Hid (old f = if most B < most C then oldGo f (k + 1) k (f.drop (k + 1)) else oldGo f (k + 1) m (f.drop (k + 1))) := by rw [Hid, hT.out, hd.out, oldGo, hgd]
    have HB := Lib.hid hB
    have HC := Lib.hid hC
    clear hB hC hT hd hgd hx1 hx2
    go_wp2
    by_cases hxy : most B < most C
    · have hT2 : Hid (old f = oldGo f (k + 1) k (f.drop (k + 1))) := by rw [Hid, hT1.out, if_pos hxy]
      clear hT1
      go_region_with (first | (go_at_call 113; (first | with_reducible refine (spec_l3Most B Ap cp _ hpl (by first | with_reducible exact hR | with_reducible exact hR.drew)).mono ?_ | with_reducible refine (spec_l3Most C Aq cq _ hpl2 (by first | with_reducible exact hR2 | with_reducible exact hR2.drew)).mono ?_); rintro e w1 ⟨rfl, hb1⟩; (first | (with_reducible replace hb1 := undrew hb1) | skip); replace hb := hb.trans (hb1.mono hb.size); have kk := (bcell hb1).1; replace z0 := (kk _ _ (lt_of_cell z0)).trans z0; replace z1 := (kk _ _ (lt_of_cell z1)).trans z1; replace y0 := (kk _ _ (lt_of_cell y0)).trans y0; replace y1 := (kk _ _ (lt_of_cell y1)).trans y1; replace hR := hR.below hb1 (Nat.le_refl _); replace hR2 := hR2.below hb1 (Nat.le_refl _); clear hb1 kk))
      all_goals
       go_wp2
       go_roundw
       (case rel => exact ⟨k + 1, k, by omega, by omega, by go_num, rfl, hlt, hb, hT2⟩)
       (case measure => simp [intOf]; omega)
    · have hT2 : Hid (old f = oldGo f (k + 1) m (f.drop (k + 1))) := by rw [Hid, hT1.out, if_neg hxy]
      clear hT1
      go_region_with (first | (go_at_call 113; (first | with_reducible refine (spec_l3Most B Ap cp _ hpl (by first | with_reducible exact hR | with_reducible exact hR.drew)).mono ?_ | with_reducible refine (spec_l3Most C Aq cq _ hpl2 (by first | with_reducible exact hR2 | with_reducible exact hR2.drew)).mono ?_); rintro e w1 ⟨rfl, hb1⟩; (first | (with_reducible replace hb1 := undrew hb1) | skip); replace hb := hb.trans (hb1.mono hb.size); have kk := (bcell hb1).1; replace z0 := (kk _ _ (lt_of_cell z0)).trans z0; replace z1 := (kk _ _ (lt_of_cell z1)).trans z1; replace y0 := (kk _ _ (lt_of_cell y0)).trans y0; replace y1 := (kk _ _ (lt_of_cell y1)).trans y1; replace hR := hR.below hb1 (Nat.le_refl _); replace hR2 := hR2.below hb1 (Nat.le_refl _); clear hb1 kk))
      all_goals
       go_wp2
       go_roundw
       (case rel => exact ⟨k + 1, m, by omega, by omega, by go_num, rfl, hm, hb, hT2⟩)
       (case measure => simp [intOf]; omega)
  · obtain rfl : k = f.length := by omega
    go_wp2
    go_ret
    have hfin : old f = m := by rw [hT.out, List.drop_of_length_le (Nat.le_refl _)]; rfl
    exact ⟨ret_int (by rw [hfin]), by rw [hfin]; exact hm, hb⟩
end Go.Proofs.Ytclnogfmmekooaa
namespace Go.Proofs.Ytclnogfmmekooaa
set_option linter.unusedVariables false
set_option linter.unusedSimpArgs false
open Go.RowKit Go.Maps
set_option maxHeartbeats 400000
theorem below_drewN {B : Nat} {w w' : World} (h : Below B w w') (n : Nat) : Below B w (w'.drewN n) := ⟨h.os, h.tape, h.output, h.size, h.block⟩
theorem Bks.worn {w : World} {g o i : Nat} {f : List Bk} {hs : List (Option Addr × Nat)} {b : Bk} (h : Bks w (some ⟨g, o, none⟩) f hs) (hi : f[i]? = some b) : w.cell? ⟨g, o + i * 2 + 1, none⟩ = some (.int .i64 b.worn) := by
 obtain ⟨_, _, _, z1, _⟩ := h.at_ hi; exact z1
set_option maxRecDepth 100000 in
set_option maxHeartbeats 4000000 in
theorem spec_l3Open (f : List Bk) (A : Option Addr) (c : Nat) (w : World) (hl : f.length < 1000000000000) (hp : ∀ b ∈ f, b.pages.length < 1000000000000) (hF : Fl w A f) :
 Calls Try.prog 114 #[.slice A f.length c] w fun e w' => e = .returned (.tuple #[.int .i64 (openB f).1, .bool (openB f).2]) ∧ 0 ≤ (openB f).1 ∧ (f ≠ [] → (openB f).1 < f.length) ∧ Below w.heap.size w w' := by
 have HP := Lib.hid hp
 have hT : Hid (openB f = openGo f 0 (-1) (f.drop 0)) := rfl
 clear hp
 go_enter Try.func114, Try.ntmps114
 go_wp2
 go_loopw [4, 5] (fun q i wr => ∃ (k : Nat) (m : Int), k ≤ f.length ∧ i = .int .i64 k ∧ q = .int .i64 m ∧ -1 ≤ m ∧ m < f.length ∧ Below w.heap.size w wr ∧ Hid (openB f = openGo f k m (f.drop k))) (fun _ i _ => f.length - (intOf i).toNat)
 case atStart => exact ⟨0, -1, by omega, rfl, rfl, by omega, by omega, Below.refl _ _, hT⟩
 case round =>
  clear hT
  obtain ⟨k, m, hk, rfl, rfl, hm0, hm1, hb, hT⟩ := hrel
  by_cases hlt : k < f.length
  · obtain ⟨B, hB⟩ := get_some hlt
    have hFk := hF.below hb (Nat.le_refl _)
    obtain ⟨hs, hBk⟩ := hFk
    obtain ⟨g, o, rfl⟩ := hBk.addr (by rintro rfl; simp at hlt)
    obtain ⟨⟨Ap, cp⟩, _, z0, z1, _, _, hR, _⟩ := hBk.at_ hB
    have hd := Lib.hid (drop_cons hB)
    have hpl := HP.out B (List.mem_of_getElem? hB)
    have hk1 : (k : Int) < f.length := by omega
    have hT1 : Hid (openB f = if 0 < clean B ∧ clean B < 4 then ((k : Int), true) else if 0 < clean B ∧ (m < 0 ∨ B.worn < (f.getD m.toNat zbk).worn) then openGo f (k + 1) k (f.drop (k + 1)) else openGo f (k + 1) m (f.drop (k + 1))) := by rw [Hid, hT.out, hd.out, openGo]
    have HB := Lib.hid hB
    clear hB hT hd
    go_wp2_with fail
    refine (spec_l2Clean B Ap cp _ hpl hR).mono ?_
    rintro e w1 ⟨rfl, hb1⟩
    have hb2 := hb.trans (hb1.mono hb.size)
    have hBk1 := hBk.below hb1 (Nat.le_refl _)
    replace z1 := hBk1.worn HB.out
    have hmx : ∀ m' : Nat, m = m' → w1.cell? ⟨g, o + m' * 2 + 1, none⟩ = some (.int .i64 (f.getD m.toNat zbk).worn) := fun m' e => by
     subst e
     obtain ⟨C, hC⟩ := get_some (l := f) (k := m') (by omega)
     have := hBk1.worn hC
     rw [this, Int.toNat_natCast, List.getD_eq_getElem?_getD, hC]; rfl
    clear hb hb1 z0 hR
    generalize clean B = x at *
    by_cases h1 : 0 < x
    · have h1' : (0 : Int) < x := by omega
      by_cases h2 : x < 4
      · have hfin : Hid (openB f = ((k : Int), true)) := by rw [Hid, hT1.out, if_pos ⟨h1, h2⟩]
        have h2' : (x : Int) < 4 := by omega
        clear hT1
        go_wp2
        go_ret2
        rw [hfin.out]
        exact ⟨rfl, by simp, fun _ => hk1, hb2⟩
      · have h2' : (4 : Int) ≤ x := by omega
        by_cases h3 : m < 0
        · have hT2 : Hid (openB f = openGo f (k + 1) k (f.drop (k + 1))) := by rw [Hid, hT1.out, if_neg (fun h => h2 h.2), if_pos ⟨h1, .inl h3⟩]
          clear hT1
          go_wp2
          go_quiet (fail)
          go_wp2
          go_roundw
          case rel => exact ⟨k + 1, k, by omega, by go_num, rfl, by omega, hk1, below_drewN hb2 _, hT2⟩
          case measure => simp [intOf]; omega
        · obtain ⟨m', rfl⟩ := Int.eq_ofNat_of_zero_le (show 0 ≤ m by omega)
          have hmc := hmx m' rfl
          have hT1' : Hid (openB f = if B.worn < (f.getD m' zbk).worn then openGo f (k + 1) k (f.drop (k + 1)) else openGo f (k + 1) m' (f.drop (k + 1))) := by
           rw [Hid, hT1.out, if_neg (fun h => h2 h.2), Int.toNat_natCast]
           by_cases h4 : B.worn < (f.getD m' zbk).worn
           · rw [if_pos ⟨h1, .inr h4⟩, if_pos h4]
           · rw [if_neg (by intro h; rcases h.2 with h | h; omega; exact h4 h), if_neg h4]
          rw [Int.toNat_natCast] at hmc
          clear hT1 hmx
          generalize (f.getD m' zbk).worn = y at *
          by_cases h4 : B.worn < y
          · have hT2 : Hid (openB f = openGo f (k + 1) k (f.drop (k + 1))) := by rw [Hid, hT1'.out, if_pos h4]
            clear hT1'
            go_wp2
            go_quiet (fail)
            go_wp2
            go_roundw
            case rel => exact ⟨k + 1, k, by omega, by go_num, rfl, by omega, hk1, below_drewN hb2 _, hT2⟩
            case measure => simp [intOf]; omega
          · have hT2 : Hid (openB f = openGo f (k + 1) m' (f.drop (k + 1))) := by rw [Hid, hT1'.out, if_neg h4]
            clear hT1'
            go_wp2
            go_quiet (fail)
            go_wp2
            go_roundw
            case rel => exact ⟨k + 1, m', by omega, by go_num, rfl, by omega, hm1, below_drewN hb2 _, hT2⟩
            case measure => simp [intOf]; omega
    · obtain rfl : x = 0 := by omega
      have hT2 : Hid (openB f = openGo f (k + 1) m (f.drop (k + 1))) := by rw [Hid, hT1.out, if_neg (fun h => h1 h.1), if_neg (fun h => h1 h.1)]
      clear hT1
      go_wp2
      go_quiet (fail)
      go_wp2
      go_roundw
      case rel => exact ⟨k + 1, m, by omega, by go_num, rfl, by omega, hm1, below_drewN hb2 _, hT2⟩
      case measure => simp [intOf]; omega
  · obtain rfl : k = f.length := by omega
    have hfin : Hid (openB f = (max m 0, decide (0 ≤ m))) := by rw [Hid, hT.out, List.drop_of_length_le (Nat.le_refl _)]; rfl
    by_cases hm : m < 0
    · have hm' : ¬ 0 ≤ m := by omega
      go_wp2
      go_ret2
      rw [hfin.out]
      refine ⟨?_, by simp; omega, fun hne => ?_, hb⟩
      · simp [hm']; omega
      · have : 0 < f.length := List.length_pos_iff.2 hne
        simp; omega
    · have hm' : 0 ≤ m := by omega
      go_wp2
      all_goals go_ret2
      all_goals rw [hfin.out]
      all_goals refine ⟨?_, by simp; omega, fun hne => ?_, hb⟩
      all_goals first
       | (have : 0 < f.length := List.length_pos_iff.2 hne; simp; omega)
       | (simp [hm']; omega)
end Go.Proofs.Ytclnogfmmekooaa
namespace Go.Proofs.Ytclnogfmmekooaa
set_option linter.unusedVariables false
set_option linter.unusedSimpArgs false
open Go.RowKit
theorem run_marks : ∃ cs : Array Value, (∀ w : World, (Instr.makeSlice 60 (.int .i64 601) (.int .i64 601)).run Try.prog w = .ok (.slice (some ⟨w.heap.size, 0, none⟩) 601 601) (w.alloc (.cells cs 4))) ∧ ∀ j : Nat, j < 601 → cs[j]? = some (.bool false) := by
 refine ⟨Array.replicate 601 (.bool false), fun w => ?_, fun j hj => by simp [hj]⟩
 kernel_rfl
end Go.Proofs.Ytclnogfmmekooaa
namespace Go.Proofs.Ytclnogfmmekooaa
set_option linter.unusedVariables false
set_option linter.unusedSimpArgs false
open Go.RowKit Go.Maps
set_option maxHeartbeats 400000
theorem spec_RecOk (r : Rc) (w : World) : Calls Try.prog 59 #[.agg #[.int .i64 r.kind, .int .i64 r.seq, .int .i64 r.addr, .int .i64 r.val]] w fun e w' => e = .returned (.bool (recOk r)) ∧ Below w.heap.size w w' := by
 obtain ⟨k, s, a, v⟩ := r
 dsimp only
 have hB : Below w.heap.size w (w.alloc (.cells #[.int .i64 k, .int .i64 s, .int .i64 a, .int .i64 v] 40)) := (Below.refl _ _).alloc (Nat.le_refl _) _
 have hq : Hid (∀ x, x = (decide (1 ≤ k) && decide (k ≤ 2) && (decide (1 ≤ s) && decide (s ≤ 600)) && (decide (1 ≤ a) && decide (a ≤ 6)) && (decide (0 ≤ v) && decide (v ≤ 9))) → recOk ⟨k, s, a, v⟩ = x) := by
  intro x hx
  rw [hx]
  unfold recOk kindB addrB valB
  rw [Bool.eq_iff_iff]
  simp
  omega
 go_enter Try.func59, Try.ntmps59
 go_wp2_with (go_at_call 36; refine (spec_l6In _ _ _ _).mono ?_; rintro e w' ⟨rfl, rfl⟩)
 all_goals (go_ret; exact ⟨ret_bool (hq.out _ (by simp [*])).symm, hB⟩)
theorem spec_l2Page (p : Pg) (w : World) : Calls Try.prog 37 #[.agg #[.int .i64 p.state, .int .i64 p.rc.kind, .int .i64 p.rc.seq, .int .i64 p.rc.addr, .int .i64 p.rc.val]] w fun e w' => e = .returned (.bool (pageOk p)) ∧ Below w.heap.size w w' := by
 obtain ⟨st, r⟩ := p
 dsimp only
 have hB : Below w.heap.size w (w.alloc (.cells #[.int .i64 st, .int .i64 r.kind, .int .i64 r.seq, .int .i64 r.addr, .int .i64 r.val] 42)) := (Below.refl _ _).alloc (Nat.le_refl _) _
 by_cases h1 : st = 1
 · subst h1
   have hq : Hid (pageOk ⟨1, r⟩ = recOk r) := rfl
   go_enter Try.func37, Try.ntmps37
   go_wp2_with (go_at_call 59; refine (spec_RecOk r _).mono ?_; rintro e w1 ⟨rfl, hb⟩)
   go_ret
   exact ⟨ret_bool hq.out.symm, hB.trans (hb.mono (by simp))⟩
 clear hB
 obtain ⟨k, s, a, v⟩ := r
 dsimp only
 by_cases h0 : st = 0
 · subst h0
   have hq : Hid (pageOk ⟨0, ⟨k, s, a, v⟩⟩ = decide ((⟨k, s, a, v⟩ : Rc) = rc0)) := rfl
   go_enter Try.func37, Try.ntmps37
   go_wp2
   all_goals (go_ret; exact ⟨ret_bool (by rw [hq.out]; simp [rc0, *]), (Below.refl _ _).alloc (Nat.le_refl _) _⟩)
 by_cases h2 : st = 2
 · subst h2
   have hq : Hid (pageOk ⟨2, ⟨k, s, a, v⟩⟩ = decide ((⟨k, s, a, v⟩ : Rc) = rc0)) := rfl
   go_enter Try.func37, Try.ntmps37
   go_wp2
   all_goals (go_ret; exact ⟨ret_bool (by rw [hq.out]; simp [rc0, *]), (Below.refl _ _).alloc (Nat.le_refl _) _⟩)
 have hk : Hid (pageOk ⟨st, ⟨k, s, a, v⟩⟩ = false) := by unfold Hid pageOk; simp [h1, h2, h0]
 go_enter Try.func37, Try.ntmps37
 go_wp2
 go_ret
 exact ⟨ret_bool hk.out.symm, (Below.refl _ _).alloc (Nat.le_refl _) _⟩

/-- a row of marks: is the number among seen? -/
def Marks (w : World) (g : Nat) (seen : List Int) : Prop := ∀ j : Nat, j < 601 → w.cell? ⟨g, j, none⟩ = some (.bool (decide ((j : Int) ∈ seen))) ∧ w.frozen? ⟨g, j, none⟩ = false
theorem Marks.below {w w' : World} {g B : Nat} {seen : List Int} (h : Marks w g seen) (hb : Below B w w') (hg : g < B) : Marks w' g seen := fun j hj =>
 ⟨(hb.cell (p := ⟨g, j, none⟩) hg).trans (h j hj).1, (hb.frozen (p := ⟨g, j, none⟩) hg).trans (h j hj).2⟩
theorem Marks.put {w : World} {g n : Nat} {seen : List Int} (h : Marks w g seen) (hn : n < 601) : Marks (w.setCell ⟨g, n, none⟩ (.bool true)) g ((n : Int) :: seen) := fun j hj => by
 refine ⟨?_, (World.frozen?_setCell _ _ _ _).trans (h j hj).2⟩
 by_cases e : j = n
 · subst e
   rw [World.cell?_setCell_same w _ _ (h j hj).1]; simp
 · rw [World.cell?_setCell_other w _ _ _ (fun e' => e (by injection e' with _ e2 _; exact e2.symm)), (h j hj).1]
   simp [show ¬ (j : Int) = n by omega]
theorem Marks.same {w : World} {g n : Nat} {seen : List Int} (h : Marks w g seen) (hn : n < 601) (hs : ¬ (n : Int) ∈ seen) : Marks (w.setCell ⟨g, n, none⟩ (.bool false)) g seen := fun j hj => by
 refine ⟨?_, (World.frozen?_setCell _ _ _ _).trans (h j hj).2⟩
 by_cases e : j = n
 · subst e
   rw [World.cell?_setCell_same w _ _ (h j hj).1]; simp [hs]
 · rw [World.cell?_setCell_other w _ _ _ (fun e' => e (by injection e' with _ e2 _; exact e2.symm)), (h j hj).1]
end Go.Proofs.Ytclnogfmmekooaa
namespace Go.Proofs.Ytclnogfmmekooaa
set_option linter.unusedVariables false
set_option linter.unusedSimpArgs false
open Go.RowKit Go.Maps
set_option maxHeartbeats 400000
set_option maxRecDepth 100000 in
set_option maxHeartbeats 2000000 in
theorem spec_FlashOk (f : List Bk) (A : Option Addr) (c : Nat) (w : World) (hlen : f.length < 1000000000000) (hF : Fl w A f) : Calls Try.prog 19 #[.slice A f.length c] w fun e w' => e = .returned (.bool (flashOk f)) ∧ Below w.heap.size w w' := by
 obtain ⟨hs, hF⟩ := hF
 obtain ⟨cs, hmk, hcs⟩ := run_marks
 have hfin : Hid (flashOk f = (decide (f.length = 4) && sblocksGo [] f)) := by unfold Hid flashOk; rw [sblocksGo_eq]
 have hB0 : Below w.heap.size w (w.alloc (.cells cs 4)) := (Below.refl _ _).alloc (Nat.le_refl _) _
 have hM0 : Marks (w.alloc (.cells cs 4)) w.heap.size [] := fun j hj => ⟨by simp [hcs j hj], by simp⟩
 clear hcs
 go_enter Try.func19, Try.ntmps19
 go_wp2
 go_loopw [4] (fun i wr => ∃ (k : Nat) (seen : List Int), k ≤ f.length ∧ i = .int .i64 k ∧ Below w.heap.size w wr ∧ w.heap.size < wr.heap.size ∧ Marks wr w.heap.size seen ∧ (∀ x ∈ seen, 1 ≤ x) ∧ Hid (sblocksGo [] f = sblocksGo seen (f.drop k))) (fun i _ => f.length - (intOf i).toNat)
 case atStart => exact ⟨0, [], by omega, rfl, hB0, by simp, hM0, by simp, rfl⟩
 case round =>
  clear hM0 hB0
  obtain ⟨k, seen, hk, rfl, hb, hsz, hM, hpos, hg⟩ := hrel
  by_cases hlt : k < f.length
  · obtain ⟨B, hB⟩ := get_some hlt
    have hd := Lib.hid (drop_cons hB)
    obtain ⟨bk, off, rfl⟩ := hF.addr (by rintro rfl; simp at hlt)
    obtain ⟨⟨Ap, cp⟩, _, c0, c1, _, _, hR, hlc⟩ := hF.at_ hB
    have hbk : bk < w.heap.size := lt_of_cell c0
    have c00 := c0
    replace c0 := (hb.cell (p := ⟨bk, off + k * 2, none⟩) hbk).trans c0
    replace c1 := (hb.cell (p := ⟨bk, off + k * 2 + 1, none⟩) hbk).trans c1
    have HBB := Lib.hid hB
    clear hB
    obtain ⟨Ps, wn⟩ := B
    dsimp only at *
    have hlt' : (k : Int) < f.length := by omega
    by_cases hl4 : Ps.length = 4
    · by_cases hwn : 0 ≤ wn ∧ wn ≤ 200
      · have hstep : Hid (sblocksGo [] f = spagesGo seen false (fun s => sblocksGo s (f.drop (k + 1))) Ps) := by rw [Hid, hg.out, hd.out, sblocksGo, if_neg (by simp [hl4]; omega)]
        have hdw : (decide (0 ≤ wn) && decide (wn ≤ 200)) = true := by simp [hwn.1, hwn.2]
        obtain ⟨pb, po, rfl⟩ := hR.addr (pgs_ne (by rintro rfl; simp at hl4))
        have HL := Lib.hid hl4
        rw [hl4] at c0 c00
        have C0 := Lib.hid c00
        clear hl4 hlc hg hd hwn c00
        have HPOS := Lib.hid hpos
        clear hpos
        go_wp2_with (go_at_call 36; refine (spec_l6In _ _ _ _).mono ?_; rintro e w' ⟨rfl, rfl⟩; rw [hdw])
        go_loopw [5] (fun i wr => ∃ (j : Nat) (seen : List Int), j ≤ 4 ∧ i = .int .i64 j ∧ Below w.heap.size w wr ∧ w.heap.size < wr.heap.size ∧ Marks wr w.heap.size seen ∧ Hid (∀ x ∈ seen, 1 ≤ x) ∧ Hid (sblocksGo [] f = spagesGo seen (match j with | 0 => false | m + 1 => (Ps.getD m ⟨0, rc0⟩).state == 0) (fun s => sblocksGo s (f.drop (k + 1))) (Ps.drop j))) (fun i _ => 4 - (intOf i).toNat)
        case atStart => exact ⟨0, seen, by omega, rfl, hb, hsz, hM, HPOS, hstep.out⟩
        case round =>
         clear hM seen hsz hb hstep HPOS c0 c1
         obtain ⟨j, seen, hj, rfl, hb, hsz, hM, HPOS, hg⟩ := hrel
         by_cases hltj : j < 4
         · obtain ⟨p, hp⟩ := get_some (l := Ps) (k := j) (by have := HL.out; omega)
           have hd := Lib.hid (drop_cons hp)
           have HP := Lib.hid hp
           have b0 := (hb.cell (p := ⟨bk, off + k * 2, none⟩) hbk).trans C0.out
           obtain ⟨c0, c1, c2, c3, c4⟩ := (hR.below hb (Nat.le_refl _)).pg hp
           clear hp
           obtain ⟨st, ⟨kd, sq, ad, vl⟩⟩ := p
           dsimp only at *
           have hltj' : (j : Int) < 4 := by omega
           by_cases hpo : pageOk ⟨st, ⟨kd, sq, ad, vl⟩⟩ = true
           · have hsq : 0 ≤ sq ∧ sq ≤ 600 ∧ (st = 1 → 1 ≤ sq) ∧ (st ≠ 1 → sq = 0) ∧ (st = 0 ∨ st = 1 ∨ st = 2) := by
              unfold pageOk at hpo
              by_cases h1 : st = 1
              · simp [h1, recOk] at hpo; omega
              · rw [if_neg h1] at hpo
                by_cases h2 : st = 0 ∨ st = 2
                · rw [if_pos h2] at hpo; simp [rc0] at hpo; omega
                · rw [if_neg h2] at hpo; cases hpo
             obtain ⟨hs0, hs6, hs1, hsn, hst⟩ := hsq
             obtain ⟨n, rfl⟩ := Int.eq_ofNat_of_zero_le hs0
             have hn : n < 601 := by omega
             have hgetj : (Ps.getD j ⟨0, rc0⟩) = ⟨st, ⟨kd, (n : Int), ad, vl⟩⟩ := by rw [List.getD_eq_getElem?_getD, HP.out]; rfl
             have HG := Lib.hid hgetj
             clear hgetj
             go_wp2_with fail
             refine (spec_l2Page ⟨st, ⟨kd, (n : Int), ad, vl⟩⟩ _).mono ?_
             rintro e w1 ⟨rfl, hb1⟩
             rw [hpo]
             have x0 : w1.cell? ⟨wr.heap.size, 0, none⟩ = some (.int .i64 st) := (hb1.cell (by simp)).trans (by simp)
             have x2 : w1.cell? ⟨wr.heap.size, 2, none⟩ = some (.int .i64 n) := (hb1.cell (by simp)).trans (by simp)
             have hB1 : Below w.heap.size w w1 := (hb.alloc hb.size _).trans (hb1.mono (by have := hb.size; simp; omega))
             have hM1 : Marks w1 w.heap.size seen := (hM.below (B := wr.heap.size) ((Below.refl _ _).alloc (Nat.le_refl _) _) hsz).below hb1 (by simp; omega)
             have hsz1 : w.heap.size < w1.heap.size := by have := hb1.size; simp at this; omega
             have b1 := (hB1.cell (p := ⟨bk, off + k * 2, none⟩) hbk).trans C0.out
             obtain ⟨m0, m1⟩ := hM1 n hn
             have hR1 := hR.below hB1 (Nat.le_refl _)
             clear hb1 c0 c1 c2 c3 c4 hM b0
             have hnn : (0 : Int) ≤ n := by omega
             have hn6 : (n : Int) < 601 := by omega
             -- what is next
             have hnext : Hid (∀ s', spagesGo s' ((⟨st, ⟨kd, (n : Int), ad, vl⟩⟩ : Pg).state == 0) (fun s => sblocksGo s (f.drop (k + 1))) (Ps.drop (j + 1)) = spagesGo s' (match j + 1 with | 0 => false | m + 1 => (Ps.getD m ⟨0, rc0⟩).state == 0) (fun s => sblocksGo s (f.drop (k + 1))) (Ps.drop (j + 1))) := by intro s'; simp only [HG.out]
             by_cases hst1 : st = 1
             · subst hst1
               have hn1 := hs1 rfl
               have HPO := Lib.hid hpo
               clear hs1 hsn hst hpo
               rcases j with _ | m
               · -- the first page
                 have hj0 : ¬ (0 < ((0 : Nat) : Int)) := by omega
                 by_cases hin : (n : Int) ∈ seen
                 · have m0' : w1.cell? ⟨w.heap.size, n, none⟩ = some (.bool true) := by rw [m0]; simp [hin]
                   have hno : Hid (sblocksGo [] f = false) := by
                    rw [Hid, hg.out, hd.out]; exact spagesGo_no (.inr (.inr ⟨rfl, hin⟩))
                   clear m0 hg hd hin
                   go_wp2
                   go_ret
                   exact ⟨ret_bool (by rw [hfin.out, hno.out, Bool.and_false]), hB1⟩
                 · have m0' : w1.cell? ⟨w.heap.size, n, none⟩ = some (.bool false) := by rw [m0]; simp [hin]
                   have hM5 := hM1.put hn
                   have hB5 : Below w.heap.size w (w1.setCell ⟨w.heap.size, n, none⟩ (.bool true)) := hB1.setCell (p := ⟨w.heap.size, n, none⟩) (Nat.le_refl _) _
                   have HPOS5 : Hid (∀ x ∈ (n : Int) :: seen, 1 ≤ x) := by intro x hx; rcases List.mem_cons.1 hx with rfl | hx; exact hn1; exact HPOS.out x hx
                   have hstep : Hid (sblocksGo [] f = spagesGo ((n : Int) :: seen) (match 0 + 1 with | 0 => false | m + 1 => (Ps.getD m ⟨0, rc0⟩).state == 0) (fun s => sblocksGo s (f.drop (k + 1))) (Ps.drop (0 + 1))) := by
                    rw [Hid, hg.out, hd.out, spagesGo_put HPO.out (fun h => by cases h) rfl hin]; exact hnext.out _
                   clear m0 hg hd hM1 hin
                   go_wp2
                   go_region
                   go_wp2
                   go_roundw
                   case rel => exact ⟨0 + 1, _, by omega, by go_num, hB5.drew, by simpa using hsz1, hM5, HPOS5, hstep⟩
                   case measure => simp [intOf]
               · obtain ⟨q, hq⟩ := get_some (l := Ps) (k := m) (by have := HL.out; omega)
                 have hgq : (Ps.getD m ⟨0, rc0⟩) = q := by rw [List.getD_eq_getElem?_getD, hq]; rfl
                 obtain ⟨q0, _, _, _, _⟩ := hR1.pg hq
                 have hjm : (0 : Int) < ((m + 1 : Nat) : Int) := by omega
                 have hm1 : (m : Int) < 4 := by omega
                 by_cases hq0 : q.state = 0
                 · have hno : Hid (sblocksGo [] f = false) := by
                    rw [Hid, hg.out, hd.out]; exact spagesGo_no (.inr (.inl ⟨by simp only [hgq, hq0]; rfl, by simp⟩))
                   rw [hq0] at q0
                   clear hq hgq hq0 hg hd
                   go_wp2
                   go_ret
                   exact ⟨ret_bool (by rw [hfin.out, hno.out, Bool.and_false]), hB1⟩
                 · have hq0' : (q.state == 0) = false := by simpa using hq0
                   have hpcf : (Ps.getD m ⟨0, rc0⟩).state = 0 → False := by rw [hgq]; exact hq0
                   have HPC := Lib.hid hpcf
                   clear hpcf hgq hq
                   by_cases hin : (n : Int) ∈ seen
                   · have m0' : w1.cell? ⟨w.heap.size, n, none⟩ = some (.bool true) := by rw [m0]; simp [hin]
                     have hno : Hid (sblocksGo [] f = false) := by
                      rw [Hid, hg.out, hd.out]; exact spagesGo_no (.inr (.inr ⟨rfl, hin⟩))
                     clear m0 hg hd hin
                     go_wp2
                     go_ret
                     exact ⟨ret_bool (by rw [hfin.out, hno.out, Bool.and_false]), hB1⟩
                   · have m0' : w1.cell? ⟨w.heap.size, n, none⟩ = some (.bool false) := by rw [m0]; simp [hin]
                     have hM5 := hM1.put hn
                     have hB5 : Below w.heap.size w (w1.setCell ⟨w.heap.size, n, none⟩ (.bool true)) := hB1.setCell (p := ⟨w.heap.size, n, none⟩) (Nat.le_refl _) _
                     have HPOS5 : Hid (∀ x ∈ (n : Int) :: seen, 1 ≤ x) := by intro x hx; rcases List.mem_cons.1 hx with rfl | hx; exact hn1; exact HPOS.out x hx
                     have hstep : Hid (sblocksGo [] f = spagesGo ((n : Int) :: seen) (match (m + 1) + 1 with | 0 => false | m + 1 => (Ps.getD m ⟨0, rc0⟩).state == 0) (fun s => sblocksGo s (f.drop (k + 1))) (Ps.drop ((m + 1) + 1))) := by
                      rw [Hid, hg.out, hd.out, spagesGo_put HPO.out (fun h => absurd (by simpa using h) HPC.out) rfl hin]; exact hnext.out _
                     clear m0 hg hd hM1 hin
                     go_wp2
                     go_region
                     go_wp2
                     go_roundw
                     case rel => exact ⟨(m + 1) + 1, _, by omega, by go_num, hB5.drew, by simpa using hsz1, hM5, HPOS5, hstep⟩
                     case measure => simp [intOf]; omega
             · have hn0 : n = 0 := by have := hsn hst1; omega
               subst hn0
               have hns : ¬ ((0 : Nat) : Int) ∈ seen := fun h => by have := HPOS.out _ h; omega
               have hM5 := hM1.same (by omega) hns
               have hB5 : Below w.heap.size w (w1.setCell ⟨w.heap.size, 0, none⟩ (.bool false)) := hB1.setCell (p := ⟨w.heap.size, 0, none⟩) (Nat.le_refl _) _
               have m0' : w1.cell? ⟨w.heap.size, 0, none⟩ = some (.bool false) := by rw [m0]; simpa using hns
               clear m0 hs1 hsn
               have hq1 : (st == 1) = false := by simpa using hst1
               by_cases hst0 : st = 0
               · subst hst0
                 have hstep : Hid (sblocksGo [] f = spagesGo seen (match j + 1 with | 0 => false | m + 1 => (Ps.getD m ⟨0, rc0⟩).state == 0) (fun s => sblocksGo s (f.drop (k + 1))) (Ps.drop (j + 1))) := by
                  rw [Hid, hg.out, hd.out, spagesGo_step hpo (fun _ => rfl) hst1]; exact hnext.out seen
                 clear hg hd hM1
                 go_wp2
                 all_goals
                  go_region
                  go_wp2
                  go_roundw
                  case rel => exact ⟨j + 1, seen, by omega, by go_num, hB5.drew, by simpa using hsz1, hM5, HPOS, hstep⟩
                  case measure => simp [intOf]; omega
               · have h2 : st = 2 := by omega
                 subst h2
                 rcases j with _ | m
                 · -- the first page
                   have hj0 : ¬ (0 < ((0 : Nat) : Int)) := by omega
                   have hstep : Hid (sblocksGo [] f = spagesGo seen (match 0 + 1 with | 0 => false | m + 1 => (Ps.getD m ⟨0, rc0⟩).state == 0) (fun s => sblocksGo s (f.drop (k + 1))) (Ps.drop (0 + 1))) := by
                    rw [Hid, hg.out, hd.out, spagesGo_step hpo (fun h => by cases h) (by simp)]; exact hnext.out seen
                   clear hg hd hM1
                   go_wp2
                   go_region
                   go_wp2
                   go_roundw
                   case rel => exact ⟨0 + 1, seen, by omega, by go_num, hB5.drew, by simpa using hsz1, hM5, HPOS, hstep⟩
                   case measure => simp [intOf]
                 · obtain ⟨q, hq⟩ := get_some (l := Ps) (k := m) (by have := HL.out; omega)
                   have hgq : (Ps.getD m ⟨0, rc0⟩) = q := by rw [List.getD_eq_getElem?_getD, hq]; rfl
                   obtain ⟨q0, _, _, _, _⟩ := hR1.pg hq
                   have hjm : (0 : Int) < ((m + 1 : Nat) : Int) := by omega
                   have hm1 : (m : Int) < 4 := by omega
                   by_cases hq0 : q.state = 0
                   · have hno : Hid (sblocksGo [] f = false) := by
                      rw [Hid, hg.out, hd.out]; exact spagesGo_no (.inr (.inl ⟨by simp only [hgq, hq0]; rfl, by simp⟩))
                     rw [hq0] at q0
                     clear hq hgq hq0 hg hd
                     go_wp2
                     go_ret
                     exact ⟨ret_bool (by rw [hfin.out, hno.out, Bool.and_false]), hB1⟩
                   · have hq0' : (q.state == 0) = false := by simpa using hq0
                     have hpcf : (Ps.getD m ⟨0, rc0⟩).state = 0 → False := by rw [hgq]; exact hq0
                     have HPC := Lib.hid hpcf
                     clear hpcf hgq hq
                     have hstep : Hid (sblocksGo [] f = spagesGo seen (match m + 1 + 1 with | 0 => false | m + 1 => (Ps.getD m ⟨0, rc0⟩).state == 0) (fun s => sblocksGo s (f.drop (k + 1))) (Ps.drop (m + 1 + 1))) := by
                      rw [Hid, hg.out, hd.out, spagesGo_step hpo (fun h => absurd (by simpa using h) HPC.out) (by simp)]; exact hnext.out seen
                     clear hg hd hM1
                     go_wp2
                     go_region
                     go_wp2
                     go_roundw
                     case rel => exact ⟨m + 1 + 1, seen, by omega, by go_num, hB5.drew, by simpa using hsz1, hM5, HPOS, hstep⟩
                     case measure => simp [intOf]; omega
           · have ho : pageOk ⟨st, ⟨kd, sq, ad, vl⟩⟩ = false := by simpa using hpo
             go_wp2_with fail
             refine (spec_l2Page ⟨st, ⟨kd, sq, ad, vl⟩⟩ _).mono ?_
             rintro e w1 ⟨rfl, hb1⟩
             rw [ho]
             go_wp2
             go_ret
             exact ⟨ret_bool (by rw [hfin.out, hg.out, hd.out, spagesGo, if_pos (.inl ho), Bool.and_false]), (hb.alloc hb.size _).trans (hb1.mono (by have := hb.size; simp; omega))⟩
         · obtain rfl : j = 4 := by omega
           have hstep : Hid (sblocksGo [] f = sblocksGo seen (f.drop (k + 1))) := by rw [Hid, hg.out, show Ps.drop 4 = [] from List.drop_of_length_le (by have := HL.out; omega)]; rfl
           clear hg
           go_wp2
           go_roundw
           case rel => exact ⟨k + 1, seen, by omega, by go_num, hb, hsz, hM, HPOS.out, hstep⟩
           case measure => simp [intOf]; omega
      · have hdw : (decide (0 ≤ wn) && decide (wn ≤ 200)) = false := by simp; omega
        have HW := Lib.hid hwn
        rw [hl4] at c0
        have HL := Lib.hid hl4
        clear hl4 hwn
        go_wp2_with (go_at_call 36; refine (spec_l6In _ _ _ _).mono ?_; rintro e w' ⟨rfl, rfl⟩; rw [hdw])
        go_ret
        exact ⟨ret_bool (by rw [hfin.out, hg.out, hd.out, sblocksGo, if_pos (by have := HW.out; simp only; omega), Bool.and_false]), hb⟩
    · go_wp2
      go_ret
      exact ⟨ret_bool (by rw [hfin.out, hg.out, hd.out, sblocksGo, if_pos (.inl hl4), Bool.and_false]), hb⟩
  · obtain rfl : k = f.length := by omega
    go_wp2
    go_ret
    refine ⟨ret_bool ?_, hb⟩
    rw [hfin.out, hg.out, List.drop_of_length_le (Nat.le_refl _)]
    unfold sblocksGo
    rw [Bool.and_true, Bool.eq_iff_iff]
    simp
    omega
end Go.Proofs.Ytclnogfmmekooaa
namespace Go.Proofs.Ytclnogfmmekooaa
set_option linter.unusedVariables false
set_option linter.unusedSimpArgs false
open Go.RowKit Go.Maps
set_option maxHeartbeats 400000
theorem Try.info3_page : (Try.prog.info? 42).map (fun i => (i.zero, i.size, i.bytes)) = some (some (.agg #[.int .i64 0, .int .i64 0, .int .i64 0, .int .i64 0, .int .i64 0]), 5, 40) := by kernel_rfl
theorem Try.info3_block : (Try.prog.info? 35).map (fun i => (i.zero, i.size, i.bytes)) = some (some (.agg #[.slice none 0 0, .int .i64 0]), 2, 32) := by kernel_rfl
/-- a flash that is being built by append: k blocks so far -/
structure Bld (B : Nat) (w : World) (g k c : Nat) (f : List Bk) (ks : List (Option Addr × Nat)) : Prop where
 own : w.ownsRow B 35 2 (.slice (some ⟨g, 0, none⟩) k c) k (hdrs f ks)
 bks : Bks w (some ⟨g, 0, none⟩) f ks
 apt : Apt B w.heap.size (some ⟨g, 0, none⟩) ks
theorem Apt.snoc {lo hi hi' g g' : Nat} {hs : List (Option Addr × Nat)} {x : Option Addr × Nat} (h : Apt lo hi (some ⟨g, 0, none⟩) hs) (hg : g' = g ∨ hi ≤ g') (hg' : g' < hi') (hx : ∀ b, blk x.1 b → hi ≤ b ∧ b < hi' ∧ b ≠ g') (hlh : lo ≤ hi) (hh : hi ≤ hi') : Apt lo hi' (some ⟨g', 0, none⟩) (hs ++ [x]) := by
 have hgl := h.top g (by rw [blk_some])
 have key : ∀ (j : Nat) (y : Option Addr × Nat), (hs ++ [x])[j]? = some y → (j = hs.length ∧ y = x) ∨ (j < hs.length ∧ hs[j]? = some y) := fun j y hy => by
  by_cases hj : j < hs.length
  · rw [List.getElem?_append_left hj] at hy; exact .inr ⟨hj, hy⟩
  · rw [List.getElem?_append_right (by omega)] at hy
    have hl := (List.getElem?_eq_some_iff.1 hy).1
    simp at hl
    have e : j = hs.length := by omega
    subst e
    simp at hy
    exact .inl ⟨rfl, hy.symm⟩
 refine ⟨fun b hb => by rw [blk_some] at hb; omega, fun j y b hy hb => ?_, fun j m y z b hy hz hb hc => ?_⟩
 · rcases key j y hy with ⟨_, ey⟩ | ⟨_, hy'⟩
   · have := hx b (ey ▸ hb); exact ⟨by omega, by omega, by rw [blk_some]; omega⟩
   · have := h.in_ j y b hy' hb
     rw [blk_some] at this
     exact ⟨by omega, by omega, by rw [blk_some]; omega⟩
 · rcases key j y hy with ⟨ej, ey⟩ | ⟨_, hy'⟩ <;> rcases key m z hz with ⟨em, ez⟩ | ⟨_, hz'⟩
   · omega
   · have h1 := hx b (ey ▸ hb); have h2 := h.in_ m z b hz' hc; omega
   · have h1 := hx b (ez ▸ hc); have h2 := h.in_ j y b hy' hb; omega
   · exact h.two j m y z b hy' hz' hb hc
theorem Bks.snoc {w w' : World} {g g' : Nat} {f : List Bk} {hs : List (Option Addr × Nat)} {b : Bk} {x : Option Addr × Nat} (h : Bks w (some ⟨g, 0, none⟩) f hs) (hk : ∀ (i : Nat) (y : Option Addr × Nat), hs[i]? = some y → ∀ c, blk y.1 c → c < w.heap.size → w'.heap[c]? = w.heap[c]?)
 (hr : Row w' (some ⟨g', 0, none⟩) (hdrs f hs ++ [.slice x.1 b.pages.length x.2, .int .i64 b.worn])) (hp : Row w' x.1 (pgs b.pages)) (hc : b.pages.length ≤ x.2) : Bks w' (some ⟨g', 0, none⟩) (f ++ [b]) (hs ++ [x]) := by
 refine ⟨by simp [h.len], by rw [hdrs_append f [b] hs [x] h.len]; exact hr, fun i c y hc' hy => ?_⟩
 have hl := h.len
 by_cases hi : i < f.length
 · rw [List.getElem?_append_left hi] at hc'
   rw [List.getElem?_append_left (by omega)] at hy
   obtain ⟨h1, h2⟩ := h.pg i c y hc' hy
   exact ⟨h1.keep (hk i y hy), h2⟩
 · rw [List.getElem?_append_right (by omega)] at hc'
   rw [List.getElem?_append_right (by omega)] at hy
   have hl' := (List.getElem?_eq_some_iff.1 hc').1
   simp at hl'
   have e : i = f.length := by omega
   subst e
   simp at hc'
   rw [hl] at hy
   simp at hy
   subst hc'; subst hy
   exact ⟨hp, hc⟩
theorem ownsRow_cap {w : World} {base : Nat} {e : TypeId} {size n c g : Nat} {xs : List Value} (h : w.ownsRow base e size (.slice (some ⟨g, 0, none⟩) n c) n xs) : n ≤ c := by
 obtain ⟨_, ⟨hv, _⟩ | ⟨g', cap, cur, hv, _, _, hc, _⟩⟩ := h
 · cases hv
 · cases hv; exact hc
/-- a block more: its pages lie at g1, the headers at g2 -/
theorem Bld.step {B : Nat} {wr w1 w2 : World} {g k c g1 c1 g2 c2 n : Nat} {f : List Bk} {ks : List (Option Addr × Nat)} {b : Bk} {o : Obj} (h : Bld B wr g k c f ks) (hn : b.pages.length = n) (hB : B ≤ wr.heap.size)
 (h1 : Row w1 (some ⟨g1, 0, none⟩) (pgs b.pages)) (hc1 : n ≤ c1) (hg1 : wr.heap.size ≤ g1) (hl1 : g1 < w1.heap.size) (hb1 : Below wr.heap.size wr w1)
 (hown : w2.ownsRow B 35 2 (.slice (some ⟨g2, 0, none⟩) (k + 1) c2) (k + 1) (hdrs f ks ++ [.slice (some ⟨g1, 0, none⟩) n c1, .int .i64 b.worn])) (hgr : (w1.alloc o).grownBy w2 (some g)) (hg2 : some g = some g2 ∨ g2 = w1.heap.size + 1) (hl2 : g2 < w2.heap.size) :
 Bld B w2 g2 (k + 1) c2 (f ++ [b]) (ks ++ [(some ⟨g1, 0, none⟩, c1)]) := by
 have hgl := h.apt.top g (by rw [blk_some])
 have hs1 := hb1.size
 have hs2 := hgr.size
 rw [World.size_alloc] at hs2
 have hkeep : ∀ i, i < w1.heap.size → i ≠ g → w2.heap[i]? = w1.heap[i]? := fun i hi hne => (hgr.block i (by rw [World.size_alloc]; omega) (by intro e; cases e; exact hne rfl)).trans (Below.heap_alloc w1 o i hi)
 refine ⟨by rw [hdrs_append _ _ _ _ h.bks.len]; simp only [hdrs, hn]; exact hown, ?_, ?_⟩
 · refine h.bks.snoc (fun i y hy d hd hl => ?_) (by rw [hn]; exact Row.of_own hown) (h1.keep fun d hd _ => hkeep d ?_ ?_) (by rw [hn]; exact hc1)
   · have h3 := h.apt.in_ i y d hy hd
     rw [blk_some] at h3
     rw [hkeep d (by omega) (by omega)]
     exact hb1.block d hl
   · rw [blk_some] at hd; omega
   · rw [blk_some] at hd; omega
 · refine h.apt.snoc (hi' := w2.heap.size) ?_ hl2 (fun d hd => ?_) hB (by omega)
   · rcases hg2 with e | e
     · cases e; exact .inl rfl
     · exact .inr (by omega)
   · rw [blk_some] at hd
     refine ⟨by omega, by omega, ?_⟩
     rcases hg2 with e | e
     · cases e; omega
     · omega
end Go.Proofs.Ytclnogfmmekooaa
namespace Go.Proofs.Ytclnogfmmekooaa
set_option linter.unusedVariables false
set_option linter.unusedSimpArgs false
open Go.RowKit Go.Maps
set_option maxHeartbeats 400000
theorem make_pages (w : World) : (Instr.makeSlice 33 (.int .i64 4) (.int .i64 4)).run Try.prog w = .ok (.slice (some ⟨w.heap.size, 0, none⟩) 4 4) (w.alloc (.cells #[.int .i64 0, .int .i64 0, .int .i64 0, .int .i64 0, .int .i64 0, .int .i64 0, .int .i64 0, .int .i64 0, .int .i64 0, .int .i64 0, .int .i64 0, .int .i64 0, .int .i64 0, .int .i64 0, .int .i64 0, .int .i64 0, .int .i64 0, .int .i64 0, .int .i64 0, .int .i64 0] 42)) := by kernel_rfl
set_option maxRecDepth 100000 in
set_option maxHeartbeats 1600000 in
theorem spec_FlashNew (w : World) : Calls Try.prog 96 #[] w fun e w' =>
 ∃ g c', e = .returned (.slice (some ⟨g, 0, none⟩) 4 c') ∧ 4 ≤ c' ∧ OFl w' w.heap.size w'.heap.size (some ⟨g, 0, none⟩) flashNew ∧ Below w.heap.size w w' := by
 obtain ⟨ib, hib, hbz0, hbz1, hbz2⟩ := info_parts Try.info3_block
 have hmk := make_pages
 have hb0 : Bld w.heap.size (w.alloc (.cells #[] 35)) w.heap.size 0 0 (flashNew.take 0) [] :=
  ⟨World.ownsRow_lit w #[] 0 (Nat.le_refl _) (by unfold maxLen; omega) rfl, ⟨rfl, Row.nil _ _, fun _ _ _ h _ => absurd h (by simp)⟩, ⟨fun b hb => by rw [blk_some] at hb; simp; omega, fun _ _ _ h _ => absurd h (by simp), fun _ _ _ _ _ h _ _ _ => absurd h (by simp)⟩⟩
 have hB0 : Below w.heap.size w (w.alloc (.cells #[] 35)) := (Below.refl _ _).alloc (Nat.le_refl _) _
 go_enter Try.func96, Try.ntmps96
 go_wp2
 go_loopw [1, 2] (fun v i wr => ∃ (k g c : Nat) (ks : List (Option Addr × Nat)), k ≤ 4 ∧ i = .int .i64 k ∧ v = .slice (some ⟨g, 0, none⟩) k c ∧ Below w.heap.size w wr ∧ Bld w.heap.size wr g k c (flashNew.take k) ks ∧ k ≤ c) (fun _ i _ => 4 - (intOf i).toNat)
 case atStart => exact ⟨0, _, 0, [], by omega, rfl, rfl, hB0, hb0, Nat.le_refl _⟩
 case round =>
  clear hb0 hB0
  obtain ⟨k, g, c, ks, hk, rfl, rfl, hb, hBd, hkc⟩ := hrel
  by_cases hlt : k < 4
  · have hown := hBd.own
    have hsz := hb.size
    have hgl := hBd.apt.top g (by rw [blk_some])
    have hR1 : Row (wr.alloc (.cells #[.int .i64 0, .int .i64 0, .int .i64 0, .int .i64 0, .int .i64 0, .int .i64 0, .int .i64 0, .int .i64 0, .int .i64 0, .int .i64 0, .int .i64 0, .int .i64 0, .int .i64 0, .int .i64 0, .int .i64 0, .int .i64 0, .int .i64 0, .int .i64 0, .int .i64 0, .int .i64 0] 42)) (some ⟨wr.heap.size, 0, none⟩) (pgs (List.replicate 4 pg0)) := Row.new wr #[.int .i64 0, .int .i64 0, .int .i64 0, .int .i64 0, .int .i64 0, .int .i64 0, .int .i64 0, .int .i64 0, .int .i64 0, .int .i64 0, .int .i64 0, .int .i64 0, .int .i64 0, .int .i64 0, .int .i64 0, .int .i64 0, .int .i64 0, .int .i64 0, .int .i64 0, .int .i64 0] _
    obtain ⟨W, hW⟩ : ∃ W, wr.alloc (.cells #[.int .i64 0, .int .i64 0, .int .i64 0, .int .i64 0, .int .i64 0, .int .i64 0, .int .i64 0, .int .i64 0, .int .i64 0, .int .i64 0, .int .i64 0, .int .i64 0, .int .i64 0, .int .i64 0, .int .i64 0, .int .i64 0, .int .i64 0, .int .i64 0, .int .i64 0, .int .i64 0] 42) = W := ⟨_, rfl⟩
    have hownW := hown.alloc (.cells #[.int .i64 0, .int .i64 0, .int .i64 0, .int .i64 0, .int .i64 0, .int .i64 0, .int .i64 0, .int .i64 0, .int .i64 0, .int .i64 0, .int .i64 0, .int .i64 0, .int .i64 0, .int .i64 0, .int .i64 0, .int .i64 0, .int .i64 0, .int .i64 0, .int .i64 0, .int .i64 0] 42)
    have hbW : Below wr.heap.size wr W := hW ▸ (Below.refl _ _).alloc (Nat.le_refl _) _
    have hsW : W.heap.size = wr.heap.size + 1 := by rw [← hW]; simp
    have hmkW := hmk wr
    rw [hW] at hR1 hownW hmkW
    have HSW := Lib.hid hsW
    have HK := Lib.hid hmk
    clear hmk hW hsW
    go_wp2_with (at_builtin; refine wpList_append_lies _ rfl (.tmp 8) (.tmp 11) _ rfl w.heap.size 35 ib _ 2 32 Try.underlying25 hib hbz0 hbz1 hbz2 rfl (by omega) (.slice (some ⟨g, 0, none⟩) k c) k (hdrs (flashNew.take k) ks) rfl (hownW.alloc (.cells #[.slice (some ⟨wr.heap.size, 0, none⟩) 4 4, .int .i64 0] 35)) ⟨W.heap.size, 0, none⟩ 1 1 [.slice (some ⟨wr.heap.size, 0, none⟩) 4 4, .int .i64 0] rfl rfl (World.news_of_block (cs := #[.slice (some ⟨wr.heap.size, 0, none⟩) 4 4, .int .i64 0]) (t := 35) (fr := (0, 0)) (heap_alloc_new W _)) (by simp [Value.oneCell']) (by omega) (by unfold maxLen; omega) (by omega) (by have := HSW.out; simp; omega) (W.heap.size + 1) (by simp) ?_; intro g2 c2 w2 hown2 hgrow2 hat2 hlt2)
    have hstep := hBd.step (b := newBlock) (c1 := 4) (n := 4) (by rfl) hsz hR1 (Nat.le_refl _) (Nat.le_refl _) (by have := HSW.out; omega) hbW hown2 hgrow2 hat2 hlt2
    rw [show flashNew.take k ++ [newBlock] = flashNew.take (k + 1) from by rw [List.take_add_one, show flashNew[k]? = some newBlock by rw [flashNew, List.getElem?_replicate, if_pos hlt]]; rfl] at hstep
    have hcap := ownsRow_cap hown2
    have hB2 := hb.trans (((hbW.mono hsz).alloc (by have := HSW.out; omega) _).grown hgrow2 (by have := HSW.out; simp; omega) (by intro q e; cases e; exact hgl.1))
    go_roundw
    case rel => exact ⟨k + 1, g2, c2, _, by omega, by go_num, rfl, hB2, hstep, hcap⟩
    case measure => simp [intOf]; omega
  · obtain rfl : k = 4 := by omega
    go_wp2
    go_ret
    exact ⟨g, c, rfl, hkc, ⟨ks, hBd.bks, hBd.apt⟩, hb⟩

/-- a store to a header's second cell: the wear -/
theorem wrote_worn {w : World} {g o i : Nat} {f : List Bk} {hs : List (Option Addr × Nat)} {b : Bk} {x : Option Addr × Nat} (h : Bks w (some ⟨g, o, none⟩) f hs) (hi : f[i]? = some b) (hx : hs[i]? = some x) (n : Int) :
 Wrote w (w.setCell ⟨g, o + i * 2 + 1, none⟩ (.int .i64 n)) g (o + i * 2) [.slice x.1 b.pages.length x.2, .int .i64 n] := by
 obtain ⟨y, hy, c0, c1, _⟩ := h.at_ hi
 rw [hx] at hy; cases hy
 exact (wrote_one c1 (.int .i64 n)).less c0
def wipeR (f : List Bk) (i : Nat) (torn : Bool) : List Bk × Bool := if 200 ≤ (f.getD i zbk).worn then (f, false) else (wipe f i torn, true)
set_option maxRecDepth 100000 in
theorem spec_l2Wipe' (f : List Bk) (i lo hi g o c : Nat) (torn : Bool) (w : World) (hl : f.length = 4) (hp : ∀ b ∈ f, b.pages.length = 4 ∧ 0 ≤ b.worn ∧ b.worn ≤ 200) (hi4 : i < 4) (hs : List (Option Addr × Nat)) (hBk : Bks w (some ⟨g, o, none⟩) f hs) (hApt : Apt lo hi (some ⟨g, o, none⟩) hs) :
 Calls Try.prog 106 #[.slice (some ⟨g, o, none⟩) 4 c, .int .i64 i, .bool torn] w fun e w' =>
  e = .returned (.tuple #[.slice (some ⟨g, o, none⟩) 4 c, .bool (wipeR f i torn).2]) ∧ Bks w' (some ⟨g, o, none⟩) (wipeR f i torn).1 hs ∧ Agr (fblk (some ⟨g, o, none⟩) hs) w w' := by
 obtain ⟨B, hB⟩ := get_some (l := f) (k := i) (by omega)
 have hBm := hp B (List.mem_of_getElem? hB)
 have hBget : f.getD i zbk = B := by rw [List.getD_eq_getElem?_getD, hB]; rfl
 obtain ⟨x, hx, z0, z1, z2, z3, hR, _⟩ := hBk.at_ hB
 obtain ⟨hw1, hw2, hw3⟩ := hBm
 have hg := hApt.top g (by rw [blk_some])
 have hi4' : (i : Int) < 4 := by omega
 have hi0 : (0 : Int) ≤ i := by omega
 by_cases h200 : 200 ≤ B.worn
 · have hfin : Hid (wipeR f i torn = (f, false)) := by unfold Hid wipeR; rw [hBget, if_pos h200]
   clear hl hp hBget hw1
   go_enter Try.func106, Try.ntmps106
   go_wp2
   go_ret2
   rw [hfin.out]
   exact ⟨rfl, hBk, Agr.refl _ _⟩
 · have hfin : Hid (wipeR f i torn = (wipe f i torn, true)) := by unfold Hid wipeR; rw [hBget, if_neg h200]
   have hlt : B.worn < 200 := by omega
   obtain ⟨⟨pb, po, hpa⟩, hpb⟩ : (∃ pb po, x.1 = some ⟨pb, po, none⟩) ∧ True := ⟨hR.addr (pgs_ne (by intro e; rw [e] at hw1; simp at hw1)), trivial⟩
   obtain ⟨A, cp⟩ := x
   dsimp only at hpa
   subst hpa
   dsimp only at *
   have hW := wrote_worn hBk hB hx (B.worn + 1)
   have hBk1 := hBk.setHdr hApt hB hx hW
   have hpin := hApt.in_ i _ pb hx (by rw [blk_some])
   rw [blk_some] at hpin
   have hW1 := Lib.hid hW.agr
   have HX := Lib.hid hx
   have HL := Lib.hid hl
   have HB := Lib.hid hB
   have HG := Lib.hid hBget
   have HW1 := Lib.hid hw1
   rw [hw1] at z0
   have hz0' := hW.new_ 0 _ rfl
   rw [Nat.add_zero, hw1] at hz0'
   clear hl hp hB hBget hx hw1 hpb hW
   go_enter Try.func106, Try.ntmps106
   cases torn
   · go_wp2
     go_loopw [9] (fun q wr => ∃ (k : Nat), k ≤ 4 ∧ q = .int .i64 k ∧ Bks wr (some ⟨g, o, none⟩) (f.set i ⟨List.replicate k ⟨0, rc0⟩ ++ B.pages.drop k, B.worn + 1⟩) hs ∧ Agr (fblk (some ⟨g, o, none⟩) hs) w wr ∧ wr.cell? ⟨g, o + i * 2, none⟩ = some (.slice (some ⟨pb, po, none⟩) 4 cp)) (fun q _ => 4 - (intOf q).toNat)
     case atStart => exact ⟨0, by omega, rfl, hBk1, (Agr.refl _ _).trans hW1.out (fun k _ e => .inl (by rw [e, blk_some])), hz0'⟩
     case round =>
      clear hBk1 hz0'
      obtain ⟨k, hk, rfl, hBk2, hA, hz⟩ := hrel
      by_cases hltk : k < 4
      · have hk4' : (k : Int) < 4 := by omega
        have hget : (f.set i ⟨List.replicate k ⟨0, rc0⟩ ++ B.pages.drop k, B.worn + 1⟩)[i]? = some ⟨List.replicate k ⟨0, rc0⟩ ++ B.pages.drop k, B.worn + 1⟩ := by rw [List.getElem?_set_self (by have := HL.out; omega)]
        obtain ⟨hr2, _⟩ := hBk2.pg i _ _ hget HX.out
        obtain ⟨q, hq⟩ := get_some (l := List.replicate k (⟨0, rc0⟩ : Pg) ++ B.pages.drop k) (k := k) (by have := HW1.out; simp; omega)
        obtain ⟨c0, c1, c2, c3, c4⟩ := hr2.pg hq
        obtain ⟨f0, f1, f2, f3, f4⟩ := hr2.pgf hq
        have hWp := wrote_page hr2 hq ⟨0, rc0⟩
        have hBk3 := hBk2.setPage hApt hget HX.out (by have := HW1.out; simp; omega) hWp
        rw [List.set_set] at hBk3
        dsimp only at hBk3
        rw [fill_step _ _ _ (by have := HW1.out; omega)] at hBk3
        have hA3 := hA.trans hWp.agr (fun j _ e => .inr ⟨i, _, HX.out, by rw [e, blk_some]⟩)
        have hz3 := (hWp.block g (by omega))
        have HQ := Lib.hid hq
        have HGT := Lib.hid hget
        have hz4 := (World.cell?_of_block (a := ⟨g, o + i * 2, none⟩) hz3).trans hz
        simp only [rc0] at hBk3 hA3 hz4
        clear hq hget hz3 hWp
        go_wp2
        go_roundw
        case rel => exact ⟨k + 1, by omega, by go_num, hBk3, hA3, hz4⟩
        case measure => simp [intOf]; omega
      · obtain rfl : k = 4 := by omega
        go_wp2
        go_ret2
        rw [hfin.out]
        rw [show B.pages.drop 4 = [] from List.drop_of_length_le (by have := HW1.out; omega), List.append_nil] at hBk2
        exact ⟨rfl, by unfold wipe; rw [HG.out]; exact hBk2, hA⟩
   · go_wp2
     go_loopw [9] (fun q wr => ∃ (k : Nat), k ≤ 4 ∧ q = .int .i64 k ∧ Bks wr (some ⟨g, o, none⟩) (f.set i ⟨List.replicate k ⟨2, rc0⟩ ++ B.pages.drop k, B.worn + 1⟩) hs ∧ Agr (fblk (some ⟨g, o, none⟩) hs) w wr ∧ wr.cell? ⟨g, o + i * 2, none⟩ = some (.slice (some ⟨pb, po, none⟩) 4 cp)) (fun q _ => 4 - (intOf q).toNat)
     case atStart => exact ⟨0, by omega, rfl, hBk1, (Agr.refl _ _).trans hW1.out (fun k _ e => .inl (by rw [e, blk_some])), hz0'⟩
     case round =>
      clear hBk1 hz0'
      obtain ⟨k, hk, rfl, hBk2, hA, hz⟩ := hrel
      by_cases hltk : k < 4
      · have hk4' : (k : Int) < 4 := by omega
        have hget : (f.set i ⟨List.replicate k ⟨2, rc0⟩ ++ B.pages.drop k, B.worn + 1⟩)[i]? = some ⟨List.replicate k ⟨2, rc0⟩ ++ B.pages.drop k, B.worn + 1⟩ := by rw [List.getElem?_set_self (by have := HL.out; omega)]
        obtain ⟨hr2, _⟩ := hBk2.pg i _ _ hget HX.out
        obtain ⟨q, hq⟩ := get_some (l := List.replicate k (⟨2, rc0⟩ : Pg) ++ B.pages.drop k) (k := k) (by have := HW1.out; simp; omega)
        obtain ⟨c0, c1, c2, c3, c4⟩ := hr2.pg hq
        obtain ⟨f0, f1, f2, f3, f4⟩ := hr2.pgf hq
        have hWp := wrote_page hr2 hq ⟨2, rc0⟩
        have hBk3 := hBk2.setPage hApt hget HX.out (by have := HW1.out; simp; omega) hWp
        rw [List.set_set] at hBk3
        dsimp only at hBk3
        rw [fill_step _ _ _ (by have := HW1.out; omega)] at hBk3
        have hA3 := hA.trans hWp.agr (fun j _ e => .inr ⟨i, _, HX.out, by rw [e, blk_some]⟩)
        have hz3 := (hWp.block g (by omega))
        have HQ := Lib.hid hq
        have HGT := Lib.hid hget
        have hz4 := (World.cell?_of_block (a := ⟨g, o + i * 2, none⟩) hz3).trans hz
        simp only [rc0] at hBk3 hA3 hz4
        clear hq hget hz3 hWp
        go_wp2
        go_roundw
        case rel => exact ⟨k + 1, by omega, by go_num, hBk3, hA3, hz4⟩
        case measure => simp [intOf]; omega
      · obtain rfl : k = 4 := by omega
        go_wp2
        go_ret2
        rw [hfin.out]
        rw [show B.pages.drop 4 = [] from List.drop_of_length_le (by have := HW1.out; omega), List.append_nil] at hBk2
        exact ⟨rfl, by unfold wipe; rw [HG.out]; exact hBk2, hA⟩
theorem spec_l2Wipe (f : List Bk) (i lo hi g o c : Nat) (torn : Bool) (w : World) (hl : f.length = 4) (hp : ∀ b ∈ f, b.pages.length = 4 ∧ 0 ≤ b.worn ∧ b.worn ≤ 200) (hi4 : i < 4) (hF : OFl w lo hi (some ⟨g, o, none⟩) f) :
 Calls Try.prog 106 #[.slice (some ⟨g, o, none⟩) 4 c, .int .i64 i, .bool torn] w fun e w' =>
  e = .returned (.tuple #[.slice (some ⟨g, o, none⟩) 4 c, .bool (wipeR f i torn).2]) ∧ OFl w' lo hi (some ⟨g, o, none⟩) (wipeR f i torn).1 ∧ Agr (fun b => lo ≤ b ∧ b < hi) w w' := by
 obtain ⟨hs, hBk, hApt⟩ := hF
 refine (spec_l2Wipe' f i lo hi g o c torn w hl hp hi4 hs hBk hApt).mono ?_
 rintro e w1 ⟨h1, h2, h3⟩
 exact ⟨h1, ⟨hs, h2, hApt⟩, h3.mono fun b hb => hApt.fblk hb⟩

theorem ofl_empty {w : World} {lo hi g : Nat} (h1 : lo ≤ g) (h2 : g < hi) : OFl w lo hi (some ⟨g, 0, none⟩) [] :=
 ⟨[], ⟨rfl, Row.nil _ _, fun _ _ _ h _ => absurd h (by simp)⟩, ⟨fun b h => by rw [blk_some] at h; omega, fun _ _ _ h _ => absurd h (by simp), fun _ _ _ _ _ h _ _ _ => absurd h (by simp)⟩⟩
theorem wipeR_eq {f : List Bk} {i : Nat} {torn : Bool} (hok : flashOk f = true) (hi : i < 4) : flashWipe f i torn = wipeR f i torn := by
 have hl := flashOk_len hok
 obtain ⟨B, hB⟩ := get_some (l := f) (k := i) (by omega)
 have hs := flashOk_shape hok B (List.mem_of_getElem? hB)
 have hBget : f.getD i zbk = B := by rw [List.getD_eq_getElem?_getD, hB]; rfl
 unfold flashWipe wipeR
 rw [if_neg (by rw [hok]; unfold blockB; simp; omega), Int.toNat_natCast, hBget]
 by_cases h : B.worn = 200
 · rw [if_pos h, if_pos (by omega)]
 · rw [if_neg h, if_neg (by omega)]
theorem wipeR_len (f : List Bk) (i : Nat) (torn : Bool) : (wipeR f i torn).1.length = f.length := by
 unfold wipeR wipe
 split <;> simp
end Go.Proofs.Ytclnogfmmekooaa
namespace Go.Proofs.Ytclnogfmmekooaa
set_option linter.unusedVariables false
set_option linter.unusedSimpArgs false
def writeR (f : List Bk) (i : Nat) (r : Rc) (torn : Bool) : List Bk × Bool :=
 if clean (f.getD i zbk) = 0 ∨ seqIn f r.seq = true then (f, false)
 else (f.set i { f.getD i zbk with pages := (f.getD i zbk).pages.set (4 - clean (f.getD i zbk)) (if torn then ⟨2, rc0⟩ else ⟨1, r⟩) }, true)
def dirty (f : List Bk) (a : Int) : Bool := decide (0 < (last f a).seq) && decide ((last f a).kind = 1)
def readV (s : St) (a : Int) : Int := if 0 < (last s.flash a).seq then (last s.flash a).val else s.disk.getD (a - 1).toNat 0
def told (f : List Bk) (p : Pg) : Bool := live f p && decide (p.rc.kind = 1)
def tellP (p : Pg) : Sp := ⟨1, p.rc.addr, p.rc.val, 0, rc0⟩
def tells (f : List Bk) (ps : List Pg) : List Sp := (ps.filter (told f)).map tellP
/-- steps that make room, the block, and whether there is any -/
def room (f : List Bk) : List Sp × Int × Bool :=
 if (openB f).2 then ([], (openB f).1, true)
 else (tells f (f.getD (old f) zbk).pages ++ [⟨2, 0, 0, old f, rc0⟩], old f, decide ((f.getD (old f) zbk).worn < 200))
def wr (f : List Bk) (kind addr val : Int) : List Sp :=
 if (room f).2.2 = false ∨ recOk ⟨kind, next f, addr, val⟩ = false then [] else (room f).1 ++ [⟨3, 0, 0, (room f).2.1, ⟨kind, next f, addr, val⟩⟩]
def flush (s : St) (a : Int) : List Sp :=
 if addrB a = false ∨ dirty s.flash a = false then [] else
 if wr s.flash 2 a (readV s a) = [] then [] else ⟨1, a, readV s a, 0, rc0⟩ :: wr s.flash 2 a (readV s a)
def fill (s : St) (a : Int) : List Sp :=
 if addrB a = false ∨ 0 < (last s.flash a).seq then [] else wr s.flash 2 a (s.disk.getD (a - 1).toNat 0)
def stepsOf (s : St) (e : Ev) : List Sp :=
 if e.kind = 1 then wr s.flash 1 e.a e.b else if e.kind = 2 then flush s e.a else if e.kind = 3 then fill s e.a else []
def doStep (s : St) (x : Sp) (torn : Bool) : St :=
 if x.kind = 1 then (if torn then s else { s with disk := s.disk.set (x.addr - 1).toNat x.val })
 else if x.kind = 2 then { s with flash := (wipeR s.flash x.block.toNat torn).1 }
 else if x.kind = 3 then { s with flash := (writeR s.flash x.block.toNat x.rc torn).1 } else s
def doAllOf (s : St) (xs : List Sp) : St := xs.foldl (fun s x => doStep s x false) s
def doTo (s : St) (xs : List Sp) (cut : Int) (torn : Bool) : St :=
 if torn = true ∧ 0 ≤ cut ∧ cut < xs.length then doStep (doAllOf s (xs.take cut.toNat)) (xs.getD cut.toNat ⟨0, 0, 0, 0, rc0⟩) true else doAllOf s (xs.take cut.toNat)
def doFlush (s : St) (a : Int) : St := doTo s (flush s a) (flush s a).length false
def doEvery (s : St) : St := [1, 2, 3, 4, 5, 6].foldl doFlush s
def doEv (s : St) (e : Ev) : St := if e.kind = 4 then doEvery s else if e.c < 0 then s else doTo s (stepsOf s e) e.c e.torn
/-- shape: blocks and pages as many as there are to be, each page ok -/
def pgFine (p : Pg) : Prop := pageOk p = true
def bkFine (b : Bk) : Prop := b.pages.length = 4 ∧ 0 ≤ b.worn ∧ b.worn ≤ 200 ∧ ∀ p ∈ b.pages, pageOk p = true
def flFine (f : List Bk) : Prop := f.length = 4 ∧ ∀ b ∈ f, bkFine b
def stFine (s : St) : Prop := flFine s.flash ∧ s.disk.length = 6 ∧ ∀ v ∈ s.disk, 0 ≤ v ∧ v ≤ 9
/-- a step that can be done -/
def spFine (x : Sp) : Prop := (x.kind = 1 → 1 ≤ x.addr ∧ x.addr ≤ 6 ∧ 0 ≤ x.val ∧ x.val ≤ 9) ∧ (x.kind = 2 ∨ x.kind = 3 → 0 ≤ x.block ∧ x.block < 4) ∧ (x.kind = 3 → recOk x.rc = true)
end Go.Proofs.Ytclnogfmmekooaa
namespace Go.Proofs.Ytclnogfmmekooaa
set_option linter.unusedVariables false
set_option linter.unusedSimpArgs false
open Go.RowKit Go.Maps
set_option maxHeartbeats 400000
theorem clean_le (b : Bk) : clean b ≤ b.pages.length := List.countP_le_length
theorem spec_l11Dirty (f : List Bk) (a : Int) (A D : Option Addr) (c m d : Nat) (w : World) (hl : f.length < 1000000000000) (hp : ∀ b ∈ f, b.pages.length < 1000000000000) (hF : Fl w A f) :
 Calls Try.prog 104 #[.agg #[.slice A f.length c, .slice D m d], .int .i64 a] w fun e w' => e = .returned (.bool (dirty f a)) ∧ Below w.heap.size w w' := by
 have HP := Lib.hid hp
 clear hp
 go_enter Try.func104, Try.ntmps104
 go_wp2_with fail
 refine (spec_l3Last f a A c _ hl HP.out (hF.alloc _)).mono ?_
 rintro e w1 ⟨rfl, hb⟩
 have hB : Below w.heap.size w w1 := Below.trans (by (repeat (first | (with_reducible exact Below.refl _ _) | (with_reducible assumption) | (refine Below.setCell ?_ (by first | omega | exact hB.size | exact hb.size | (have h := hB.size; simp; omega) | (have h := hb.size; simp; omega) | (simp; omega) | simp) _) | (refine Below.alloc ?_ (by first | omega | exact hB.size | exact hb.size | (have h := hB.size; simp; omega) | (have h := hb.size; simp; omega) | (simp; omega) | simp) _) | (refine Below.drew ?_)))) (hb.mono (by simp))
 have hfin : Hid (dirty f a = (decide (0 < (last f a).seq) && decide ((last f a).kind = 1))) := rfl
 clear hb
 generalize last f a = x at *
 by_cases h1 : 0 < x.seq
 · by_cases h2 : x.kind = 1
   · have h3 : Hid (dirty f a = true) := by rw [Hid, hfin.out]; simp [h1, h2]
     go_wp2
     all_goals go_ret
     all_goals exact ⟨ret_bool (by first | exact h3.out.symm | (rw [h3.out]; simp [*])), by (repeat (first | (with_reducible exact Below.refl _ _) | (with_reducible assumption) | (refine Below.setCell ?_ (by first | omega | exact hB.size | exact hb.size | (have h := hB.size; simp; omega) | (have h := hb.size; simp; omega) | (simp; omega) | simp) _) | (refine Below.alloc ?_ (by first | omega | exact hB.size | exact hb.size | (have h := hB.size; simp; omega) | (have h := hb.size; simp; omega) | (simp; omega) | simp) _) | (refine Below.drew ?_)))⟩
   · have h3 : Hid (dirty f a = false) := by rw [Hid, hfin.out]; simp [h1, h2]
     go_wp2
     all_goals go_ret
     all_goals exact ⟨ret_bool (by first | exact h3.out.symm | (rw [h3.out]; simp [*])), by (repeat (first | (with_reducible exact Below.refl _ _) | (with_reducible assumption) | (refine Below.setCell ?_ (by first | omega | exact hB.size | exact hb.size | (have h := hB.size; simp; omega) | (have h := hb.size; simp; omega) | (simp; omega) | simp) _) | (refine Below.alloc ?_ (by first | omega | exact hB.size | exact hb.size | (have h := hB.size; simp; omega) | (have h := hb.size; simp; omega) | (simp; omega) | simp) _) | (refine Below.drew ?_)))⟩
 · have h3 : Hid (dirty f a = false) := by rw [Hid, hfin.out]; simp [h1]
   go_wp2
   all_goals go_ret
   all_goals exact ⟨ret_bool (by first | exact h3.out.symm | (rw [h3.out]; simp [*])), by (repeat (first | (with_reducible exact Below.refl _ _) | (with_reducible assumption) | (refine Below.setCell ?_ (by first | omega | exact hB.size | exact hb.size | (have h := hB.size; simp; omega) | (have h := hb.size; simp; omega) | (simp; omega) | simp) _) | (refine Below.alloc ?_ (by first | omega | exact hB.size | exact hb.size | (have h := hB.size; simp; omega) | (have h := hb.size; simp; omega) | (simp; omega) | simp) _) | (refine Below.drew ?_)))⟩
theorem spec_l11Read (s : St) (a : Int) (A D : Option Addr) (c d : Nat) (w : World) (hl : s.flash.length < 1000000000000) (hp : ∀ b ∈ s.flash, b.pages.length < 1000000000000) (hd : s.disk.length = 6) (ha : 1 ≤ a) (ha2 : a ≤ 6) (hF : Fl w A s.flash) (hD : Row w D (ints s.disk)) :
 Calls Try.prog 105 #[.agg #[.slice A s.flash.length c, .slice D 6 d], .int .i64 a] w fun e w' => e = .returned (.int .i64 (readV s a)) ∧ Below w.heap.size w w' := by
 have HP := Lib.hid hp
 obtain ⟨i, rfl⟩ : ∃ i : Nat, a = i + 1 := ⟨(a - 1).toNat, by omega⟩
 have hi : i < 6 := by omega
 obtain ⟨v, hv⟩ := get_some (l := s.disk) (k := i) (by omega)
 have hgd : s.disk.getD i 0 = v := by rw [List.getD_eq_getElem?_getD, hv]; rfl
 have hne : s.disk ≠ [] := by rintro h; rw [h] at hd; simp at hd
 have hfin : Hid (readV s (i + 1) = if 0 < (last s.flash (i + 1)).seq then (last s.flash (i + 1)).val else v) := by unfold Hid readV; rw [show ((i : Int) + 1 - 1).toNat = i by omega, hgd]
 have HV := Lib.hid hv
 have hn1 : ints s.disk ≠ [] := by
  intro e; apply hne
  have := congrArg List.length e
  rw [ints_len] at this
  exact List.length_eq_zero_iff.1 this
 obtain ⟨db, dO, rfl⟩ := hD.addr hn1
 have hi6 : (i : Int) < 6 := by omega
 clear hp hv hgd hne hn1 hd
 go_enter Try.func105, Try.ntmps105
 go_wp2_with fail
 refine (spec_l3Last s.flash (i + 1) A c _ hl HP.out (hF.alloc _)).mono ?_
 rintro e w1 ⟨rfl, hb⟩
 have hB : Below w.heap.size w w1 := Below.trans (by (repeat (first | (with_reducible exact Below.refl _ _) | (with_reducible assumption) | (refine Below.setCell ?_ (by first | omega | exact hB.size | exact hb.size | (have h := hB.size; simp; omega) | (have h := hb.size; simp; omega) | (simp; omega) | simp) _) | (refine Below.alloc ?_ (by first | omega | exact hB.size | exact hb.size | (have h := hB.size; simp; omega) | (have h := hb.size; simp; omega) | (simp; omega) | simp) _) | (refine Below.drew ?_)))) (hb.mono (by simp))
 obtain ⟨hc, hf⟩ := bcell hb
 have hz : w.heap.size < w1.heap.size := by have := hb.size; simp at this; omega
 have hcv := ((hD.alloc (.cells #[.slice A s.flash.length c, .slice (some ⟨db, dO, none⟩) 6 d] 94)).below hb (Nat.le_refl _)).int_ HV.out
 obtain ⟨hcv, _⟩ := hcv
 have hdb := lt_of_cell hcv
 clear hb
 generalize last s.flash (i + 1) = x at *
 by_cases h1 : 0 < x.seq
 · have h3 : Hid (readV s (i + 1) = x.val) := by rw [Hid, hfin.out]; simp [h1]
   go_wp2
   all_goals go_ret
   all_goals exact ⟨ret_int h3.out.symm, by (repeat (first | (with_reducible exact Below.refl _ _) | (with_reducible assumption) | (refine Below.setCell ?_ (by first | omega | exact hB.size | exact hb.size | (have h := hB.size; simp; omega) | (have h := hb.size; simp; omega) | (simp; omega) | simp) _) | (refine Below.alloc ?_ (by first | omega | exact hB.size | exact hb.size | (have h := hB.size; simp; omega) | (have h := hb.size; simp; omega) | (simp; omega) | simp) _) | (refine Below.drew ?_)))⟩
 · have h3 : Hid (readV s (i + 1) = v) := by rw [Hid, hfin.out]; simp [h1]
   have e1 : IntKind.i64.wrap ((i : Int) + 1 - 1) = i := by rw [show (i : Int) + 1 - 1 = i by omega]; exact IntWalk.i64_in _ (by omega)
   go_wp2
   all_goals go_ret
   all_goals exact ⟨ret_int h3.out.symm, by (repeat (first | (with_reducible exact Below.refl _ _) | (with_reducible assumption) | (refine Below.setCell ?_ (by first | omega | exact hB.size | exact hb.size | (have h := hB.size; simp; omega) | (have h := hb.size; simp; omega) | (simp; omega) | simp) _) | (refine Below.alloc ?_ (by first | omega | exact hB.size | exact hb.size | (have h := hB.size; simp; omega) | (have h := hb.size; simp; omega) | (simp; omega) | simp) _) | (refine Below.drew ?_)))⟩
set_option maxHeartbeats 2000000 in
theorem spec_l2Write' (f : List Bk) (i lo hi g o c : Nat) (r : Rc) (torn : Bool) (w : World) (hl : f.length = 4) (hp : ∀ b ∈ f, b.pages.length = 4) (hi4 : i < 4) (hs : List (Option Addr × Nat)) (hBk : Bks w (some ⟨g, o, none⟩) f hs) (hApt : Apt lo hi (some ⟨g, o, none⟩) hs) :
 Calls Try.prog 107 #[.slice (some ⟨g, o, none⟩) 4 c, .int .i64 i, .agg #[.int .i64 r.kind, .int .i64 r.seq, .int .i64 r.addr, .int .i64 r.val], .bool torn] w fun e w' =>
  e = .returned (.tuple #[.slice (some ⟨g, o, none⟩) 4 c, .bool (writeR f i r torn).2]) ∧ Bks w' (some ⟨g, o, none⟩) (writeR f i r torn).1 hs ∧ Agr (fblk (some ⟨g, o, none⟩) hs) w w' := by
 obtain ⟨B, hB⟩ := get_some (l := f) (k := i) (by omega)
 have hBm := hp B (List.mem_of_getElem? hB)
 have hBget : f.getD i zbk = B := by rw [List.getD_eq_getElem?_getD, hB]; rfl
 have hBk0 := hBk.alloc (.cells #[.int .i64 r.kind, .int .i64 r.seq, .int .i64 r.addr, .int .i64 r.val] 40)
 obtain ⟨⟨Ap, cp⟩, hx, z0, z1, z2, z3, hR, _⟩ := hBk0.at_ hB
 dsimp only at z0 hR
 have hcl : clean B ≤ 4 := by rw [← hBm]; exact clean_le B
 have hi4' : (i : Int) < 4 := by omega
 have hfin : Hid (writeR f i r torn = if clean B = 0 ∨ seqIn f r.seq = true then (f, false) else (f.set i { B with pages := B.pages.set (4 - clean B) (if torn then ⟨2, rc0⟩ else ⟨1, r⟩) }, true)) := by unfold Hid writeR; rw [hBget]
 have HP := Lib.hid (show ∀ b ∈ f, b.pages.length < 1000000000000 from fun b hb => by rw [hp b hb]; omega)
 have hpl : B.pages.length < 1000000000000 := by omega
 have HB := Lib.hid hB
 have HBM := Lib.hid hBm
 have HX := Lib.hid hx
 have HL := Lib.hid hl
 have hl4 : f.length < 1000000000000 := by omega
 clear hl hp hBget hBm hB hx
 go_enter Try.func107, Try.ntmps107
 go_wp2_with fail
 refine (spec_l2Clean B Ap cp _ hpl hR).mono ?_
 rintro e w1 ⟨rfl, hb⟩
 have hB1 : Below w.heap.size w w1 := Below.trans (by (repeat (first | (with_reducible exact Below.refl _ _) | (with_reducible assumption) | (refine Below.setCell ?_ (by first | omega | exact hB.size | exact hb.size | (have h := hB.size; simp; omega) | (have h := hb.size; simp; omega) | (simp; omega) | simp) _) | (refine Below.alloc ?_ (by first | omega | exact hB.size | exact hb.size | (have h := hB.size; simp; omega) | (have h := hb.size; simp; omega) | (simp; omega) | simp) _) | (refine Below.drew ?_)))) (hb.mono (by simp))
 have hz : w.heap.size < w1.heap.size := by have := hb.size; simp at this; omega
 obtain ⟨hc, hf⟩ := bcell hb
 have hBk1 := hBk0.below hb (Nat.le_refl _)
 clear hb z0 z1 z2 z3 hR
 generalize clean B = n at *
 by_cases h0 : n = 0
 · subst h0
   have h3 : Hid (writeR f i r torn = (f, false)) := by rw [Hid, hfin.out, if_pos (.inl rfl)]
   go_wp2
   go_ret2
   rw [h3.out]
   exact ⟨rfl, hBk1, Agr.of_below hB1⟩
 · have hn0 : ((n : Int) == 0) = false := by rw [beq_eq_false_iff_ne]; omega
   go_wp2_with fail
   rw [← HL.out]
   refine (spec_l2Seq f r.seq _ c _ hl4 HP.out ⟨hs, hBk1⟩).mono ?_
   rintro e w2 ⟨rfl, rfl⟩
   rw [HL.out]
   by_cases hsq : seqIn f r.seq = true
   · have h3 : Hid (writeR f i r torn = (f, false)) := by rw [Hid, hfin.out, if_pos (.inr hsq)]
     rw [hsq]
     go_wp2
     go_ret2
     rw [h3.out]
     exact ⟨rfl, hBk1, Agr.of_below hB1⟩
   · have h3 : Hid (writeR f i r torn = (f.set i { B with pages := B.pages.set (4 - n) (if torn then ⟨2, rc0⟩ else ⟨1, r⟩) }, true)) := by
      rw [Hid, hfin.out, if_neg (by intro h; rcases h with h | h; exact h0 h; exact hsq h)]
     rw [show seqIn f r.seq = false by simpa using hsq]
     obtain ⟨j, hj⟩ : ∃ j, j + n = 4 := ⟨4 - n, by omega⟩
     have hj4 : 4 - n = j := by omega
     have e1 : IntKind.i64.wrap ((4 : Int) - n) = (j : Int) := by rw [show (4 : Int) - n = j by omega]; exact IntWalk.i64_in _ (by omega)
     have e2 : (4 : Int) - n = (j : Int) := by omega
     rw [hj4] at h3
     clear hj4 hfin hsq
     obtain ⟨x, hx2, y0, y1, _, _, hR1, _⟩ := hBk1.at_ HB.out
     rw [HX.out] at hx2
     cases hx2
     dsimp only at y0 hR1
     rw [HBM.out] at y0
     obtain ⟨p, hq⟩ := get_some (l := B.pages) (k := j) (by rw [HBM.out]; omega)
     obtain ⟨pb, po, rfl⟩ := hR1.addr (pgs_ne (by intro e; rw [e] at hq; simp at hq))
     obtain ⟨c0, c1, c2, c3, c4⟩ := hR1.pg hq
     obtain ⟨f0, f1, f2, f3, f4⟩ := hR1.pgf hq
     have hj1 : (j : Int) < 4 := by omega
     have hpin := hApt.in_ i _ pb HX.out (by rw [blk_some])
     have HQ := Lib.hid hq
     have hpb := lt_of_cell c0
     have hgl := lt_of_cell y0
     clear hq
     cases torn
     · have hWp := wrote_page hR1 HQ.out ⟨1, r⟩
       have hBk2 := hBk1.setPage hApt HB.out HX.out (by rw [HBM.out]; omega) hWp
       have hA2 := (Agr.of_below hB1 (S := fblk (some ⟨g, o, none⟩) hs)).trans hWp.agr (fun b _ e => .inr ⟨i, _, HX.out, by rw [e, blk_some]⟩)
       clear hWp hBk1
       go_wp2
       go_region
       go_wp2
       go_ret2
       rw [h3.out]
       exact ⟨rfl, (hBk2.alloc _).drew, (hA2.alloc _).drew⟩
     · have hWp := wrote_page hR1 HQ.out ⟨2, rc0⟩
       have hBk2 := hBk1.setPage hApt HB.out HX.out (by rw [HBM.out]; omega) hWp
       have hA2 := (Agr.of_below hB1 (S := fblk (some ⟨g, o, none⟩) hs)).trans hWp.agr (fun b _ e => .inr ⟨i, _, HX.out, by rw [e, blk_some]⟩)
       simp only [rc0] at hBk2 hA2
       clear hWp hBk1
       go_wp2
       go_region
       go_wp2
       go_ret2
       rw [h3.out]
       exact ⟨rfl, (hBk2.alloc _).drew, (hA2.alloc _).drew⟩
end Go.Proofs.Ytclnogfmmekooaa
namespace Go.Proofs.Ytclnogfmmekooaa
set_option linter.unusedVariables false
set_option linter.unusedSimpArgs false
open Go.RowKit Go.Maps
set_option maxHeartbeats 400000
theorem Try.info3_step : (Try.prog.info? 156).map (fun i => (i.zero, i.size, i.bytes)) = some (some (.agg #[.int .i64 0, .int .i64 0, .int .i64 0, .int .i64 0, .int .i64 0, .int .i64 0, .int .i64 0, .int .i64 0]), 8, 64) := by kernel_rfl
theorem spec_l3Open' (n : Nat) (f : List Bk) (A : Option Addr) (c : Nat) (w : World) (hn : n = f.length) (hl : f.length < 1000000000000) (hp : ∀ b ∈ f, b.pages.length < 1000000000000) (hF : Fl w A f) :
 Calls Try.prog 114 #[.slice A n c] w fun e w' => e = .returned (.tuple #[.int .i64 (openB f).1, .bool (openB f).2]) ∧ 0 ≤ (openB f).1 ∧ (f ≠ [] → (openB f).1 < f.length) ∧ Below w.heap.size w w' := by subst hn; exact spec_l3Open f A c w hl hp hF
theorem spec_l3Old' (n : Nat) (f : List Bk) (A : Option Addr) (c : Nat) (w : World) (hn : n = f.length) (hl : f.length < 1000000000000) (h0 : 0 < f.length) (hp : ∀ b ∈ f, b.pages.length < 1000000000000) (hF : Fl w A f) :
 Calls Try.prog 115 #[.slice A n c] w fun e w' => e = .returned (.int .i64 (old f)) ∧ old f < f.length ∧ Below w.heap.size w w' := by subst hn; exact spec_l3Old f A c w hl h0 hp hF
theorem spec_l3Next' (n : Nat) (f : List Bk) (A : Option Addr) (c : Nat) (w : World) (hn : n = f.length) (hl : f.length < 1000000000000) (hp : ∀ b ∈ f, b.pages.length < 1000000000000) (hm : ∀ b ∈ f, most b < 1000000000000) (hF : Fl w A f) :
 Calls Try.prog 108 #[.slice A n c] w fun e w' => e = .returned (.int .i64 (next f)) ∧ Below w.heap.size w w' := by subst hn; exact spec_l3Next f A c w hl hp hm hF
theorem spec_l3Live' (n : Nat) (f : List Bk) (p : Pg) (A : Option Addr) (c : Nat) (w : World) (hn : n = f.length) (hl : f.length < 1000000000000) (hp : ∀ b ∈ f, b.pages.length < 1000000000000) (hF : Fl w A f) :
 Calls Try.prog 116 #[.slice A n c, .agg #[.int .i64 p.state, .int .i64 p.rc.kind, .int .i64 p.rc.seq, .int .i64 p.rc.addr, .int .i64 p.rc.val]] w fun e w' => e = .returned (.bool (live f p)) ∧ Below w.heap.size w w' := by subst hn; exact spec_l3Live f p A c w hl hp hF
theorem spec_l3Last' (n : Nat) (f : List Bk) (addr : Int) (A : Option Addr) (c : Nat) (w : World) (hn : n = f.length) (hl : f.length < 1000000000000) (hp : ∀ b ∈ f, b.pages.length < 1000000000000) (hF : Fl w A f) :
 Calls Try.prog 110 #[.slice A n c, .int .i64 addr] w fun e w' => e = .returned (.tuple #[.agg #[.int .i64 (last f addr).kind, .int .i64 (last f addr).seq, .int .i64 (last f addr).addr, .int .i64 (last f addr).val], .bool (decide (0 < (last f addr).seq))]) ∧ Below w.heap.size w w' := by subst hn; exact spec_l3Last f addr A c w hl hp hF
theorem spec_l11Dirty' (n : Nat) (f : List Bk) (a : Int) (A D : Option Addr) (c m d : Nat) (w : World) (hn : n = f.length) (hl : f.length < 1000000000000) (hp : ∀ b ∈ f, b.pages.length < 1000000000000) (hF : Fl w A f) :
 Calls Try.prog 104 #[.agg #[.slice A n c, .slice D m d], .int .i64 a] w fun e w' => e = .returned (.bool (dirty f a)) ∧ Below w.heap.size w w' := by subst hn; exact spec_l11Dirty f a A D c m d w hl hp hF
theorem spec_l11Read' (n : Nat) (s : St) (a : Int) (A D : Option Addr) (c d : Nat) (w : World) (hn : n = s.flash.length) (hl : s.flash.length < 1000000000000) (hp : ∀ b ∈ s.flash, b.pages.length < 1000000000000) (hd : s.disk.length = 6) (ha : 1 ≤ a) (ha2 : a ≤ 6) (hF : Fl w A s.flash) (hD : Row w D (ints s.disk)) :
 Calls Try.prog 105 #[.agg #[.slice A n c, .slice D 6 d], .int .i64 a] w fun e w' => e = .returned (.int .i64 (readV s a)) ∧ Below w.heap.size w w' := by subst hn; exact spec_l11Read s a A D c d w hl hp hd ha ha2 hF hD
/-- a row of steps of one's own, in a block from base on -/
def OwnS (w : World) (base : Nat) (v : Value) (xs : List Sp) : Prop := w.ownsRow base 156 8 v xs.length (sps xs)
theorem ownsRow_keep {w w' : World} {base : Nat} {e : TypeId} {size n : Nat} {v : Value} {xs : List Value} (h : w.ownsRow base e size v n xs) (hk : ∀ b, v.ownBlock = some b → b < w.heap.size → w'.heap[b]? = w.heap[b]?) : w'.ownsRow base e size v n xs := by
 refine ⟨h.1, ?_⟩
 rcases h.2 with hn | ⟨g, cap, cur, hv, hb, hg, rest⟩
 · exact .inl hn
 · have hl : g < w.heap.size := by
    rcases Nat.lt_or_ge g w.heap.size with hl | hl
    · exact hl
    · rw [Array.getElem?_eq_none hl] at hg; cases hg
   exact .inr ⟨g, cap, cur, hv, hb, by rw [hk g (by rw [hv]; rfl) hl]; exact hg, rest⟩
theorem OwnS.below {w w' : World} {base B : Nat} {v : Value} {xs : List Sp} (h : OwnS w base v xs) (hb : Below B w w') (hB : w.heap.size ≤ B) : OwnS w' base v xs := ownsRow_keep h fun b _ hl => hb.block b (by omega)
theorem OwnS.agr {w w' : World} {base : Nat} {v : Value} {xs : List Sp} {S : Nat → Prop} (h : OwnS w base v xs) (hb : Agr S w w') (hS : ∀ b, base ≤ b → ¬ S b) : OwnS w' base v xs := by
 refine ownsRow_keep h fun b hbl hl => hb.block b hl (hS b ?_)
 exact (World.ownsRow.lt h b hbl).1
theorem OwnS.mono {w : World} {base base' : Nat} {v : Value} {xs : List Sp} (h : OwnS w base v xs) (hb : base' ≤ base) : OwnS w base' v xs := World.ownsRow.mono h hb
theorem OwnS.nil (w : World) (base : Nat) (hb : base ≤ w.heap.size) : OwnS (w.alloc (.cells #[] 156)) base (.slice (some ⟨w.heap.size, 0, none⟩) 0 0) [] := World.ownsRow_lit w #[] 0 hb (by unfold maxLen; omega) rfl
theorem OwnS.shape {w : World} {base : Nat} {v : Value} {xs : List Sp} (h : OwnS w base v xs) : ∃ A c, v = .slice A xs.length c ∧ xs.length ≤ c ∧ Row w A (sps xs) ∧ ∀ b, blk A b → base ≤ b ∧ b < w.heap.size := by
 rcases h.2 with ⟨hv, hn⟩ | ⟨g, cap, cur, hv, hb, hg, hc, rest⟩
 · exact ⟨none, 0, by rw [hv, hn], by omega, by have : xs = [] := List.length_eq_zero_iff.1 hn; subst this; exact Row.nil _ _, fun b hb => by simp [blk] at hb⟩
 · refine ⟨some ⟨g, 0, none⟩, cap, hv, hc, Row.of_own (by rw [← hv]; exact h), fun b hbb => ?_⟩
   rw [blk_some] at hbb
   subst hbb
   exact ⟨hb, (World.ownsRow.lt h g (by rw [hv]; rfl)).2⟩
theorem OwnS.snoc {w : World} {base g n c : Nat} {xs : List Sp} {x : Sp} (hn : n = xs.length + 1) (h : w.ownsRow base 156 8 (.slice (some ⟨g, 0, none⟩) (xs.length + 1) c) (xs.length + 1) (sps xs ++ x.vs)) : OwnS w base (.slice (some ⟨g, 0, none⟩) n c) (xs ++ [x]) := by
 subst hn
 unfold OwnS
 rw [List.length_append, sps, List.flatMap_append, show [x].flatMap Sp.vs = x.vs by simp]
 exact h
theorem tells_snoc (f : List Bk) (xs : List Sp) (p : Pg) (r : List Pg) : xs ++ tells f (p :: r) = (if told f p then xs ++ [tellP p] else xs) ++ tells f r := by
 unfold tells
 rw [List.filter_cons]
 split
 · simp
 · rfl
theorem old_lt {f : List Bk} : ∀ (r : List Bk) (i out : Nat), i + r.length = f.length → out < f.length → oldGo f i out r < f.length
 | [], _, _, _, h => h
 | b :: r, i, out, hi, h => by
   rw [List.length_cons] at hi
   unfold oldGo
   split
   · exact old_lt r _ _ (by omega) (by omega)
   · exact old_lt r _ _ (by omega) h
set_option maxHeartbeats 4000000 in
set_option maxRecDepth 100000 in
theorem spec_l12Room (f : List Bk) (A D : Option Addr) (c m d : Nat) (w : World) (hf : f.length = 4) (hp : ∀ b ∈ f, b.pages.length = 4) (hF : Fl w A f) :
 Calls Try.prog 109 #[.agg #[.slice A 4 c, .slice D m d]] w fun e w' => ∃ v, e = .returned (.tuple #[v, .int .i64 (room f).2.1, .bool (room f).2.2]) ∧ OwnS w' w.heap.size v (room f).1 ∧ Below w.heap.size w w' := by
 obtain ⟨ib, hib, hbz0, hbz1, hbz2⟩ := info_parts Try.info3_step
 have HL := Lib.hid hf
 have HP4 := Lib.hid hp
 have hl4 : f.length < 1000000000000 := by omega
 have h04 : 0 < f.length := by omega
 have HP := Lib.hid (show ∀ b ∈ f, b.pages.length < 1000000000000 from fun b hb => by rw [hp b hb]; omega)
 clear hf hp
 go_enter Try.func109, Try.ntmps109
 go_wp2_with fail
 refine (spec_l3Open' _ f A c _ HL.out.symm hl4 HP.out ((hF.alloc _).alloc _)).mono ?_
 rintro e w1 ⟨rfl, ho0, ho1, hb⟩
 have hB : Below w.heap.size w w1 := Below.trans (by (repeat (first | (with_reducible exact Below.refl _ _) | (with_reducible assumption) | (refine Below.setCell ?_ (by first | omega | exact hB.size | exact hb.size | (have h := hB.size; simp; omega) | (have h := hb.size; simp; omega) | (simp; omega) | simp) _) | (refine Below.alloc ?_ (by first | omega | exact hB.size | exact hb.size | (have h := hB.size; simp; omega) | (have h := hb.size; simp; omega) | (simp; omega) | simp) _) | (refine Below.drew ?_)))) (hb.mono (by simp; omega))
 have hz : w.heap.size + 1 < w1.heap.size := by have := hb.size; simp at this; omega
 obtain ⟨hc, hfz⟩ := bcell hb
 have hO1 : OwnS w1 (w.heap.size + 1) (.slice (some ⟨w.heap.size + 1, 0, none⟩) 0 0) [] := by
  have := (OwnS.nil (w.alloc (.cells #[.slice A 4 c, .slice D m d] 94)) (w.heap.size + 1) (by simp))
  simp only [World.size_alloc] at this
  exact this.below hb (by simp)
 have hb0 : w1.cell? ⟨w.heap.size, 0, none⟩ = some (.slice A 4 c) := (hc _ _ (by simp <;> omega)).trans (by simp)
 clear hb hc hfz
 by_cases h1 : (openB f).2 = true
 · have h3 : Hid (room f = ([], (openB f).1, true)) := by unfold Hid room; rw [if_pos h1]
   rw [h1]
   go_wp2
   go_ret3
   rw [h3.out]
   exact ⟨_, rfl, hO1.mono (by omega), by (repeat (first | (with_reducible exact Below.refl _ _) | (with_reducible assumption) | (refine Below.setCell ?_ (by first | omega | exact hB.size | exact hb.size | (have h := hB.size; simp; omega) | (have h := hb.size; simp; omega) | (simp; omega) | simp) _) | (refine Below.alloc ?_ (by first | omega | exact hB.size | exact hb.size | (have h := hB.size; simp; omega) | (have h := hb.size; simp; omega) | (simp; omega) | simp) _) | (refine Below.drew ?_)))⟩
 · have h3 : Hid (room f = (tells f (f.getD (old f) zbk).pages ++ [⟨2, 0, 0, old f, rc0⟩], (old f : Int), decide ((f.getD (old f) zbk).worn < 200))) := by unfold Hid room; rw [if_neg h1]
   rw [show (openB f).2 = false by simpa using h1]
   clear ho0 ho1
   go_wp2_with fail
   refine (spec_l3Old' _ f A c _ HL.out.symm hl4 h04 HP.out (hF.below hB (Nat.le_refl _))).mono ?_
   rintro e w2 ⟨rfl, hol, hb2⟩
   have hO2 := hO1.below hb2 (Nat.le_refl _)
   have hb0' := (hb2.cell (p := ⟨w.heap.size, 0, none⟩) (by simp; omega)).trans hb0
   have hz2 := hb2.size
   have hB2 := hB.trans (hb2.mono hB.size)
   clear hO1 hb0 hB hb2
   generalize old f = i at *
   obtain ⟨B, hBf⟩ := get_some hol
   rw [HL.out] at hol
   have hgd : f.getD i zbk = B := by rw [List.getD_eq_getElem?_getD, hBf]; rfl
   rw [hgd] at h3
   have hB4 := HP4.out B (List.mem_of_getElem? hBf)
   have HB := Lib.hid hBf
   have HB4 := Lib.hid hB4
   have hi4 : (i : Int) < 4 := by omega
   obtain ⟨g, o, rfl⟩ := (hF.below hB2 (Nat.le_refl _)).choose_spec.addr (by intro e; rw [e] at hBf; simp at hBf)
   have hT : Hid (tells f B.pages = [] ++ tells f (B.pages.drop 0)) := rfl
   clear hgd hBf hB4
   go_wp2
   go_loopw [5, 9] (fun u q wr => ∃ (k : Nat) (xs : List Sp) (v : Value), k ≤ 4 ∧ q = .int .i64 k ∧ v = u ∧ xs.length ≤ k ∧ OwnS wr (w.heap.size + 1) v xs ∧ Below w.heap.size w wr ∧ wr.cell? ⟨w.heap.size, 0, none⟩ = some (.slice (some ⟨g, o, none⟩) 4 c) ∧ w.heap.size + 1 < wr.heap.size ∧ Hid (tells f B.pages = xs ++ tells f (B.pages.drop k))) (fun _ q _ => 4 - (intOf q).toNat)
   case atStart => exact ⟨0, [], _, by omega, rfl, rfl, by simp, hO2, hB2, hb0', by omega, hT⟩
   case round =>
    clear hT hO2 hb0' hz2 hB2 hz
    obtain ⟨k, xs, v, hk, rfl, rfl, hxk, hO, hb, hbx, hz, hT⟩ := hrel
    obtain ⟨hs, hBk⟩ := hF.below hb (Nat.le_refl _)
    obtain ⟨⟨Ap, cp⟩, _, z0, z1, _, _, hR, _⟩ := hBk.at_ HB.out
    dsimp only at z0 hR
    rw [HB4.out] at z0
    by_cases hlt : k < 4
    · obtain ⟨p, hq⟩ := get_some (l := B.pages) (k := k) (by have := HB4.out; omega)
      obtain ⟨pb, po, rfl⟩ := hR.addr (pgs_ne (by intro e; rw [e] at hq; simp at hq))
      obtain ⟨c0, c1, c2, c3, c4⟩ := hR.pg hq
      have hT1 : Hid (tells f B.pages = (if told f p then xs ++ [tellP p] else xs) ++ tells f (B.pages.drop (k + 1))) := by rw [Hid, hT.out, drop_cons hq, tells_snoc]
      have hk4 : (k : Int) < 4 := by omega
      have hzz : w.heap.size < wr.heap.size := by omega
      clear hq hT hBk hR
      go_wp2_with fail
      refine (spec_l3Live' _ f p _ c _ HL.out.symm hl4 HP.out ((hF.below hb (Nat.le_refl _)).alloc _)).mono ?_
      rintro e w3 ⟨rfl, hb3⟩
      have hO3 := (hO.below ((Below.refl wr.heap.size _).alloc (Nat.le_refl _) (.cells #[.int .i64 p.state, .int .i64 p.rc.kind, .int .i64 p.rc.seq, .int .i64 p.rc.addr, .int .i64 p.rc.val] 42)) (Nat.le_refl _)).below hb3 (Nat.le_refl _)
      have hbx3 := (hb3.cell (p := ⟨w.heap.size, 0, none⟩) (by show w.heap.size < _; simp; omega)).trans ((((Below.refl wr.heap.size wr).alloc (Nat.le_refl _) (.cells #[.int .i64 p.state, .int .i64 p.rc.kind, .int .i64 p.rc.seq, .int .i64 p.rc.addr, .int .i64 p.rc.val] 42)).cell (p := ⟨w.heap.size, 0, none⟩) (by show w.heap.size < wr.heap.size; omega)).trans hbx)
      have hB3 : Below w.heap.size w w3 := Below.trans (by (repeat (first | (with_reducible exact Below.refl _ _) | (with_reducible assumption) | (refine Below.setCell ?_ (by first | omega | exact hB.size | exact hb.size | (have h := hB.size; simp; omega) | (have h := hb.size; simp; omega) | (simp; omega) | simp) _) | (refine Below.alloc ?_ (by first | omega | exact hB.size | exact hb.size | (have h := hB.size; simp; omega) | (have h := hb.size; simp; omega) | (simp; omega) | simp) _) | (refine Below.drew ?_)))) (hb3.mono (by simp; omega))
      have hs3 : wr.heap.size + 1 ≤ w3.heap.size := by have := hb3.size; simpa using this
      obtain ⟨hc3, _⟩ := bcell hb3
      have p1 : w3.cell? ⟨wr.heap.size, 1, none⟩ = some (.int .i64 p.rc.kind) := (hc3 _ _ (by simp)).trans (by simp)
      have p3 : w3.cell? ⟨wr.heap.size, 3, none⟩ = some (.int .i64 p.rc.addr) := (hc3 _ _ (by simp)).trans (by simp)
      have p4 : w3.cell? ⟨wr.heap.size, 4, none⟩ = some (.int .i64 p.rc.val) := (hc3 _ _ (by simp)).trans (by simp)
      have htd : Hid (told f p = (live f p && decide (p.rc.kind = 1))) := rfl
      clear hb3 hc3 hO hbx hb c0 c1 c2 c3 c4 z0 z1
      generalize live f p = lv at *
      by_cases hd : lv = true ∧ p.rc.kind = 1
      · obtain ⟨rfl, hk1⟩ := hd
        have hT2 : Hid (tells f B.pages = (xs ++ [tellP p]) ++ tells f (B.pages.drop (k + 1))) := by rw [Hid, hT1.out, if_pos (by rw [htd.out]; simp [hk1])]
        rw [hk1] at p1
        clear hT1 htd
        have hO4 := hO3.below ((Below.refl w3.heap.size _).alloc (Nat.le_refl _) (.cells #[.int .i64 1, .int .i64 p.rc.addr, .int .i64 p.rc.val, .int .i64 0, .int .i64 0, .int .i64 0, .int .i64 0, .int .i64 0] 156)) (Nat.le_refl _)
        have hnb : v.ownBlock = none ∨ ∃ b, v.ownBlock = some b ∧ w.heap.size + 1 ≤ b ∧ b < w3.heap.size := by
         rcases h : v.ownBlock with _ | b
         · exact .inl rfl
         · have := World.ownsRow.lt hO3 b h; exact .inr ⟨b, rfl, this.1, this.2⟩
        go_wp2_with (at_builtin; refine wpList_append_lies _ rfl (.tmp 47) (.tmp 55) _ rfl (w.heap.size + 1) 156 ib _ 8 64 Try.underlying151 hib hbz0 hbz1 hbz2 rfl (by omega) v xs.length (sps xs) rfl hO4 ⟨w3.heap.size, 0, none⟩ 1 1 (tellP p).vs rfl rfl (World.news_of_block (cs := #[.int .i64 1, .int .i64 p.rc.addr, .int .i64 p.rc.val, .int .i64 0, .int .i64 0, .int .i64 0, .int .i64 0, .int .i64 0]) (t := 156) (fr := (0, 0)) (heap_alloc_new w3 _)) (by simp [Value.oneCell', tellP, Sp.vs, rc0]) (by omega) (by unfold maxLen; omega) (by omega) (by simp; omega) (w3.heap.size + 1) (by simp) ?_; intro g2 c2 w4 hown2 hgrow2 hat2 hlt2)
        have hgb : ∀ q, v.ownBlock = some q → w.heap.size + 1 ≤ q := fun q e => by
         rcases hnb with h | ⟨b, h, h1, _⟩
         · rw [h] at e; cases e
         · rw [h] at e; cases e; exact h1
        have hbb : Below (w.heap.size + 1) w3 w4 := ((Below.refl _ _).alloc (by omega) _).grown hgrow2 (by simp; omega) hgb
        have hB4 : Below w.heap.size w w4 := hB3.trans (hbb.mono (by omega))
        have hbx4 := (hbb.cell (p := ⟨w.heap.size, 0, none⟩) (by show w.heap.size < _; omega)).trans hbx3
        have hs4 := hbb.size
        have hOS := OwnS.snoc (x := tellP p) rfl hown2
        go_roundw
        case rel => exact ⟨k + 1, xs ++ [tellP p], _, by omega, by go_num, rfl, by simp; omega, hOS, hB4, hbx4, by omega, hT2⟩
        case measure => simp [intOf]; omega
      · have hT2 : Hid (tells f B.pages = xs ++ tells f (B.pages.drop (k + 1))) := by
         rw [Hid, hT1.out, if_neg (by
          rw [htd.out]
          intro h
          simp at h
          exact hd h)]
        clear hT1 htd
        rcases Bool.eq_false_or_eq_true lv with rfl | rfl
        · have hk1 : ¬ p.rc.kind = 1 := fun h => hd ⟨rfl, h⟩
          go_wp2
          go_roundw
          case rel => exact ⟨k + 1, xs, v, by omega, by go_num, rfl, by omega, hO3, hB3, hbx3, by omega, hT2⟩
          case measure => simp [intOf]; omega
        · go_wp2
          go_roundw
          case rel => exact ⟨k + 1, xs, v, by omega, by go_num, rfl, by omega, hO3, hB3, hbx3, by omega, hT2⟩
          case measure => simp [intOf]; omega
    · obtain rfl : k = 4 := by omega
      have hT2 : Hid (tells f B.pages = xs) := by
       rw [Hid, hT.out, List.drop_of_length_le (by rw [HB4.out]; exact Nat.le_refl _)]
       simp [tells]
      rw [hT2.out] at h3
      have hzz : w.heap.size < wr.heap.size := by omega
      have hnb : ∀ q, v.ownBlock = some q → w.heap.size + 1 ≤ q := fun q e => (World.ownsRow.lt hO q e).1
      have hgl := lt_of_cell z1
      have hs1 := hb.size
      have hgw : g < w.heap.size := by
       obtain ⟨hs', hBk'⟩ := hF
       obtain ⟨_, _, _, z1', _⟩ := hBk'.at_ HB.out
       exact lt_of_cell z1'
      clear hT hBk hR z0
      go_wp2
      go_region_held3 (fun w' => w'.cell? ⟨w.heap.size, 0, none⟩ = some (.slice (some ⟨g, o, none⟩) 4 c) ∧ w'.cell? ⟨g, o + i * 2 + 1, none⟩ = some (.int .i64 B.worn)) (first | go_keep | trivial)
       (first
        | (refine step_append_lies _ (by rfl) (.tmp 57) (.tmp 60) _ (by rfl) (w.heap.size + 1) 156 ib _ 8 64 Try.underlying151 hib hbz0 hbz1 hbz2 rfl (by omega) v xs.length (sps xs) (by rfl) (World.ownsRow.drew (World.ownsRow.alloc hO (.cells #[.int .i64 2, .int .i64 0, .int .i64 0, .int .i64 i, .int .i64 0, .int .i64 0, .int .i64 0, .int .i64 0] 156))) ⟨wr.heap.size, 0, none⟩ 1 1 (⟨2, 0, 0, i, rc0⟩ : Sp).vs (by rfl) (by rfl) (World.news_of_block (cs := #[.int .i64 2, .int .i64 0, .int .i64 0, .int .i64 i, .int .i64 0, .int .i64 0, .int .i64 0, .int .i64 0]) (t := 156) (fr := (0, 0)) (heap_alloc_new wr _)) (by simp [Value.oneCell', Sp.vs, rc0]) (by omega) (by unfold maxLen; omega) (by omega) (by simp; omega) (wr.heap.size + 1) (by simp) ?_; intro g2 c2 w4 hown2 hgrow2 hat2 hlt2; have hbb : Below (w.heap.size + 1) wr w4 := (((Below.refl _ _).alloc (by omega) _).drew).grown hgrow2 (by simp; omega) hnb; have y0 := (hbb.cell (p := ⟨w.heap.size, 0, none⟩) (by show w.heap.size < _; omega)).trans hbx; have y1 : w4.cell? ⟨g, o + i * 2 + 1, none⟩ = some (.int .i64 B.worn) := (hbb.cell (p := ⟨g, o + i * 2 + 1, none⟩) (by show g < _; omega)).trans z1))
      have hOS := OwnS.snoc (x := ⟨2, 0, 0, i, rc0⟩) rfl hown2
      go_wp2
      go_ret3
      rw [h3.out]
      exact ⟨_, rfl, hOS.mono (by omega), hb.trans (hbb.mono (by omega))⟩
theorem tells_len (f : List Bk) (ps : List Pg) : (tells f ps).length ≤ ps.length := by
 unfold tells; rw [List.length_map]; exact List.length_filter_le _ _
theorem room_len {f : List Bk} (hf : f.length = 4) (hp : ∀ b ∈ f, b.pages.length = 4) : (room f).1.length ≤ 5 := by
 unfold room
 split
 · simp
 · have h1 := tells_len f (f.getD (old f) zbk).pages
   have hlt : old f < f.length := old_lt _ _ _ (by simp; omega) (by omega)
   have h2 : (f.getD (old f) zbk).pages.length = 4 := by
    rw [List.getD_eq_getElem?_getD, List.getElem?_eq_getElem hlt]
    exact hp _ (List.getElem_mem hlt)
   rw [List.length_append]; simp only [List.length_cons, List.length_nil]; omega
end Go.Proofs.Ytclnogfmmekooaa
namespace Go.Proofs.Ytclnogfmmekooaa
set_option linter.unusedVariables false
set_option linter.unusedSimpArgs false
open Go.RowKit Go.Maps
set_option maxHeartbeats 400000
set_option maxHeartbeats 4000000 in
set_option maxRecDepth 100000 in
theorem spec_l12Write (f : List Bk) (kind addr val : Int) (A D : Option Addr) (c m d : Nat) (w : World) (hf : f.length = 4) (hp : ∀ b ∈ f, b.pages.length = 4) (hm : ∀ b ∈ f, most b < 1000000000000) (hF : Fl w A f) :
 Calls Try.prog 102 #[.agg #[.slice A 4 c, .slice D m d], .int .i64 kind, .int .i64 addr, .int .i64 val] w fun e w' => ∃ v, e = .returned v ∧ OwnS w' w.heap.size v (wr f kind addr val) ∧ Below w.heap.size w w' := by
 obtain ⟨ib, hib, hbz0, hbz1, hbz2⟩ := info_parts Try.info3_step
 have HL := Lib.hid hf
 have HP4 := Lib.hid hp
 have HM := Lib.hid hm
 have hl4 : f.length < 1000000000000 := by omega
 have HP := Lib.hid (show ∀ b ∈ f, b.pages.length < 1000000000000 from fun b hb => by rw [hp b hb]; omega)
 have hfin : Hid (wr f kind addr val = if (room f).2.2 = false ∨ recOk ⟨kind, next f, addr, val⟩ = false then [] else (room f).1 ++ [⟨3, 0, 0, (room f).2.1, ⟨kind, next f, addr, val⟩⟩]) := rfl
 have hrl : (room f).1.length ≤ 5 := room_len hf hp
 clear hf hp hm
 go_enter Try.func102, Try.ntmps102
 go_wp2_with fail
 refine (spec_l3Next' _ f A c _ HL.out.symm hl4 HP.out HM.out (hF.alloc _)).mono ?_
 rintro e w1 ⟨rfl, hb⟩
 have hB : Below w.heap.size w w1 := Below.trans (by (repeat (first | (with_reducible exact Below.refl _ _) | (with_reducible assumption) | (refine Below.setCell ?_ (by first | omega | exact hB.size | exact hb.size | (have h := hB.size; simp; omega) | (have h := hb.size; simp; omega) | (simp; omega) | simp) _) | (refine Below.alloc ?_ (by first | omega | exact hB.size | exact hb.size | (have h := hB.size; simp; omega) | (have h := hb.size; simp; omega) | (simp; omega) | simp) _) | (refine Below.drew ?_)))) (hb.mono (by simp))
 have hz : w.heap.size < w1.heap.size := by have := hb.size; simp at this; omega
 obtain ⟨hc, hfz⟩ := bcell hb
 have x0 : w1.cell? ⟨w.heap.size, 0, none⟩ = some (.slice A 4 c) := (hc _ _ (by simp)).trans (by simp)
 have x1 : w1.cell? ⟨w.heap.size, 1, none⟩ = some (.slice D m d) := (hc _ _ (by simp)).trans (by simp)
 clear hb hc hfz
 generalize next f = nx at *
 go_wp2_with fail
 refine (spec_l12Room f A D c m d _ HL.out HP4.out ((hF.below hB (Nat.le_refl _)).alloc _)).mono ?_
 rintro e w2 ⟨v, rfl, hO, hb2⟩
 obtain ⟨hc, hfz⟩ := bcell hb2
 have r0 : w2.cell? ⟨w1.heap.size, 0, none⟩ = some (.int .i64 kind) := (hc _ _ (by simp)).trans (by simp)
 have r1 : w2.cell? ⟨w1.heap.size, 1, none⟩ = some (.int .i64 nx) := (hc _ _ (by simp)).trans (by simp)
 have r2 : w2.cell? ⟨w1.heap.size, 2, none⟩ = some (.int .i64 addr) := (hc _ _ (by simp)).trans (by simp)
 have r3 : w2.cell? ⟨w1.heap.size, 3, none⟩ = some (.int .i64 val) := (hc _ _ (by simp)).trans (by simp)
 have hB2 : Below w.heap.size w w2 := (hB.alloc hB.size _).trans (hb2.mono (by simp; omega))
 have hz2 : w1.heap.size + 1 ≤ w2.heap.size := by have := hb2.size; simpa using this
 replace hO := hO.mono (base' := w1.heap.size) (by simp)
 clear hb2 hc hfz x0 x1 hB
 generalize room f = rm at *
 obtain ⟨xs, bi, ok⟩ := rm
 dsimp only at *
 cases ok
 · have h3 : Hid (wr f kind addr val = []) := by rw [Hid, hfin.out, if_pos (.inl rfl)]
   go_wp2
   go_ret
   rw [h3.out]
   exact ⟨_, rfl, OwnS.nil _ _ (by omega), by (repeat (first | (with_reducible exact Below.refl _ _) | (with_reducible assumption) | (refine Below.setCell ?_ (by first | omega | exact hB.size | exact hb.size | (have h := hB.size; simp; omega) | (have h := hb.size; simp; omega) | (simp; omega) | simp) _) | (refine Below.alloc ?_ (by first | omega | exact hB.size | exact hb.size | (have h := hB.size; simp; omega) | (have h := hb.size; simp; omega) | (simp; omega) | simp) _) | (refine Below.drew ?_)))⟩
 · go_wp2_with fail
   refine (spec_RecOk ⟨kind, nx, addr, val⟩ _).mono ?_
   rintro e w3 ⟨rfl, hb3⟩
   obtain ⟨hc, hfz⟩ := bcell hb3
   replace r0 := (hc _ _ (lt_of_cell r0)).trans r0
   replace r1 := (hc _ _ (lt_of_cell r1)).trans r1
   replace r2 := (hc _ _ (lt_of_cell r2)).trans r2
   replace r3 := (hc _ _ (lt_of_cell r3)).trans r3
   have hB3 := hB2.trans (hb3.mono hB2.size)
   have hz3 := hb3.size
   have hO3 := hO.below hb3 (Nat.le_refl _)
   clear hO hc hfz hb3
   by_cases hok : recOk ⟨kind, nx, addr, val⟩ = true
   · have h3 : Hid (wr f kind addr val = xs ++ [⟨3, 0, 0, bi, ⟨kind, nx, addr, val⟩⟩]) := by
      rw [Hid, hfin.out, if_neg (by intro h; rcases h with h | h; cases h; rw [hok] at h; cases h)]
     rw [hok]
     have hO4 := hO3.below ((Below.refl w3.heap.size _).alloc (Nat.le_refl _) (.cells #[.int .i64 3, .int .i64 0, .int .i64 0, .int .i64 bi, .int .i64 kind, .int .i64 nx, .int .i64 addr, .int .i64 val] 156)) (Nat.le_refl _)
     have hnb : ∀ q, v.ownBlock = some q → w1.heap.size ≤ q := fun q e => (World.ownsRow.lt hO3 q e).1
     clear hfin
     go_wp2_with (at_builtin; refine wpList_append_lies _ rfl (.tmp 34) (.tmp 38) _ rfl w1.heap.size 156 ib _ 8 64 Try.underlying151 hib hbz0 hbz1 hbz2 rfl (by omega) v xs.length (sps xs) rfl hO4 ⟨w3.heap.size, 0, none⟩ 1 1 (⟨3, 0, 0, bi, ⟨kind, nx, addr, val⟩⟩ : Sp).vs rfl rfl (World.news_of_block (cs := #[.int .i64 3, .int .i64 0, .int .i64 0, .int .i64 bi, .int .i64 kind, .int .i64 nx, .int .i64 addr, .int .i64 val]) (t := 156) (fr := (0, 0)) (heap_alloc_new w3 _)) (by simp [Value.oneCell', Sp.vs]) (by omega) (by unfold maxLen; omega) (by omega) (by simp; omega) (w3.heap.size + 1) (by simp) ?_; intro g2 c2 w4 hown2 hgrow2 hat2 hlt2)
     have hbb : Below w1.heap.size w3 w4 := ((Below.refl _ _).alloc (by omega) _).grown hgrow2 (by simp; omega) hnb
     have hOS := OwnS.snoc (x := ⟨3, 0, 0, bi, ⟨kind, nx, addr, val⟩⟩) rfl hown2
     go_ret
     rw [h3.out]
     exact ⟨_, rfl, hOS.mono (by omega), hB3.trans (hbb.mono (by omega))⟩
   · have hok' : recOk ⟨kind, nx, addr, val⟩ = false := by simpa using hok
     have h3 : Hid (wr f kind addr val = []) := by rw [Hid, hfin.out, if_pos (.inr hok')]
     rw [hok']
     go_wp2
     go_ret
     rw [h3.out]
     exact ⟨_, rfl, OwnS.nil _ _ (by omega), by (repeat (first | (with_reducible exact Below.refl _ _) | (with_reducible assumption) | (refine Below.setCell ?_ (by first | omega | exact hB.size | exact hb.size | (have h := hB.size; simp; omega) | (have h := hb.size; simp; omega) | (simp; omega) | simp) _) | (refine Below.alloc ?_ (by first | omega | exact hB.size | exact hb.size | (have h := hB.size; simp; omega) | (have h := hb.size; simp; omega) | (simp; omega) | simp) _) | (refine Below.drew ?_)))⟩
end Go.Proofs.Ytclnogfmmekooaa
namespace Go.Proofs.Ytclnogfmmekooaa
set_option linter.unusedVariables false
set_option linter.unusedSimpArgs false
open Go.RowKit Go.Maps
set_option maxHeartbeats 400000
theorem Fl.drew' {w : World} {A : Option Addr} {f : List Bk} (h : Fl w A f) : Fl w.drew A f := by obtain ⟨hs, h⟩ := h; exact ⟨hs, h.drew⟩
theorem sps_one (xs : List Sp) : ∀ v ∈ sps xs, v.oneCell' = true := by
 intro v hv
 unfold sps at hv
 obtain ⟨x, _, hx⟩ := List.mem_flatMap.1 hv
 unfold Sp.vs at hx
 simp at hx
 rcases hx with h | h | h | h | h | h | h | h <;> (subst h; rfl)
theorem OwnS.onto {w : World} {base g n c : Nat} {xs ys : List Sp} (hn : n = xs.length + ys.length) (h : w.ownsRow base 156 8 (.slice (some ⟨g, 0, none⟩) n c) n (sps xs ++ sps ys)) : OwnS w base (.slice (some ⟨g, 0, none⟩) n c) (xs ++ ys) := by
 subst hn
 unfold OwnS
 rw [List.length_append, sps, List.flatMap_append]
 exact h
theorem wr_len {f : List Bk} (hf : f.length = 4) (hp : ∀ b ∈ f, b.pages.length = 4) (k a v : Int) : (wr f k a v).length ≤ 6 := by
 have := room_len hf hp
 unfold wr
 split
 · simp
 · rw [List.length_append]; simp only [List.length_cons, List.length_nil]; omega
set_option maxHeartbeats 4000000 in
set_option maxRecDepth 100000 in
theorem spec_l12Flush (s : St) (a : Int) (A D : Option Addr) (c d : Nat) (w : World) (hf : s.flash.length = 4) (hp : ∀ b ∈ s.flash, b.pages.length = 4) (hm : ∀ b ∈ s.flash, most b < 1000000000000) (hd : s.disk.length = 6) (hF : Fl w A s.flash) (hD : Row w D (ints s.disk)) :
 Calls Try.prog 100 #[.agg #[.slice A 4 c, .slice D 6 d], .int .i64 a] w fun e w' => ∃ v, e = .returned v ∧ OwnS w' w.heap.size v (flush s a) ∧ Below w.heap.size w w' := by
 obtain ⟨ib, hib, hbz0, hbz1, hbz2⟩ := info_parts Try.info3_step
 have HL := Lib.hid hf
 have HP4 := Lib.hid hp
 have HM := Lib.hid hm
 have HD := Lib.hid hd
 have hl4 : s.flash.length < 1000000000000 := by omega
 have HP := Lib.hid (show ∀ b ∈ s.flash, b.pages.length < 1000000000000 from fun b hb => by rw [hp b hb]; omega)
 have hwl := wr_len hf hp 2 a (readV s a)
 have hfin : Hid (flush s a = if addrB a = false ∨ dirty s.flash a = false then [] else if wr s.flash 2 a (readV s a) = [] then [] else ⟨1, a, readV s a, 0, rc0⟩ :: wr s.flash 2 a (readV s a)) := rfl
 have hin : Hid ((decide (1 ≤ a) && decide (a ≤ 6)) = addrB a) := rfl
 clear hf hp hm hd
 go_enter Try.func100, Try.ntmps100
 go_wp2_with fail
 refine (spec_l6In _ _ _ _).mono ?_
 rintro e w1 ⟨rfl, rfl⟩
 rw [hin.out]
 by_cases ha : addrB a = true
 · have ha1 : 1 ≤ a ∧ a ≤ 6 := by unfold addrB at ha; simpa using ha
   rw [ha]
   obtain ⟨ha1, ha2⟩ := ha1
   go_wp2_with fail
   refine (spec_l11Dirty' _ s.flash a A D c 6 d _ HL.out.symm hl4 HP.out (hF.alloc _)).mono ?_
   rintro e w1 ⟨rfl, hb⟩
   have hB : Below w.heap.size w w1 := Below.trans (by (repeat (first | (with_reducible exact Below.refl _ _) | (with_reducible assumption) | (refine Below.setCell ?_ (by first | omega | exact hB.size | exact hb.size | (have h := hB.size; simp; omega) | (have h := hb.size; simp; omega) | (simp; omega) | simp) _) | (refine Below.alloc ?_ (by first | omega | exact hB.size | exact hb.size | (have h := hB.size; simp; omega) | (have h := hb.size; simp; omega) | (simp; omega) | simp) _) | (refine Below.drew ?_)))) (hb.mono (by simp))
   have hz : w.heap.size < w1.heap.size := by have := hb.size; simp at this; omega
   obtain ⟨hc, hfz⟩ := bcell hb
   have x0 : w1.cell? ⟨w.heap.size, 0, none⟩ = some (.slice A 4 c) := (hc _ _ (by simp)).trans (by simp)
   have x1 : w1.cell? ⟨w.heap.size, 1, none⟩ = some (.slice D 6 d) := (hc _ _ (by simp)).trans (by simp)
   clear hb hc hfz
   by_cases hdy : dirty s.flash a = true
   · rw [hdy]
     go_wp2_with fail
     refine (spec_l11Read' _ s a A D c d _ HL.out.symm hl4 HP.out HD.out ha1 ha2 (hF.below hB (Nat.le_refl _)) (hD.below hB (Nat.le_refl _))).mono ?_
     rintro e w2 ⟨rfl, hb⟩
     have hB2 := hB.trans (hb.mono hB.size)
     have hz2 := hb.size
     replace x0 := (hb.cell (p := ⟨w.heap.size, 0, none⟩) hz).trans x0
     replace x1 := (hb.cell (p := ⟨w.heap.size, 1, none⟩) hz).trans x1
     clear hB hb
     generalize readV s a = val at *
     go_wp2_with fail
     refine (spec_l12Write s.flash 2 a val A D c 6 d _ HL.out HP4.out HM.out (hF.below hB2 (Nat.le_refl _))).mono ?_
     rintro e w3 ⟨v, rfl, hO, hb⟩
     have hB3 := hB2.trans (hb.mono hB2.size)
     have hz3 := hb.size
     have h3 : Hid (flush s a = if wr s.flash 2 a val = [] then [] else ⟨1, a, val, 0, rc0⟩ :: wr s.flash 2 a val) := by
      rw [Hid, hfin.out, if_neg (by rw [ha, hdy]; simp)]
     generalize wr s.flash 2 a val = xs at *
     obtain ⟨A2, c2, rfl, hcap, hRow, hblk⟩ := hO.shape
     clear hfin hb hB2 x0 x1
     by_cases hx : xs = []
     · subst hx
       have h4 : Hid (flush s a = []) := by rw [Hid, h3.out, if_pos rfl]
       go_wp2
       go_ret
       rw [h4.out]
       exact ⟨_, rfl, hO.mono (by omega), hB3⟩
     · have h4 : Hid (flush s a = [⟨1, a, val, 0, rc0⟩] ++ xs) := by rw [Hid, h3.out, if_neg hx]; rfl
       have hlen : 0 < xs.length := List.length_pos_iff.2 hx
       have hle : ((xs.length : Int) == 0) = false := by rw [beq_eq_false_iff_ne]; omega
       obtain ⟨g2, o2, rfl⟩ := hRow.addr (by intro e; have := sps_len xs; rw [e] at this; simp at this; omega)
       have hlit : OwnS (w3.alloc (.cells #[.int .i64 1, .int .i64 a, .int .i64 val, .int .i64 0, .int .i64 0, .int .i64 0, .int .i64 0, .int .i64 0] 156)) w.heap.size (.slice (some ⟨w3.heap.size, 0, none⟩) 1 1) [⟨1, a, val, 0, rc0⟩] := World.ownsRow_lit w3 #[.int .i64 1, .int .i64 a, .int .i64 val, .int .i64 0, .int .i64 0, .int .i64 0, .int .i64 0, .int .i64 0] 1 (by omega) (by unfold maxLen; omega) rfl
       clear h3
       go_wp2_with (at_builtin; refine wpList_append_lies _ rfl (.tmp 31) (.tmp 32) _ rfl w.heap.size 156 ib _ 8 64 Try.underlying151 hib hbz0 hbz1 hbz2 rfl (by omega) (.slice (some ⟨w3.heap.size, 0, none⟩) 1 1) 1 (sps [⟨1, a, val, 0, rc0⟩]) rfl hlit ⟨g2, o2, none⟩ xs.length c2 (sps xs) rfl (sps_len xs) ((hRow.alloc _).news) (sps_one xs) hlen (by unfold maxLen; omega) (by omega) (by simp; omega) (w3.heap.size + 1) (by simp) ?_; intro g3 c3 w4 hown2 hgrow2 hat2 hlt2)
       have hbb : Below w3.heap.size w3 w4 := ((Below.refl _ _).alloc (by omega) _).grown hgrow2 (by simp) (by intro q e; cases e; exact Nat.le_refl _)
       have hOS := OwnS.onto (xs := [⟨1, a, val, 0, rc0⟩]) rfl hown2
       go_ret
       rw [h4.out]
       exact ⟨_, rfl, hOS, hB3.trans (hbb.mono (by omega))⟩
   · have hdy' : dirty s.flash a = false := by simpa using hdy
     have h3 : Hid (flush s a = []) := by rw [Hid, hfin.out, if_pos (.inr hdy')]
     rw [hdy']
     go_wp2
     go_ret
     rw [h3.out]
     exact ⟨_, rfl, OwnS.nil _ _ (by omega), by (repeat (first | (with_reducible exact Below.refl _ _) | (with_reducible assumption) | (refine Below.setCell ?_ (by first | omega | exact hB.size | exact hb.size | (have h := hB.size; simp; omega) | (have h := hb.size; simp; omega) | (simp; omega) | simp) _) | (refine Below.alloc ?_ (by first | omega | exact hB.size | exact hb.size | (have h := hB.size; simp; omega) | (have h := hb.size; simp; omega) | (simp; omega) | simp) _) | (refine Below.drew ?_)))⟩
 · have ha' : addrB a = false := by simpa using ha
   have h3 : Hid (flush s a = []) := by rw [Hid, hfin.out, if_pos (.inl ha')]
   rw [ha']
   go_wp2
   go_ret
   rw [h3.out]
   refine ⟨_, rfl, ?_, by (repeat (first | (with_reducible exact Below.refl _ _) | (with_reducible assumption) | (refine Below.setCell ?_ (by first | omega | exact hB.size | exact hb.size | (have h := hB.size; simp; omega) | (have h := hb.size; simp; omega) | (simp; omega) | simp) _) | (refine Below.alloc ?_ (by first | omega | exact hB.size | exact hb.size | (have h := hB.size; simp; omega) | (have h := hb.size; simp; omega) | (simp; omega) | simp) _) | (refine Below.drew ?_)))⟩
   have := OwnS.nil (w.alloc (.cells #[.slice A 4 c, .slice D 6 d] 94)) w.heap.size (by simp)
   simp only [World.size_alloc] at this
   exact this
set_option maxHeartbeats 4000000 in
set_option maxRecDepth 100000 in
theorem spec_l12Fill (s : St) (a : Int) (A D : Option Addr) (c d : Nat) (w : World) (hf : s.flash.length = 4) (hp : ∀ b ∈ s.flash, b.pages.length = 4) (hm : ∀ b ∈ s.flash, most b < 1000000000000) (hd : s.disk.length = 6) (hF : Fl w A s.flash) (hD : Row w D (ints s.disk)) :
 Calls Try.prog 103 #[.agg #[.slice A 4 c, .slice D 6 d], .int .i64 a] w fun e w' => ∃ v, e = .returned v ∧ OwnS w' w.heap.size v (fill s a) ∧ Below w.heap.size w w' := by
 have HL := Lib.hid hf
 have HP4 := Lib.hid hp
 have HM := Lib.hid hm
 have hl4 : s.flash.length < 1000000000000 := by omega
 have HP := Lib.hid (show ∀ b ∈ s.flash, b.pages.length < 1000000000000 from fun b hb => by rw [hp b hb]; omega)
 have hin : Hid ((decide (1 ≤ a) && decide (a ≤ 6)) = addrB a) := rfl
 have hnil : OwnS ((w.alloc (.cells #[.slice A 4 c, .slice D 6 d] 94)).alloc (.cells #[] 156)) w.heap.size (.slice (some ⟨w.heap.size + 1, 0, none⟩) 0 0) [] := by
  have := OwnS.nil (w.alloc (.cells #[.slice A 4 c, .slice D 6 d] 94)) w.heap.size (by simp)
  simp only [World.size_alloc] at this
  exact this
 have hfin : Hid (fill s a = if addrB a = false ∨ 0 < (last s.flash a).seq then [] else wr s.flash 2 a (s.disk.getD (a - 1).toNat 0)) := rfl
 clear hf hp hm
 by_cases ha : addrB a = true
 · have ha1 : 1 ≤ a ∧ a ≤ 6 := by unfold addrB at ha; simpa using ha
   obtain ⟨ha1, ha2⟩ := ha1
   obtain ⟨i, rfl⟩ : ∃ i : Nat, a = i + 1 := ⟨(a - 1).toNat, by omega⟩
   have hi : i < 6 := by omega
   obtain ⟨v, hv⟩ := get_some (l := s.disk) (k := i) (by omega)
   have hgd : s.disk.getD ((i : Int) + 1 - 1).toNat 0 = v := by rw [show ((i : Int) + 1 - 1).toNat = i by omega, List.getD_eq_getElem?_getD, hv]; rfl
   rw [hgd] at hfin
   have hn1 : ints s.disk ≠ [] := by
    intro e
    have := congrArg List.length e
    rw [ints_len, hd] at this
    simp at this
   obtain ⟨db, dO, rfl⟩ := hD.addr hn1
   have hi6 : (i : Int) < 6 := by omega
   have HV := Lib.hid hv
   clear hv hgd hn1 hd hnil
   go_enter Try.func103, Try.ntmps103
   go_wp2_with fail
   refine (spec_l6In _ _ _ _).mono ?_
   rintro e w1 ⟨rfl, rfl⟩
   rw [hin.out, ha]
   go_wp2_with fail
   refine (spec_l3Last' _ s.flash (i + 1) A c _ HL.out.symm hl4 HP.out (hF.alloc _)).mono ?_
   rintro e w1 ⟨rfl, hb⟩
   have hB : Below w.heap.size w w1 := Below.trans (by (repeat (first | (with_reducible exact Below.refl _ _) | (with_reducible assumption) | (refine Below.setCell ?_ (by first | omega | exact hB.size | exact hb.size | (have h := hB.size; simp; omega) | (have h := hb.size; simp; omega) | (simp; omega) | simp) _) | (refine Below.alloc ?_ (by first | omega | exact hB.size | exact hb.size | (have h := hB.size; simp; omega) | (have h := hb.size; simp; omega) | (simp; omega) | simp) _) | (refine Below.drew ?_)))) (hb.mono (by simp))
   have hz : w.heap.size < w1.heap.size := by have := hb.size; simp at this; omega
   obtain ⟨hc, hfz⟩ := bcell hb
   have x0 : w1.cell? ⟨w.heap.size, 0, none⟩ = some (.slice A 4 c) := (hc _ _ (by simp)).trans (by simp)
   have x1 : w1.cell? ⟨w.heap.size, 1, none⟩ = some (.slice (some ⟨db, dO, none⟩) 6 d) := (hc _ _ (by simp)).trans (by simp)
   obtain ⟨hcv, _⟩ := (hD.below hB (Nat.le_refl _)).int_ HV.out
   have hdb := lt_of_cell hcv
   have hFz := hF.below hB (Nat.le_refl _)
   clear hb hc hfz
   generalize last s.flash (i + 1) = x at *
   by_cases h1 : 0 < x.seq
   · have h3 : Hid (fill s (i + 1) = []) := by rw [Hid, hfin.out, if_pos (.inr h1)]
     go_wp2
     go_ret
     rw [h3.out]
     refine ⟨_, rfl, ?_, by (repeat (first | (with_reducible exact Below.refl _ _) | (with_reducible assumption) | (refine Below.setCell ?_ (by first | omega | exact hB.size | exact hb.size | (have h := hB.size; simp; omega) | (have h := hb.size; simp; omega) | (simp; omega) | simp) _) | (refine Below.alloc ?_ (by first | omega | exact hB.size | exact hb.size | (have h := hB.size; simp; omega) | (have h := hb.size; simp; omega) | (simp; omega) | simp) _) | (refine Below.drew ?_)))⟩
     have := OwnS.nil (w1.alloc (.cells #[.int .i64 x.kind, .int .i64 x.seq, .int .i64 x.addr, .int .i64 x.val] 40)) w.heap.size (by simp; omega)
     simp only [World.size_alloc] at this
     exact this
   · have h3 : Hid (fill s (i + 1) = wr s.flash 2 (i + 1) v) := by
      rw [Hid, hfin.out, if_neg (by intro h; rcases h with h | h; rw [ha] at h; cases h; exact h1 h)]
     have e1 : IntKind.i64.wrap ((i : Int) + 1 - 1) = i := by rw [show (i : Int) + 1 - 1 = i by omega]; exact IntWalk.i64_in _ (by omega)
     have e2 : IntKind.i64.wrap (i : Int) = i := IntWalk.i64_in _ (by omega)
     have e3 : (i : Int) + 1 - 1 = i := by omega
     have e4 : (0 : Int) ≤ i := by omega
     clear hfin
     go_wp2
     go_region_with (first | (go_at_call 102; with_reducible refine (spec_l12Write s.flash 2 (i + 1) v A (some ⟨db, dO, none⟩) c 6 d _ HL.out HP4.out HM.out (Fl.drew' (hFz.alloc _))).mono ?_; rintro e w2 ⟨u, rfl, hO, hb2⟩))
     all_goals
      have hle : w.heap.size ≤ (w1.alloc (.cells #[.int .i64 x.kind, .int .i64 x.seq, .int .i64 x.addr, .int .i64 x.val] 40)).drew.heap.size := by show w.heap.size ≤ (w1.alloc _).heap.size; simp; omega
      have hB2 : Below w.heap.size w w2 := ((hB.alloc hB.size _).drew).trans (hb2.mono hle)
      clear hb2
      go_wp2
      go_ret
      rw [h3.out]
      exact ⟨_, rfl, hO.mono hle, hB2⟩
 · have ha' : addrB a = false := by simpa using ha
   have h3 : Hid (fill s a = []) := by rw [Hid, hfin.out, if_pos (.inl ha')]
   go_enter Try.func103, Try.ntmps103
   go_wp2_with fail
   refine (spec_l6In _ _ _ _).mono ?_
   rintro e w1 ⟨rfl, rfl⟩
   rw [hin.out, ha']
   go_wp2
   go_ret
   rw [h3.out]
   exact ⟨_, rfl, hnil, by (repeat (first | (with_reducible exact Below.refl _ _) | (with_reducible assumption) | (refine Below.setCell ?_ (by first | omega | exact hB.size | exact hb.size | (have h := hB.size; simp; omega) | (have h := hb.size; simp; omega) | (simp; omega) | simp) _) | (refine Below.alloc ?_ (by first | omega | exact hB.size | exact hb.size | (have h := hB.size; simp; omega) | (have h := hb.size; simp; omega) | (simp; omega) | simp) _) | (refine Below.drew ?_)))⟩
end Go.Proofs.Ytclnogfmmekooaa
