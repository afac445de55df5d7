/- What the laws' walks share: words, plain laws, and the walks of functions, part 6. -/
import Derived.Laws.EntriesVeiled
import Derived.Deep.RegionHeld3
import Derived.Below
import Derived.ChangeSame
import Derived.WalkKit
import Derived.ProofKit
import Derived.Carry
import Derived.Test.YtbekihiiildgmaaProg
import Derived.Deep.Slices
import Derived.ChangeArms
import Derived.Test.YtbekihiiildgmaaV5
open Go.RowKit Go.IntWalk Go.Maps
namespace Go.Proofs.Ytbekihiiildgmaa
set_option linter.unusedVariables false
set_option linter.unusedSimpArgs false
set_option maxHeartbeats 1000000
theorem live_found {f : List Bk} (hok : flashOk f = true) {b : Bk} (hb : b ∈ f) {p : Pg} (hp : p ∈ b.pages) (h1 : p.state = 1) : findLast f p.rc.addr = (last f p.rc.addr, true) := by
  have hr := rec_of_written ((bk_parts hok hb).2.2.2 p hp) h1
  have ha := recOk_addr hr
  have hm := last_max (f := f) (r := p.rc) ⟨b, hb, p, hp, h1, rfl⟩
  unfold findLast
  rw [if_pos ⟨addrB_iff.2 ⟨ha.1, ha.2.1⟩, hok⟩]
  congr 1
  simp; omega
theorem impl_FindLive (f : List Bk) (i j : Nat) (b : Bk) (p : Pg) (A : Option Addr) (n c : Nat) (w : World) (hn : n = f.length) (hok : flashOk f = true) (hb : f[i]? = some b) (hp : b.pages[j]? = some p) (hF : Fl w A f) :
    Calls Try.prog 130 #[.slice A n c, .int .i64 i, .int .i64 j] w fun e w' => e = .returned (.bool (live f p)) ∧ Below w.heap.size w w' := by
  subst hn
  have hl := flashOk_len hok
  have hl4 := (flashOk_shape hok b (List.mem_of_getElem? hb)).1
  have hi : i < 4 := by rw [← hl]; exact (List.getElem?_eq_some_iff.1 hb).1
  have hj : j < 4 := by rw [← hl4]; exact (List.getElem?_eq_some_iff.1 hp).1
  have hbo : blockB i = true := blockB_iff.2 (by omega)
  have hFc : ∀ w, Fl w A f → Hid (Calls Try.prog 93 #[.slice A f.length c] w fun e w' => e = .returned (.bool true) ∧ Below w.heap.size w w') := fun w h => by have := impl_FlashOk f A c w h; rw [hok] at this; exact this
  have hBc : ∀ w, Hid (Calls Try.prog 119 #[.int .i64 i] w fun e w' => e = .returned (.bool true) ∧ w = w') := fun w => by have := impl_blockOk i w; rw [hbo] at this; exact this
  have hFL : p.state = 1 → Hid (findLast f p.rc.addr = (last f p.rc.addr, true)) := fun h => live_found hok (List.mem_of_getElem? hb) (List.mem_of_getElem? hp) h
  have hil : (i : Int) < f.length := by omega
  have hj4 : (j : Int) < 4 := by omega
  have hjl : (j : Int) < b.pages.length := by omega
  have HL := Lib.hid hl
  clear hok hbo hl hl4
  go_enter Try.func130, Try.ntmps130
  go_wp2_with fail
  refine (hFc _ hF).out.mono ?_
  rintro e w1 ⟨rfl, hb1⟩
  have hF1 := hF.below hb1 (Nat.le_refl _)
  obtain ⟨hs, hBk⟩ := hF1
  obtain ⟨g, o, rfl⟩ := hBk.addr (by rintro rfl; simp at hb)
  obtain ⟨⟨Z, cz⟩, _, z0, z1, _, _, hR, _⟩ := hBk.at_ hb
  dsimp only at z0 hR
  obtain ⟨pb, po, rfl⟩ := hR.addr (pgs_ne (by intro e; rw [e] at hp; simp at hp))
  obtain ⟨c0, c1, c2, c3, c4⟩ := hR.pg hp
  have HB := Lib.hid hb
  have HP := Lib.hid hp
  clear hb hp
  by_cases h1 : p.state = 1
  · have hfl := hFL h1
    have hfin : Hid (live f p = decide (last f p.rc.addr = p.rc)) := by unfold Hid live; simp [h1]
    rw [h1] at c0
    clear h1 hFL
    go_wp2_with (go_at_call 119; refine (hBc _).out.mono ?_; rintro e w2 ⟨rfl, rfl⟩)
    have hFx : Fl (w1.alloc (.cells #[.int .i64 1, .int .i64 p.rc.kind, .int .i64 p.rc.seq, .int .i64 p.rc.addr, .int .i64 p.rc.val] 119)) (some ⟨g, o, none⟩) f := Fl.alloc ⟨hs, hBk⟩ _
    refine (impl_FindLast f p.rc.addr _ _ c _ rfl hFx).mono ?_
    rintro e w3 ⟨rfl, hb3⟩
    rw [hfl.out]
    have hB3 : Below w.heap.size w w3 := (hb1.alloc hb1.size _).trans (hb3.mono (by have := hb1.size; simp; omega))
    obtain ⟨hc, hfz⟩ := bcell hb3
    have hs3 : w1.heap.size + 1 ≤ w3.heap.size := by have := hb3.size; simpa using this
    have x1 : w3.cell? ⟨w1.heap.size, 1, none⟩ = some (.int .i64 p.rc.kind) := (hc _ _ (by simp)).trans (by simp)
    have x2 : w3.cell? ⟨w1.heap.size, 2, none⟩ = some (.int .i64 p.rc.seq) := (hc _ _ (by simp)).trans (by simp)
    have x3 : w3.cell? ⟨w1.heap.size, 3, none⟩ = some (.int .i64 p.rc.addr) := (hc _ _ (by simp)).trans (by simp)
    have x4 : w3.cell? ⟨w1.heap.size, 4, none⟩ = some (.int .i64 p.rc.val) := (hc _ _ (by simp)).trans (by simp)
    have hle : Hid (decide (last f p.rc.addr = p.rc) = (decide ((last f p.rc.addr).kind = p.rc.kind) && (decide ((last f p.rc.addr).seq = p.rc.seq) && (decide ((last f p.rc.addr).addr = p.rc.addr) && decide ((last f p.rc.addr).val = p.rc.val))))) := by
      unfold Hid
      generalize last f p.rc.addr = x
      obtain ⟨a, b, c, d⟩ := x
      obtain ⟨st, e, g, h, i⟩ := p
      simp [Bool.and_assoc]
    generalize last f p.rc.addr = x at *
    have hne : w1.heap.size < w3.heap.size := by omega
    unfold rcA
    clear hb3 hc hfz hBk hR z0 z1 c0 c1 c2 c3 c4 hFx hFc hBc
    go_wp2
    all_goals go_ret
    all_goals exact ⟨ret_bool (by rw [hfin.out, hle.out]; simp [*]), hB3.alloc hB3.size _⟩
  · have hfin : Hid (live f p = false) := by unfold Hid live; simp [h1]
    have h1' : (p.state == 1) = false := by simpa using h1
    clear hFL
    go_wp2_with (go_at_call 119; refine (hBc _).out.mono ?_; rintro e w2 ⟨rfl, rfl⟩)
    go_ret
    exact ⟨ret_bool hfin.out.symm, hb1.alloc hb1.size _⟩
theorem OwnS.nul (w : World) (base : Nat) : OwnS w base (.slice none 0 0) [] := World.ownsRow_nil w base _ _
theorem OwnS.one (w : World) (base : Nat) (hb : base ≤ w.heap.size) (x : Sp) : OwnS (w.alloc (.cells #[.int .i64 x.kind, .int .i64 x.addr, .int .i64 x.val, .int .i64 x.block, .int .i64 x.rc.kind, .int .i64 x.rc.seq, .int .i64 x.rc.addr, .int .i64 x.rc.val] 47)) base (.slice (some ⟨w.heap.size, 0, none⟩) 1 1) [x] := World.ownsRow_lit w #[.int .i64 x.kind, .int .i64 x.addr, .int .i64 x.val, .int .i64 x.block, .int .i64 x.rc.kind, .int .i64 x.rc.seq, .int .i64 x.rc.addr, .int .i64 x.rc.val] 1 hb (by unfold maxLen; omega) rfl
set_option maxRecDepth 20000 in
theorem impl_stepsWrite (f : List Bk) (kind addr val : Int) (A : Option Addr) (n c : Nat) (w : World) (hn : n = f.length) (hok : flashOk f = true) (hF : Fl w A f) :
    Calls Try.prog 79 #[.slice A n c, .int .i64 kind, .int .i64 addr, .int .i64 val] w fun e w' => ∃ v, e = .returned v ∧ OwnS w' w.heap.size v (wr f kind addr val) ∧ Below w.heap.size w w' := by
  subst hn
  obtain ⟨ib, hib, hbz0, hbz1, hbz2⟩ := info_parts Try.info3_step
  have HL := Lib.hid (flashOk_len hok)
  have HOK := Lib.hid hok
  have hFN : ∀ w, Fl w A f → Hid (Calls Try.prog 127 #[.slice A f.length c] w fun e w' => e = .returned (.int .i64 (next f)) ∧ Below w.heap.size w w') := fun w h => by have := impl_FindNext f A _ c w rfl h; rw [findNext_eq hok] at this; exact this
  have hFO : ∀ w, Fl w A f → Hid (Calls Try.prog 128 #[.slice A f.length c] w fun e w' => e = .returned (.tuple #[.int .i64 (openB f).1, .bool (openB f).2]) ∧ Below w.heap.size w w') := fun w h => by have := impl_FindOpen f A _ c w rfl h; unfold findOpen at this; rw [if_pos hok] at this; exact this
  have hFD : ∀ w, Fl w A f → Hid (Calls Try.prog 129 #[.slice A f.length c] w fun e w' => e = .returned (.int .i64 (old f : Nat)) ∧ Below w.heap.size w w') := fun w h => by have := impl_FindOld f A _ c w rfl h; rw [findOld_old hok] at this; exact this
  have hfin : Hid (wr f kind addr val = if (room f).2.2 = false ∨ recOk ⟨kind, next f, addr, val⟩ = false then [] else (room f).1 ++ [⟨3, 0, 0, (room f).2.1, ⟨kind, next f, addr, val⟩⟩]) := rfl
  have hroom : Hid (room f = if (openB f).2 then ([], (openB f).1, true) else (tells f (f.getD (old f) zbk).pages ++ [⟨2, 0, 0, old f, rc0⟩], (old f : Int), decide ((f.getD (old f) zbk).worn < 200))) := rfl
  have hol := old_lt4 (flashOk_len hok)
  have hwl : ∀ b ∈ f, b.worn ≤ 200 := fun b hb => (bk_parts hok hb).2.1.2
  have hpl : ∀ b ∈ f, b.pages.length = 4 := fun b hb => (bk_parts hok hb).1
  clear hok
  go_enter Try.func79, Try.ntmps79
  go_wp2_with fail
  refine (hFN _ hF).out.mono ?_
  rintro e w1 ⟨rfl, hb1⟩
  generalize next f = nx at *
  clear hFN
  go_wp2_with fail
  refine (impl_RecOk ⟨kind, nx, addr, val⟩ _).mono ?_
  rintro e w2 ⟨rfl, hb2⟩
  obtain ⟨hc, hfz⟩ := bcell hb2
  have r0 : w2.cell? ⟨w1.heap.size, 0, none⟩ = some (.int .i64 kind) := (hc _ _ (by simp)).trans (by simp)
  have r1 : w2.cell? ⟨w1.heap.size, 1, none⟩ = some (.int .i64 nx) := (hc _ _ (by simp)).trans (by simp)
  have r2 : w2.cell? ⟨w1.heap.size, 2, none⟩ = some (.int .i64 addr) := (hc _ _ (by simp)).trans (by simp)
  have r3 : w2.cell? ⟨w1.heap.size, 3, none⟩ = some (.int .i64 val) := (hc _ _ (by simp)).trans (by simp)
  have hB2 : Below w.heap.size w w2 := (hb1.alloc hb1.size _).trans (hb2.mono (by have := hb1.size; simp; omega))
  have hs1 := hb1.size
  have hs2 : w1.heap.size + 1 ≤ w2.heap.size := by have := hb2.size; simpa using this
  clear hc hfz hb2 hb1
  by_cases hr : recOk ⟨kind, nx, addr, val⟩ = true
  · have hfin2 : Hid (wr f kind addr val = if (room f).2.2 = false then [] else (room f).1 ++ [⟨3, 0, 0, (room f).2.1, ⟨kind, nx, addr, val⟩⟩]) := by
      rw [Hid, hfin.out, hr]; simp
    rw [hr]
    clear hr hfin
    go_wp2_with fail
    refine (hFO _ (hF.below hB2 (Nat.le_refl _))).out.mono ?_
    rintro e w3 ⟨rfl, hb3⟩
    replace r0 := (hb3.cell (p := ⟨w1.heap.size, 0, none⟩) (by show w1.heap.size < _; omega)).trans r0
    replace r1 := (hb3.cell (p := ⟨w1.heap.size, 1, none⟩) (by show w1.heap.size < _; omega)).trans r1
    replace r2 := (hb3.cell (p := ⟨w1.heap.size, 2, none⟩) (by show w1.heap.size < _; omega)).trans r2
    replace r3 := (hb3.cell (p := ⟨w1.heap.size, 3, none⟩) (by show w1.heap.size < _; omega)).trans r3
    have hs3 := hb3.size
    have hB3 := hB2.trans (hb3.mono hB2.size)
    clear hb3 hB2 hFO
    generalize openB f = ob at *
    obtain ⟨bi, bo⟩ := ob
    dsimp only at *
    cases bo
    · rw [if_neg (by decide)] at hroom
      go_wp2_with fail
      refine (hFD _ (hF.below hB3 (Nat.le_refl _))).out.mono ?_
      rintro e w4 ⟨rfl, hb4⟩
      replace r0 := (hb4.cell (p := ⟨w1.heap.size, 0, none⟩) (by show w1.heap.size < _; omega)).trans r0
      replace r1 := (hb4.cell (p := ⟨w1.heap.size, 1, none⟩) (by show w1.heap.size < _; omega)).trans r1
      replace r2 := (hb4.cell (p := ⟨w1.heap.size, 2, none⟩) (by show w1.heap.size < _; omega)).trans r2
      replace r3 := (hb4.cell (p := ⟨w1.heap.size, 3, none⟩) (by show w1.heap.size < _; omega)).trans r3
      have hs4 := hb4.size
      have hB4 := hB3.trans (hb4.mono hB3.size)
      clear hb4 hB3 hFD
      generalize old f = i at *
      have h4 := HL.out
      obtain ⟨B, hBf⟩ := get_some (l := f) (k := i) (by omega)
      rw [getD_of hBf] at hroom
      have hbm := List.mem_of_getElem? hBf
      have hw2 := hwl B hbm
      have HB4 := Lib.hid (hpl B hbm)
      have HB := Lib.hid hBf
      have hi4 : (i : Int) < f.length := by omega
      obtain ⟨hs, hBk⟩ := hF.below hB4 (Nat.le_refl _)
      obtain ⟨g, o, rfl⟩ := hBk.addr (by intro e; rw [e] at hBf; simp at hBf)
      obtain ⟨⟨Ap, cp⟩, _, z0, z1, _, _, hR, _⟩ := hBk.at_ hBf
      dsimp only at z0 hR
      clear hBf hbm h4 hol hwl hpl hBk
      by_cases hw : B.worn = 200
      · have h3 : Hid (wr f kind addr val = []) := by rw [Hid, hfin2.out, hroom.out, hw]; rfl
        rw [hw] at z1
        clear hw hw2
        go_wp2
        go_ret
        rw [h3.out]
        exact ⟨_, rfl, OwnS.nul _ _, hB4⟩
      · have h3 : Hid (wr f kind addr val = (tells f B.pages ++ [⟨2, 0, 0, i, rc0⟩]) ++ [⟨3, 0, 0, i, ⟨kind, nx, addr, val⟩⟩]) := by
          rw [Hid, hfin2.out, hroom.out]
          dsimp only
          rw [if_neg (by simp; omega)]
        have hw' : (B.worn == 200) = false := by simpa using hw
        have hT : Hid (tells f B.pages = [] ++ tells f (B.pages.drop 0)) := rfl
        clear hfin2 hroom hw hw2
        rw [HB4.out] at z0
        go_wp2
        go_loopw [13, 49] (fun u q wr => ∃ (k : Nat) (xs : List Sp) (v : Value), k ≤ 4 ∧ q = .int .i64 k ∧ v = u ∧ xs.length ≤ k ∧ OwnS wr w4.heap.size v xs ∧ Below w4.heap.size w4 wr ∧ Below w.heap.size w wr ∧ Hid (tells f B.pages = xs ++ tells f (B.pages.drop k))) (fun _ q _ => 4 - (intOf q).toNat)
        case atStart => exact ⟨0, [], _, by omega, rfl, rfl, by simp, OwnS.nul _ _, Below.refl _ _, hB4, hT⟩
        case round =>
          clear hT
          obtain ⟨k, xs, v, hk, rfl, rfl, hxk, hO, hb, hB, hT⟩ := hrel
          replace r0 := (hb.cell (p := ⟨w1.heap.size, 0, none⟩) (by show w1.heap.size < _; omega)).trans r0
          replace r1 := (hb.cell (p := ⟨w1.heap.size, 1, none⟩) (by show w1.heap.size < _; omega)).trans r1
          replace r2 := (hb.cell (p := ⟨w1.heap.size, 2, none⟩) (by show w1.heap.size < _; omega)).trans r2
          replace r3 := (hb.cell (p := ⟨w1.heap.size, 3, none⟩) (by show w1.heap.size < _; omega)).trans r3
          have hsr := hb.size
          have hRr := hR.below hb (Nat.le_refl _)
          by_cases hlt : k < 4
          · obtain ⟨p, hq⟩ := get_some (l := B.pages) (k := k) (by have := HB4.out; omega)
            obtain ⟨pb, po, rfl⟩ := hRr.addr (pgs_ne (by intro e; rw [e] at hq; simp at hq))
            obtain ⟨c0, c1, c2, c3, c4⟩ := hRr.pg hq
            have hT1 : Hid (tells f B.pages = (if told f p then xs ++ [tellP p] else xs) ++ tells f (B.pages.drop (k + 1))) := by rw [Hid, hT.out, drop_cons hq, tells_snoc]
            have htd : Hid (told f p = (live f p && decide (p.rc.kind = 1))) := rfl
            have hk4 : (k : Int) < 4 := by omega
            have HQ := Lib.hid hq
            have hFL : ∀ w, Fl w (some ⟨g, o, none⟩) f → Hid (Calls Try.prog 130 #[.slice (some ⟨g, o, none⟩) f.length c, .int .i64 i, .int .i64 k] w fun e w' => e = .returned (.bool (live f p)) ∧ Below w.heap.size w w') := fun w h => impl_FindLive f i k B p _ _ c w rfl HOK.out HB.out HQ.out h
            have e1 : IntKind.i64.wrap ((k : Int) + 1) = (k : Int) + 1 := IntWalk.i64_in _ (by omega)
            clear hq hT hR hRr
            go_wp2_with fail
            refine (impl_isDirty p.rc _).mono ?_
            rintro e w5 ⟨rfl, hb5⟩
            have hBa := (Below.refl wr.heap.size wr).alloc (Nat.le_refl _) (.cells #[.int .i64 p.state, .int .i64 p.rc.kind, .int .i64 p.rc.seq, .int .i64 p.rc.addr, .int .i64 p.rc.val] 119)
            obtain ⟨hc, hfz⟩ := bcell hb5
            have p1 : w5.cell? ⟨wr.heap.size, 1, none⟩ = some (.int .i64 p.rc.kind) := (hc _ _ (by simp)).trans (by simp)
            have p2 : w5.cell? ⟨wr.heap.size, 2, none⟩ = some (.int .i64 p.rc.seq) := (hc _ _ (by simp)).trans (by simp)
            have p3 : w5.cell? ⟨wr.heap.size, 3, none⟩ = some (.int .i64 p.rc.addr) := (hc _ _ (by simp)).trans (by simp)
            have p4 : w5.cell? ⟨wr.heap.size, 4, none⟩ = some (.int .i64 p.rc.val) := (hc _ _ (by simp)).trans (by simp)
            have hs5 : wr.heap.size + 1 ≤ w5.heap.size := by have := hb5.size; simpa using this
            have hB5 : Below wr.heap.size wr w5 := hBa.trans (hb5.mono (by simp))
            have hO5 := hO.below hB5 (Nat.le_refl _)
            clear hc hfz hb5 hBa hO c0 c1 c2 c3 c4
            by_cases hk1 : p.rc.kind = 1
            · rw [show decide (p.rc.kind = 1) = true by simpa using hk1]
              have hk1' := Lib.hid hk1
              rw [hk1] at p1
              clear hk1
              go_wp2_with fail
              refine (hFL _ (hF.below (hB.trans (hB5.mono hB.size)) (Nat.le_refl _))).out.mono ?_
              rintro e w6 ⟨rfl, hb6⟩
              replace p1 := (hb6.cell (p := ⟨wr.heap.size, 1, none⟩) (by show wr.heap.size < _; omega)).trans p1
              replace p2 := (hb6.cell (p := ⟨wr.heap.size, 2, none⟩) (by show wr.heap.size < _; omega)).trans p2
              replace p3 := (hb6.cell (p := ⟨wr.heap.size, 3, none⟩) (by show wr.heap.size < _; omega)).trans p3
              replace p4 := (hb6.cell (p := ⟨wr.heap.size, 4, none⟩) (by show wr.heap.size < _; omega)).trans p4
              have hs6 := hb6.size
              have hB6 := hB5.trans (hb6.mono hB5.size)
              have hO6 := hO5.below hb6 (Nat.le_refl _)
              clear hO5 hB5 hb6 hFL
              generalize live f p = lv at *
              cases lv
              · have hT2 : Hid (tells f B.pages = xs ++ tells f (B.pages.drop (k + 1))) := by
                  rw [Hid, hT1.out, if_neg (by rw [htd.out]; simp)]
                clear hT1 htd
                go_wp2
                go_roundw
                case rel => exact ⟨k + 1, xs, v, by omega, by go_num, rfl, by omega, hO6, hb.trans (hB6.mono hsr), hB.trans (hB6.mono hB.size), hT2⟩
                case measure => simp [intOf]; omega
              · have hT2 : Hid (tells f B.pages = (xs ++ [tellP p]) ++ tells f (B.pages.drop (k + 1))) := by rw [Hid, hT1.out, if_pos (by rw [htd.out, hk1'.out]; simp)]
                clear hT1 htd
                go_wp2_with fail
                refine (impl_diskStep ⟨1, p.rc.seq, p.rc.addr, p.rc.val⟩ _).mono ?_
                rintro e w7 ⟨rfl, hb7⟩
                dsimp only
                have hs7 := hb7.size
                have hB7 := hB6.trans (hb7.mono hB6.size)
                have hO7 := (hO6.below hb7 (Nat.le_refl _)).below ((Below.refl w7.heap.size _).alloc (Nat.le_refl _) (.cells #[.int .i64 1, .int .i64 p.rc.addr, .int .i64 p.rc.val, .int .i64 0, .int .i64 0, .int .i64 0, .int .i64 0, .int .i64 0] 47)) (Nat.le_refl _)
                have hnb : ∀ q, v.ownBlock = some q → w4.heap.size ≤ q := fun q e => (World.ownsRow.lt hO7 q e).1
                have hBs := hB.size
                clear hO6 hb7 hB6
                go_wp2_with (at_builtin; refine wpList_append_lies _ rfl (.tmp 63) (.tmp 67) _ rfl w4.heap.size 47 ib _ 8 64 Try.underlying37 hib hbz0 hbz1 hbz2 rfl (by omega) v xs.length (sps xs) rfl hO7 ⟨w7.heap.size, 0, none⟩ 1 1 (tellP p).vs rfl rfl (World.news_of_block (cs := #[.int .i64 1, .int .i64 p.rc.addr, .int .i64 p.rc.val, .int .i64 0, .int .i64 0, .int .i64 0, .int .i64 0, .int .i64 0]) (t := 47) (fr := (0, 0)) (heap_alloc_new w7 _)) (by simp [Value.oneCell', tellP, Sp.vs, rc0]) (by omega) (by unfold maxLen; omega) (by omega) (by simp; omega) (w7.heap.size + 1) (by simp) ?_; intro g2 c2 w8 hown2 hgrow2 hat2 hlt2)
                have hbb : Below w4.heap.size w7 w8 := ((Below.refl _ _).alloc (by omega) _).grown hgrow2 (by simp; omega) hnb
                have hB8 := (hB7.mono hsr).trans hbb
                have hOS := OwnS.snoc (x := tellP p) rfl hown2
                go_roundw
                case rel => exact ⟨k + 1, xs ++ [tellP p], _, by omega, by go_num, rfl, by simp; omega, hOS, hb.trans hB8, hB.trans (hB8.mono (by omega)), hT2⟩
                case measure => simp [intOf]; omega
            · rw [show decide (p.rc.kind = 1) = false by simpa using hk1]
              have hT2 : Hid (tells f B.pages = xs ++ tells f (B.pages.drop (k + 1))) := by
                rw [Hid, hT1.out, if_neg (by rw [htd.out]; simp [hk1])]
              clear hT1 htd hk1
              go_wp2
              go_roundw
              case rel => exact ⟨k + 1, xs, v, by omega, by go_num, rfl, by omega, hO5, hb.trans (hB5.mono hsr), hB.trans (hB5.mono hB.size), hT2⟩
              case measure => simp [intOf]; omega
          · obtain rfl : k = 4 := by omega
            have hT2 : Hid (tells f B.pages = xs) := by
              rw [Hid, hT.out, List.drop_of_length_le (by rw [HB4.out]; exact Nat.le_refl _)]
              simp [tells]
            rw [hT2.out] at h3
            have hO1 := hO.below ((Below.refl wr.heap.size _).alloc (Nat.le_refl _) (.cells #[.int .i64 2, .int .i64 0, .int .i64 0, .int .i64 i, .int .i64 0, .int .i64 0, .int .i64 0, .int .i64 0] 47)) (Nat.le_refl _)
            have hnb : ∀ q, v.ownBlock = some q → w4.heap.size ≤ q := fun q e => (World.ownsRow.lt hO q e).1
            have hBs := hB.size
            clear hT hR hRr z0 hO
            go_wp2_with (first | (at_builtin; refine wpList_append_lies _ rfl (.tmp 70) (.tmp 73) _ rfl w4.heap.size 47 ib _ 8 64 Try.underlying37 hib hbz0 hbz1 hbz2 rfl (by omega) v xs.length (sps xs) rfl hO1 ⟨wr.heap.size, 0, none⟩ 1 1 (⟨2, 0, 0, i, rc0⟩ : Sp).vs rfl rfl (World.news_of_block (cs := #[.int .i64 2, .int .i64 0, .int .i64 0, .int .i64 i, .int .i64 0, .int .i64 0, .int .i64 0, .int .i64 0]) (t := 47) (fr := (0, 0)) (heap_alloc_new wr _)) (by simp [Value.oneCell', Sp.vs, rc0]) (by omega) (by unfold maxLen; omega) (by omega) (by simp; omega) (wr.heap.size + 1) (by simp) ?_; intro g2 c2 w8 hown2 hgrow2 hat2 hlt2; have hbb : Below w4.heap.size wr w8 := ((Below.refl _ _).alloc (by omega) _).grown hgrow2 (by simp; omega) hnb; have y0 := (hbb.cell (p := ⟨w1.heap.size, 0, none⟩) (by show w1.heap.size < _; omega)).trans r0; have y1 := (hbb.cell (p := ⟨w1.heap.size, 1, none⟩) (by show w1.heap.size < _; omega)).trans r1; have y2 := (hbb.cell (p := ⟨w1.heap.size, 2, none⟩) (by show w1.heap.size < _; omega)).trans r2; have y3 := (hbb.cell (p := ⟨w1.heap.size, 3, none⟩) (by show w1.heap.size < _; omega)).trans r3; have hOS := OwnS.snoc (x := ⟨2, 0, 0, i, rc0⟩) rfl hown2; have hs8 := hbb.size; have hO2 := hOS.below ((Below.refl w8.heap.size _).alloc (Nat.le_refl _) (.cells #[.int .i64 3, .int .i64 0, .int .i64 0, .int .i64 i, .int .i64 kind, .int .i64 nx, .int .i64 addr, .int .i64 val] 47)) (Nat.le_refl _); have hnb2 : ∀ q, (Value.slice (some ⟨g2, 0, none⟩) (xs.length + 1) c2).ownBlock = some q → w4.heap.size ≤ q := fun q e => (World.ownsRow.lt hOS q e).1; have hlx : (xs ++ [(⟨2, 0, 0, i, rc0⟩ : Sp)]).length = xs.length + 1 := (by simp); unfold OwnS at hO2; rw [hlx] at hO2; clear hown2 hgrow2 hOS hO1) | (at_builtin; refine wpList_append_lies _ rfl (.tmp 75) (.tmp 79) _ rfl w4.heap.size 47 ib _ 8 64 Try.underlying37 hib hbz0 hbz1 hbz2 rfl (by omega) (.slice (some ⟨g2, 0, none⟩) (xs.length + 1) c2) (xs.length + 1) (sps (xs ++ [⟨2, 0, 0, i, rc0⟩])) rfl hO2 ⟨w8.heap.size, 0, none⟩ 1 1 (⟨3, 0, 0, i, ⟨kind, nx, addr, val⟩⟩ : Sp).vs rfl rfl (World.news_of_block (cs := #[.int .i64 3, .int .i64 0, .int .i64 0, .int .i64 i, .int .i64 kind, .int .i64 nx, .int .i64 addr, .int .i64 val]) (t := 47) (fr := (0, 0)) (heap_alloc_new w8 _)) (by simp [Value.oneCell', Sp.vs]) (by omega) (by unfold maxLen; omega) (by omega) (by simp; omega) (w8.heap.size + 1) (by simp) ?_; intro g3 c3 w9 hown3 hgrow3 hat3 hlt3))
            have hbb2 : Below w4.heap.size w8 w9 := ((Below.refl _ _).alloc (by omega) _).grown hgrow3 (by simp; omega) hnb2
            have hOS := OwnS.snoc (xs := xs ++ [⟨2, 0, 0, i, rc0⟩]) (x := ⟨3, 0, 0, i, ⟨kind, nx, addr, val⟩⟩) rfl (by rw [hlx]; exact hown3)
            rw [hlx] at hOS
            go_ret
            rw [h3.out]
            exact ⟨_, rfl, hOS.mono (by omega), hB.trans ((hbb.trans hbb2).mono (by omega))⟩
    · rw [if_pos rfl] at hroom
      have h3 : Hid (wr f kind addr val = [⟨3, 0, 0, bi, ⟨kind, nx, addr, val⟩⟩]) := by rw [Hid, hfin2.out, hroom.out]; rfl
      clear hfin2 hroom
      go_wp2
      go_ret
      rw [h3.out]
      exact ⟨_, rfl, OwnS.one w3 w.heap.size (by omega) ⟨3, 0, 0, bi, ⟨kind, nx, addr, val⟩⟩, hB3.alloc hB3.size _⟩
  · have hr' : recOk ⟨kind, nx, addr, val⟩ = false := by simpa using hr
    have h3 : Hid (wr f kind addr val = []) := by rw [Hid, hfin.out, if_pos (.inr hr')]
    rw [hr']
    go_wp2
    go_ret
    rw [h3.out]
    exact ⟨_, rfl, OwnS.nul _ _, hB2⟩
end Go.Proofs.Ytbekihiiildgmaa
open Go.RowKit Go.IntWalk Go.Maps
namespace Go.Proofs.Ytbekihiiildgmaa
set_option linter.unusedVariables false
set_option linter.unusedSimpArgs false
set_option maxHeartbeats 1000000
theorem ok_parts {s : St} (h : storeOk s = true) : s.flash.length = 4 ∧ s.disk.length = 6 ∧ flashOk s.flash = true ∧ (∀ b ∈ s.flash, b.pages.length = 4) ∧ (∀ b ∈ s.flash, most b < 1000000000000) := by
  have k := storeOk_iff.1 h
  exact ⟨flashOk_len k.flash, k.len, k.flash, fun b hb => (bk_parts k.flash hb).1, most_small (flFine_of k.flash)⟩
/-- what the steps are asked of: an ok store -/
def okSteps (s : St) (xs : List Sp) : List Sp := if storeOk s = true then xs else []
def StepsPost (w : World) (xs : List Sp) (e : Ending) (w' : World) : Prop := ∃ v, e = .returned v ∧ OwnS w' w.heap.size v xs ∧ Below w.heap.size w w'
set_option maxRecDepth 20000 in
theorem impl_StepsPut (s : St) (a v : Int) (A D : Option Addr) (n m c d : Nat) (w : World) (hn : n = s.flash.length) (hm : m = s.disk.length) (hF : Fl w A s.flash) (hD : Row w D (ints s.disk)) :
    Calls Try.prog 28 #[.agg #[.slice A n c, .slice D m d], .int .i64 a, .int .i64 v] w (StepsPost w (okSteps s (wr s.flash 1 a v))) := by
  have hF0 : Fl (w.alloc (.cells #[.slice A n c, .slice D m d] 26)) A s.flash := hF.alloc _
  have hD0 : Row (w.alloc (.cells #[.slice A n c, .slice D m d] 26)) D (ints s.disk) := hD.alloc _
  have hSO : Hid (Calls Try.prog 21 #[.agg #[.slice A n c, .slice D m d]] (w.alloc (.cells #[.slice A n c, .slice D m d] 26)) fun e w' => e = .returned (.bool (storeOk s)) ∧ Below (w.alloc (.cells #[.slice A n c, .slice D m d] 26)).heap.size (w.alloc (.cells #[.slice A n c, .slice D m d] 26)) w') := impl_StoreOk s A D n m c d _ hn hm hF0 hD0
  by_cases hok : storeOk s = true
  · have hfin : Hid (okSteps s (wr s.flash 1 a v) = wr s.flash 1 a v) := by unfold Hid okSteps; rw [if_pos hok]
    obtain ⟨h4, h6, hfl, hp4, hms⟩ := ok_parts hok
    obtain rfl : n = 4 := by omega
    obtain rfl : m = 6 := by omega
    rw [hok] at hSO
    have HFL := Lib.hid hfl
    have H4 := Lib.hid h4
    have H6 := Lib.hid h6
    have HP := Lib.hid hp4
    have HM := Lib.hid hms
    have HOK := Lib.hid (storeOk_iff.1 hok)
    clear hok h4 h6 hfl hp4 hms hm hn
    go_enter Try.func28, Try.ntmps28
    go_wp2_with fail
    with_reducible refine hSO.out.mono ?_
    rintro e w1 ⟨rfl, hb⟩
    have hB : Below w.heap.size w w1 := ((Below.refl _ _).alloc (Nat.le_refl _) _).trans (hb.mono (by simp))
    have hz : w.heap.size < w1.heap.size := by have := hb.size; simp at this; omega
    obtain ⟨hc, hfz⟩ := bcell hb
    have x0 : w1.cell? ⟨w.heap.size, 0, none⟩ = some (.slice A 4 c) := (hc _ _ (by simp)).trans (by simp)
    have x1 : w1.cell? ⟨w.heap.size, 1, none⟩ = some (.slice D 6 d) := (hc _ _ (by simp)).trans (by simp)
    have hF1 := hF.below hB (Nat.le_refl _)
    have hD1 := hD.below hB (Nat.le_refl _)
    clear hb hc hfz hSO hF0 hD0
    go_wp2_with fail
    refine (impl_stepsWrite s.flash 1 a v A _ c _ H4.out.symm HFL.out hF1).mono ?_
    rintro e w2 ⟨v, rfl, hO, hb2⟩
    go_wp2
    go_ret
    exact ⟨_, rfl, by rw [hfin.out]; exact hO.mono hB.size, hB.trans (hb2.mono hB.size)⟩
  · have hfin : Hid (okSteps s (wr s.flash 1 a v) = []) := by unfold Hid okSteps; rw [if_neg hok]
    rw [show storeOk s = false by simpa using hok] at hSO
    clear hok hn hm
    go_enter Try.func28, Try.ntmps28
    go_wp2_with fail
    with_reducible refine hSO.out.mono ?_
    rintro e w1 ⟨rfl, hb⟩
    have hB : Below w.heap.size w w1 := ((Below.refl _ _).alloc (Nat.le_refl _) _).trans (hb.mono (by simp))
    have hz : w.heap.size ≤ w1.heap.size := hB.size
    go_wp2
    go_ret
    rw [StepsPost]
    exact ⟨_, rfl, by rw [hfin.out]; exact OwnS.nul _ _, hB⟩
theorem OwnS.shape' {w : World} {base : Nat} {v : Value} {xs : List Sp} (h : OwnS w base v xs) : ∃ A c, v = .slice A xs.length c ∧ xs.length ≤ c ∧ Row w A (sps xs) ∧ ∀ b, blk A b → base ≤ b ∧ b < w.heap.size := h.shape
set_option maxRecDepth 20000 in
theorem impl_StepsFlush (s : St) (a : Int) (A D : Option Addr) (n m c d : Nat) (w : World) (hn : n = s.flash.length) (hm : m = s.disk.length) (hF : Fl w A s.flash) (hD : Row w D (ints s.disk)) :
    Calls Try.prog 39 #[.agg #[.slice A n c, .slice D m d], .int .i64 a] w (StepsPost w (okSteps s (flush s a))) := by
  obtain ⟨ib, hib, hbz0, hbz1, hbz2⟩ := info_parts Try.info3_step
  have hF0 : Fl (w.alloc (.cells #[.slice A n c, .slice D m d] 26)) A s.flash := hF.alloc _
  have hD0 : Row (w.alloc (.cells #[.slice A n c, .slice D m d] 26)) D (ints s.disk) := hD.alloc _
  have hSO : Hid (Calls Try.prog 21 #[.agg #[.slice A n c, .slice D m d]] (w.alloc (.cells #[.slice A n c, .slice D m d] 26)) fun e w' => e = .returned (.bool (storeOk s)) ∧ Below (w.alloc (.cells #[.slice A n c, .slice D m d] 26)).heap.size (w.alloc (.cells #[.slice A n c, .slice D m d] 26)) w') := impl_StoreOk s A D n m c d _ hn hm hF0 hD0
  by_cases hok : storeOk s = true
  · have hfin : Hid (okSteps s (flush s a) = flush s a) := by unfold Hid okSteps; rw [if_pos hok]
    obtain ⟨h4, h6, hfl, hp4, hms⟩ := ok_parts hok
    obtain rfl : n = 4 := by omega
    obtain rfl : m = 6 := by omega
    rw [hok] at hSO
    have HFL := Lib.hid hfl
    have H4 := Lib.hid h4
    have H6 := Lib.hid h6
    have HP := Lib.hid hp4
    have HM := Lib.hid hms
    have HOK := Lib.hid (storeOk_iff.1 hok)
    clear hok h4 h6 hfl hp4 hms hm hn
    go_enter Try.func39, Try.ntmps39
    go_wp2_with fail
    with_reducible refine hSO.out.mono ?_
    rintro e w1 ⟨rfl, hb⟩
    have hB : Below w.heap.size w w1 := ((Below.refl _ _).alloc (Nat.le_refl _) _).trans (hb.mono (by simp))
    have hz : w.heap.size < w1.heap.size := by have := hb.size; simp at this; omega
    obtain ⟨hc, hfz⟩ := bcell hb
    have x0 : w1.cell? ⟨w.heap.size, 0, none⟩ = some (.slice A 4 c) := (hc _ _ (by simp)).trans (by simp)
    have x1 : w1.cell? ⟨w.heap.size, 1, none⟩ = some (.slice D 6 d) := (hc _ _ (by simp)).trans (by simp)
    have hF1 := hF.below hB (Nat.le_refl _)
    have hD1 := hD.below hB (Nat.le_refl _)
    clear hb hc hfz hSO hF0 hD0
    have hq : Hid (flush s a = if addrB a = false ∨ dirty s.flash a = false then [] else if wr s.flash 2 a (readV s a) = [] then [] else ⟨1, a, readV s a, 0, rc0⟩ :: wr s.flash 2 a (readV s a)) := rfl
    go_wp2_with fail
    refine (impl_FindLast s.flash a A _ c _ H4.out.symm hF1).mono ?_
    rintro e w2 ⟨rfl, hb2⟩
    replace x0 := (hb2.cell (p := ⟨w.heap.size, 0, none⟩) hz).trans x0
    have hB2 := hB.trans (hb2.mono hB.size)
    have hz2 := hb2.size
    clear hb2 hB x1
    by_cases hfd : addrB a = true ∧ 0 < (last s.flash a).seq
    · obtain ⟨ha, hpos⟩ := hfd
      have hfe : findLast s.flash a = (last s.flash a, true) := by unfold findLast; rw [if_pos ⟨ha, HFL.out⟩]; congr 1; simpa using hpos
      have hra : (last s.flash a).addr = a := (last_found (last_pages HFL.out) hpos).2
      have hdy : Hid (dirty s.flash a = decide ((last s.flash a).kind = 1)) := by unfold Hid dirty; rw [show decide (0 < (last s.flash a).seq) = true by simpa using hpos]; rfl
      have hrv : readV s a = (last s.flash a).val := by unfold readV; rw [if_pos hpos]
      rw [hfe]
      rw [hrv] at hq
      have HRA := Lib.hid hra
      have HA := Lib.hid ha
      generalize last s.flash a = r at *
      clear hfe hra hrv hpos ha
      unfold rcA
      dsimp only
      go_wp2_with fail
      refine (impl_isDirty r _).mono ?_
      rintro e w3 ⟨rfl, hb3⟩
      obtain ⟨hc, hfz⟩ := bcell hb3
      have r0 : w3.cell? ⟨w2.heap.size, 0, none⟩ = some (.int .i64 r.kind) := (hc _ _ (by simp)).trans (by simp)
      have r1 : w3.cell? ⟨w2.heap.size, 1, none⟩ = some (.int .i64 r.seq) := (hc _ _ (by simp)).trans (by simp)
      have r2 : w3.cell? ⟨w2.heap.size, 2, none⟩ = some (.int .i64 r.addr) := (hc _ _ (by simp)).trans (by simp)
      have r3 : w3.cell? ⟨w2.heap.size, 3, none⟩ = some (.int .i64 r.val) := (hc _ _ (by simp)).trans (by simp)
      have y0 : w3.cell? ⟨w.heap.size, 0, none⟩ = some (.slice A 4 c) := (hc _ _ (by simp; omega)).trans (cellP x0 _)
      have hB3 : Below w.heap.size w w3 := (hB2.alloc hB2.size _).trans (hb3.mono (by have := hB2.size; simp; omega))
      have hz3 : w2.heap.size + 1 ≤ w3.heap.size := by have := hb3.size; simpa using this
      clear hb3 hc hfz x0 hB2
      by_cases hk : r.kind = 1
      · rw [show decide (r.kind = 1) = true by simpa using hk]
        have hq2 : Hid (flush s a = if wr s.flash 2 a r.val = [] then [] else ⟨1, a, r.val, 0, rc0⟩ :: wr s.flash 2 a r.val) := by
          rw [Hid, hq.out, if_neg (by rw [HA.out, hdy.out]; simp [hk])]
        rw [hk] at r0
        clear hk hq hdy
        go_wp2_with fail
        refine (impl_stepsWrite s.flash 2 a r.val A _ c _ H4.out.symm HFL.out (hF.below hB3 (Nat.le_refl _))).mono ?_
        rintro e w4 ⟨v, rfl, hO, hb4⟩
        replace r0 := (hb4.cell (p := ⟨w2.heap.size, 0, none⟩) (by show w2.heap.size < _; omega)).trans r0
        replace r1 := (hb4.cell (p := ⟨w2.heap.size, 1, none⟩) (by show w2.heap.size < _; omega)).trans r1
        replace r2 := (hb4.cell (p := ⟨w2.heap.size, 2, none⟩) (by show w2.heap.size < _; omega)).trans r2
        replace r3 := (hb4.cell (p := ⟨w2.heap.size, 3, none⟩) (by show w2.heap.size < _; omega)).trans r3
        have hB4 := hB3.trans (hb4.mono hB3.size)
        have hz4 := hb4.size
        have hwl := wr_len H4.out HP.out 2 a r.val
        generalize wr s.flash 2 a r.val = xs at *
        obtain ⟨A2, c2, rfl, hcap, hRow, hblk⟩ := hO.shape'
        clear hb4 hB3 y0
        by_cases hx : xs = []
        · subst hx
          have h4' : Hid (flush s a = []) := by rw [Hid, hq2.out, if_pos rfl]
          go_wp2
          go_ret
          exact ⟨_, rfl, by rw [hfin.out, h4'.out]; exact OwnS.nul _ _, hB4⟩
        · have h4' : Hid (flush s a = [⟨1, a, r.val, 0, rc0⟩] ++ xs) := by rw [Hid, hq2.out, if_neg hx]; rfl
          have hlen : 0 < xs.length := List.length_pos_iff.2 hx
          have hle : ((xs.length : Int) == 0) = false := by rw [beq_eq_false_iff_ne]; omega
          obtain ⟨g2, o2, rfl⟩ := hRow.addr (by intro e; have := sps_len xs; rw [e] at this; simp at this; omega)
          clear hq2
          go_wp2_with fail
          refine (impl_diskStep ⟨1, r.seq, r.addr, r.val⟩ _).mono ?_
          rintro e w5 ⟨rfl, hb5⟩
          dsimp only
          rw [HRA.out]
          have hB5 := hB4.trans (hb5.mono hB4.size)
          have hz5 := hb5.size
          have hRow5 := hRow.below hb5 (Nat.le_refl _)
          have hlit : OwnS (w5.alloc (.cells #[.int .i64 1, .int .i64 a, .int .i64 r.val, .int .i64 0, .int .i64 0, .int .i64 0, .int .i64 0, .int .i64 0] 47)) w.heap.size (.slice (some ⟨w5.heap.size, 0, none⟩) 1 1) [⟨1, a, r.val, 0, rc0⟩] := OwnS.one w5 w.heap.size (by omega) ⟨1, a, r.val, 0, rc0⟩
          clear hRow hb5 hB4
          go_wp2_with (at_builtin; refine wpList_append_lies _ rfl (.tmp 36) (.tmp 37) _ rfl w.heap.size 47 ib _ 8 64 Try.underlying37 hib hbz0 hbz1 hbz2 rfl (by omega) (.slice (some ⟨w5.heap.size, 0, none⟩) 1 1) 1 (sps [⟨1, a, r.val, 0, rc0⟩]) rfl hlit ⟨g2, o2, none⟩ xs.length c2 (sps xs) rfl (sps_len xs) ((hRow5.alloc _).news) (sps_one xs) hlen (by unfold maxLen; omega) (by omega) (by simp; omega) (w5.heap.size + 1) (by simp) ?_; intro g3 c3 w6 hown2 hgrow2 hat2 hlt2)
          have hbb : Below w5.heap.size w5 w6 := ((Below.refl _ _).alloc (by omega) _).grown hgrow2 (by simp) (by intro q e; cases e; exact Nat.le_refl _)
          have hOS := OwnS.onto (xs := [⟨1, a, r.val, 0, rc0⟩]) rfl hown2
          go_ret
          exact ⟨_, rfl, by rw [hfin.out, h4'.out]; exact hOS, hB5.trans (hbb.mono (by omega))⟩
      · rw [show decide (r.kind = 1) = false by simpa using hk]
        have hq2 : Hid (flush s a = []) := by rw [Hid, hq.out, if_pos (.inr (by rw [hdy.out]; simpa using hk))]
        go_wp2
        go_ret
        exact ⟨_, rfl, by rw [hfin.out, hq2.out]; exact OwnS.nul _ _, hB3⟩
    · have hq2 : Hid (flush s a = []) := by
        rw [Hid, hq.out, if_pos]
        by_cases ha : addrB a = true
        · right; unfold dirty; rw [show decide (0 < (last s.flash a).seq) = false by simpa using fun h => hfd ⟨ha, h⟩]; rfl
        · left; simpa using ha
      have hfe : (findLast s.flash a).2 = false := by
        unfold findLast
        split
        · rename_i h; simpa using fun q => hfd ⟨h.1, q⟩
        · rfl
      rw [hfe]
      clear hfe hq hfd
      generalize (findLast s.flash a).1 = r at *
      unfold rcA
      go_wp2
      go_ret
      exact ⟨_, rfl, by rw [hfin.out, hq2.out]; exact OwnS.nul _ _, hB2.alloc hB2.size _⟩
  · have hfin : Hid (okSteps s (flush s a) = []) := by unfold Hid okSteps; rw [if_neg hok]
    rw [show storeOk s = false by simpa using hok] at hSO
    clear hok hn hm
    go_enter Try.func39, Try.ntmps39
    go_wp2_with fail
    with_reducible refine hSO.out.mono ?_
    rintro e w1 ⟨rfl, hb⟩
    have hB : Below w.heap.size w w1 := ((Below.refl _ _).alloc (Nat.le_refl _) _).trans (hb.mono (by simp))
    have hz : w.heap.size ≤ w1.heap.size := hB.size
    go_wp2
    go_ret
    rw [StepsPost]
    exact ⟨_, rfl, by rw [hfin.out]; exact OwnS.nul _ _, hB⟩
end Go.Proofs.Ytbekihiiildgmaa
open Go.RowKit Go.IntWalk Go.Maps
namespace Go.Proofs.Ytbekihiiildgmaa
set_option linter.unusedVariables false
set_option linter.unusedSimpArgs false
set_option maxHeartbeats 1000000
set_option maxRecDepth 20000 in
theorem impl_StepsFill (s : St) (a : Int) (A D : Option Addr) (n m c d : Nat) (w : World) (hn : n = s.flash.length) (hm : m = s.disk.length) (hF : Fl w A s.flash) (hD : Row w D (ints s.disk)) :
    Calls Try.prog 42 #[.agg #[.slice A n c, .slice D m d], .int .i64 a] w (StepsPost w (okSteps s (fill s a))) := by
  have hF0 : Fl (w.alloc (.cells #[.slice A n c, .slice D m d] 26)) A s.flash := hF.alloc _
  have hD0 : Row (w.alloc (.cells #[.slice A n c, .slice D m d] 26)) D (ints s.disk) := hD.alloc _
  have hSO : Hid (Calls Try.prog 21 #[.agg #[.slice A n c, .slice D m d]] (w.alloc (.cells #[.slice A n c, .slice D m d] 26)) fun e w' => e = .returned (.bool (storeOk s)) ∧ Below (w.alloc (.cells #[.slice A n c, .slice D m d] 26)).heap.size (w.alloc (.cells #[.slice A n c, .slice D m d] 26)) w') := impl_StoreOk s A D n m c d _ hn hm hF0 hD0
  by_cases hok : storeOk s = true
  · have hfin : Hid (okSteps s (fill s a) = fill s a) := by unfold Hid okSteps; rw [if_pos hok]
    obtain ⟨h4, h6, hfl, hp4, hms⟩ := ok_parts hok
    obtain rfl : n = 4 := by omega
    obtain rfl : m = 6 := by omega
    rw [hok] at hSO
    have HFL := Lib.hid hfl
    have H4 := Lib.hid h4
    have H6 := Lib.hid h6
    have HP := Lib.hid hp4
    have HM := Lib.hid hms
    have HOK := Lib.hid (storeOk_iff.1 hok)
    clear hok h4 h6 hfl hp4 hms hm hn
    go_enter Try.func42, Try.ntmps42
    go_wp2_with fail
    with_reducible refine hSO.out.mono ?_
    rintro e w1 ⟨rfl, hb⟩
    have hB : Below w.heap.size w w1 := ((Below.refl _ _).alloc (Nat.le_refl _) _).trans (hb.mono (by simp))
    have hz : w.heap.size < w1.heap.size := by have := hb.size; simp at this; omega
    obtain ⟨hc, hfz⟩ := bcell hb
    have x0 : w1.cell? ⟨w.heap.size, 0, none⟩ = some (.slice A 4 c) := (hc _ _ (by simp)).trans (by simp)
    have x1 : w1.cell? ⟨w.heap.size, 1, none⟩ = some (.slice D 6 d) := (hc _ _ (by simp)).trans (by simp)
    have hF1 := hF.below hB (Nat.le_refl _)
    have hD1 := hD.below hB (Nat.le_refl _)
    clear hb hc hfz hSO hF0 hD0
    by_cases ha : addrB a = true
    · obtain ⟨ha1, ha2⟩ := addrB_iff.1 ha
      have hAc : ∀ w, Hid (Calls Try.prog 87 #[.int .i64 a] w fun e w' => e = .returned (.bool true) ∧ w = w') := fun w => by have := impl_addrOk a w; rw [ha] at this; exact this
      have hq : Hid (fill s a = if addrB a = false ∨ 0 < (last s.flash a).seq then [] else wr s.flash 2 a (s.disk.getD (a - 1).toNat 0)) := rfl
      have hfe : findLast s.flash a = (last s.flash a, decide (0 < (last s.flash a).seq)) := by unfold findLast; rw [if_pos ⟨ha, HFL.out⟩]
      have HFE := Lib.hid hfe
      have HA := Lib.hid ha
      obtain ⟨i, rfl⟩ : ∃ i : Nat, a = i + 1 := ⟨(a - 1).toNat, by omega⟩
      have hi : i < 6 := by omega
      obtain ⟨v, hv⟩ := get_some (l := s.disk) (k := i) (by have := H6.out; omega)
      have hgd : s.disk.getD ((i : Int) + 1 - 1).toNat 0 = v := by rw [show ((i : Int) + 1 - 1).toNat = i by omega, List.getD_eq_getElem?_getD, hv]; rfl
      rw [hgd] at hq
      obtain ⟨db, dO, rfl⟩ := hD1.addr (ints_ne' (by intro e; rw [e] at hv; simp at hv))
      have hi6 : (i : Int) < 6 := by omega
      have HV := Lib.hid hv
      clear hv hgd ha hfe
      go_wp2_with (go_at_call 87; with_reducible refine (hAc _).out.mono ?_; rintro e w2 ⟨rfl, rfl⟩)
      with_reducible refine (impl_FindLast s.flash (i + 1) A _ c _ H4.out.symm hF1).mono ?_
      rintro e w2 ⟨rfl, hb2⟩
      rw [HFE.out]
      replace x0 := (hb2.cell (p := ⟨w.heap.size, 0, none⟩) hz).trans x0
      replace x1 := (hb2.cell (p := ⟨w.heap.size, 1, none⟩) hz).trans x1
      have hB2 := hB.trans (hb2.mono hB.size)
      have hz2 := hb2.size
      obtain ⟨hcv, _⟩ := (hD1.below hb2 (Nat.le_refl _)).int_ HV.out
      have hdb := lt_of_cell hcv
      have hF2 := hF.below hB2 (Nat.le_refl _)
      clear hb2 hB hAc HFE
      generalize last s.flash (i + 1) = x at *
      unfold rcA
      dsimp only
      have hzz : w.heap.size < w2.heap.size := by omega
      by_cases h1 : 0 < x.seq
      · have h3 : Hid (fill s (i + 1) = []) := by rw [Hid, hq.out, if_pos (.inr h1)]
        rw [show decide (0 < x.seq) = true by simpa using h1]
        go_wp2
        go_ret
        exact ⟨_, rfl, by rw [hfin.out, h3.out]; exact OwnS.nul _ _, hB2.alloc hB2.size _⟩
      · have h3 : Hid (fill s (i + 1) = wr s.flash 2 (i + 1) v) := by
          rw [Hid, hq.out, if_neg (by rw [HA.out]; simp; omega)]
        rw [show decide (0 < x.seq) = false by simpa using h1]
        have e1 : IntKind.i64.wrap ((i : Int) + 1 - 1) = i := by rw [show (i : Int) + 1 - 1 = i by omega]; exact IntWalk.i64_in _ (by omega)
        have e2 : IntKind.i64.wrap (i : Int) = i := IntWalk.i64_in _ (by omega)
        have e3 : (i : Int) + 1 - 1 = i := by omega
        have e4 : (0 : Int) ≤ i := by omega
        clear hq h1
        go_wp2
        go_region_with (first | (go_at_call 79; with_reducible refine (impl_stepsWrite s.flash 2 (i + 1) v A _ c _ H4.out.symm HFL.out (Fl.drew' (hF2.alloc _))).mono ?_; rintro e w3 ⟨u, rfl, hO, hb3⟩))
        all_goals
          have hle : w.heap.size ≤ (w2.alloc (.cells #[.int .i64 x.kind, .int .i64 x.seq, .int .i64 x.addr, .int .i64 x.val] 45)).drew.heap.size := by show w.heap.size ≤ (w2.alloc _).heap.size; simp; omega
          have hB3 : Below w.heap.size w w3 := ((hB2.alloc hB2.size _).drew).trans (hb3.mono hle)
          clear hb3
          go_wp2
          go_ret
          exact ⟨_, rfl, by rw [hfin.out, h3.out]; exact hO.mono hle, hB3⟩
    · have ha' : addrB a = false := by simpa using ha
      have hAc : ∀ w, Hid (Calls Try.prog 87 #[.int .i64 a] w fun e w' => e = .returned (.bool false) ∧ w = w') := fun w => by have := impl_addrOk a w; rw [ha'] at this; exact this
      have h3 : Hid (fill s a = []) := by unfold Hid fill; rw [if_pos (.inl ha')]
      clear ha ha'
      go_wp2_with (go_at_call 87; with_reducible refine (hAc _).out.mono ?_; rintro e w2 ⟨rfl, rfl⟩)
      go_ret
      exact ⟨_, rfl, by rw [hfin.out, h3.out]; exact OwnS.nul _ _, hB⟩
  · have hfin : Hid (okSteps s (fill s a) = []) := by unfold Hid okSteps; rw [if_neg hok]
    rw [show storeOk s = false by simpa using hok] at hSO
    clear hok hn hm
    go_enter Try.func42, Try.ntmps42
    go_wp2_with fail
    with_reducible refine hSO.out.mono ?_
    rintro e w1 ⟨rfl, hb⟩
    have hB : Below w.heap.size w w1 := ((Below.refl _ _).alloc (Nat.le_refl _) _).trans (hb.mono (by simp))
    have hz : w.heap.size ≤ w1.heap.size := hB.size
    go_wp2
    go_ret
    rw [StepsPost]
    exact ⟨_, rfl, by rw [hfin.out]; exact OwnS.nul _ _, hB⟩
end Go.Proofs.Ytbekihiiildgmaa
open Go.RowKit Go.IntWalk Go.Maps
namespace Go.Proofs.Ytbekihiiildgmaa
set_option linter.unusedVariables false
set_option linter.unusedSimpArgs false
set_option maxHeartbeats 1000000
set_option maxRecDepth 20000
theorem impl_player_put (s : St) (e : Ev) (A D : Option Addr) (n m c d : Nat) (w : World) (hn : n = s.flash.length) (hm : m = s.disk.length) (hF : Fl w A s.flash) (hD : Row w D (ints s.disk)) :
    Calls Try.prog 71 #[.agg #[.slice A n c, .slice D m d], .agg #[.int .i64 e.kind, .int .i64 e.a, .int .i64 e.b, .int .i64 e.c, .bool e.torn]] w (StepsPost w (okSteps s (wr s.flash 1 e.a e.b))) := by
  have hB0 : Below w.heap.size w ((w.alloc (.cells #[.slice A n c, .slice D m d] 92)).alloc (.cells #[.int .i64 e.kind, .int .i64 e.a, .int .i64 e.b, .int .i64 e.c, .bool e.torn] 28)) := by (repeat (first | (with_reducible exact Below.refl _ _) | (with_reducible assumption) | (refine Below.setCell ?_ (by first | omega | exact hB.size | exact hb.size | (have h := hB.size; simp; omega) | (have h := hb.size; simp; omega) | (simp; omega) | simp) _) | (refine Below.alloc ?_ (by first | omega | exact hB.size | exact hb.size | (have h := hB.size; simp; omega) | (have h := hb.size; simp; omega) | (simp; omega) | simp) _) | (refine Below.drew ?_)))
  have HC := Lib.hid (impl_StepsPut s e.a e.b A D n m c d _ hn hm (hF.below hB0 (Nat.le_refl _)) (hD.below hB0 (Nat.le_refl _)))
  clear hn hm
  go_enter Try.func71, Try.ntmps71
  go_wp2_with fail
  with_reducible refine HC.out.mono ?_
  rintro r w1 ⟨v, rfl, hO, hb⟩
  go_wp2
  go_ret
  exact ⟨_, rfl, hO.mono (by simp; omega), hB0.trans (hb.mono (by simp; omega))⟩
theorem impl_player_flush (s : St) (e : Ev) (A D : Option Addr) (n m c d : Nat) (w : World) (hn : n = s.flash.length) (hm : m = s.disk.length) (hF : Fl w A s.flash) (hD : Row w D (ints s.disk)) :
    Calls Try.prog 72 #[.agg #[.slice A n c, .slice D m d], .agg #[.int .i64 e.kind, .int .i64 e.a, .int .i64 e.b, .int .i64 e.c, .bool e.torn]] w (StepsPost w (okSteps s (flush s e.a))) := by
  have hB0 : Below w.heap.size w ((w.alloc (.cells #[.slice A n c, .slice D m d] 92)).alloc (.cells #[.int .i64 e.kind, .int .i64 e.a, .int .i64 e.b, .int .i64 e.c, .bool e.torn] 28)) := by (repeat (first | (with_reducible exact Below.refl _ _) | (with_reducible assumption) | (refine Below.setCell ?_ (by first | omega | exact hB.size | exact hb.size | (have h := hB.size; simp; omega) | (have h := hb.size; simp; omega) | (simp; omega) | simp) _) | (refine Below.alloc ?_ (by first | omega | exact hB.size | exact hb.size | (have h := hB.size; simp; omega) | (have h := hb.size; simp; omega) | (simp; omega) | simp) _) | (refine Below.drew ?_)))
  have HC := Lib.hid (impl_StepsFlush s e.a A D n m c d _ hn hm (hF.below hB0 (Nat.le_refl _)) (hD.below hB0 (Nat.le_refl _)))
  clear hn hm
  go_enter Try.func72, Try.ntmps72
  go_wp2_with fail
  with_reducible refine HC.out.mono ?_
  rintro r w1 ⟨v, rfl, hO, hb⟩
  go_wp2
  go_ret
  exact ⟨_, rfl, hO.mono (by simp; omega), hB0.trans (hb.mono (by simp; omega))⟩
theorem impl_player_fill (s : St) (e : Ev) (A D : Option Addr) (n m c d : Nat) (w : World) (hn : n = s.flash.length) (hm : m = s.disk.length) (hF : Fl w A s.flash) (hD : Row w D (ints s.disk)) :
    Calls Try.prog 73 #[.agg #[.slice A n c, .slice D m d], .agg #[.int .i64 e.kind, .int .i64 e.a, .int .i64 e.b, .int .i64 e.c, .bool e.torn]] w (StepsPost w (okSteps s (fill s e.a))) := by
  have hB0 : Below w.heap.size w ((w.alloc (.cells #[.slice A n c, .slice D m d] 92)).alloc (.cells #[.int .i64 e.kind, .int .i64 e.a, .int .i64 e.b, .int .i64 e.c, .bool e.torn] 28)) := by (repeat (first | (with_reducible exact Below.refl _ _) | (with_reducible assumption) | (refine Below.setCell ?_ (by first | omega | exact hB.size | exact hb.size | (have h := hB.size; simp; omega) | (have h := hb.size; simp; omega) | (simp; omega) | simp) _) | (refine Below.alloc ?_ (by first | omega | exact hB.size | exact hb.size | (have h := hB.size; simp; omega) | (have h := hb.size; simp; omega) | (simp; omega) | simp) _) | (refine Below.drew ?_)))
  have HC := Lib.hid (impl_StepsFill s e.a A D n m c d _ hn hm (hF.below hB0 (Nat.le_refl _)) (hD.below hB0 (Nat.le_refl _)))
  clear hn hm
  go_enter Try.func73, Try.ntmps73
  go_wp2_with fail
  with_reducible refine HC.out.mono ?_
  rintro r w1 ⟨v, rfl, hO, hb⟩
  go_wp2
  go_ret
  exact ⟨_, rfl, hO.mono (by simp; omega), hB0.trans (hb.mono (by simp; omega))⟩
theorem impl_PlaySteps (s : St) (e : Ev) (A D : Option Addr) (n m c d : Nat) (w : World) (hn : n = s.flash.length) (hm : m = s.disk.length) (hF : Fl w A s.flash) (hD : Row w D (ints s.disk)) :
    Calls Try.prog 24 #[.agg #[.slice A n c, .slice D m d], .agg #[.int .i64 e.kind, .int .i64 e.a, .int .i64 e.b, .int .i64 e.c, .bool e.torn]] w (StepsPost w (okSteps s (stepsOf s e))) := by
  have hmf : ∀ (fn : Fn) (first cap : Array Value) (w : World), (Instr.makeFunc fn first cap).run Try.prog w = .ok (.func fn first cap) w := fun _ _ _ _ => rfl
  have hB0 : Below w.heap.size w ((((w.alloc (.cells #[.slice A n c, .slice D m d] 26)).alloc (.cells #[.int .i64 e.kind, .int .i64 e.a, .int .i64 e.b, .int .i64 e.c, .bool e.torn] 28)).alloc (.cells #[.slice A n c, .slice D m d] 92)).alloc (.cells #[.nilFunc, .func (.func 71) #[.agg #[.slice A n c, .slice D m d]] #[], .func (.func 72) #[.agg #[.slice A n c, .slice D m d]] #[], .func (.func 73) #[.agg #[.slice A n c, .slice D m d]] #[]] 94)) := by (repeat (first | (with_reducible exact Below.refl _ _) | (with_reducible assumption) | (refine Below.setCell ?_ (by first | omega | exact hB.size | exact hb.size | (have h := hB.size; simp; omega) | (have h := hb.size; simp; omega) | (simp; omega) | simp) _) | (refine Below.alloc ?_ (by first | omega | exact hB.size | exact hb.size | (have h := hB.size; simp; omega) | (have h := hb.size; simp; omega) | (simp; omega) | simp) _) | (refine Below.drew ?_)))
  have hF0 : Fl ((((w.alloc (.cells #[.slice A n c, .slice D m d] 26)).alloc (.cells #[.int .i64 e.kind, .int .i64 e.a, .int .i64 e.b, .int .i64 e.c, .bool e.torn] 28)).alloc (.cells #[.slice A n c, .slice D m d] 92)).alloc (.cells #[.nilFunc, .func (.func 71) #[.agg #[.slice A n c, .slice D m d]] #[], .func (.func 72) #[.agg #[.slice A n c, .slice D m d]] #[], .func (.func 73) #[.agg #[.slice A n c, .slice D m d]] #[]] 94)).drew A s.flash := (hF.below hB0 (Nat.le_refl _)).drew'
  have hD0 : Row ((((w.alloc (.cells #[.slice A n c, .slice D m d] 26)).alloc (.cells #[.int .i64 e.kind, .int .i64 e.a, .int .i64 e.b, .int .i64 e.c, .bool e.torn] 28)).alloc (.cells #[.slice A n c, .slice D m d] 92)).alloc (.cells #[.nilFunc, .func (.func 71) #[.agg #[.slice A n c, .slice D m d]] #[], .func (.func 72) #[.agg #[.slice A n c, .slice D m d]] #[], .func (.func 73) #[.agg #[.slice A n c, .slice D m d]] #[]] 94)).drew D (ints s.disk) := (hD.below hB0 (Nat.le_refl _)).drew
  have H1 := Lib.hid (impl_player_put s e A D n m c d _ hn hm hF0 hD0)
  have H2 := Lib.hid (impl_player_flush s e A D n m c d _ hn hm hF0 hD0)
  have H3 := Lib.hid (impl_player_fill s e A D n m c d _ hn hm hF0 hD0)
  clear hn hm hF0 hD0 hF hD
  obtain ⟨k, a, b, ec, t⟩ := e
  dsimp only at *
  by_cases h1 : k = 1
  · subst h1
    have hq : Hid (stepsOf s ⟨1, a, b, ec, t⟩ = wr s.flash 1 a b) := rfl
    go_enter Try.func24, Try.ntmps24
    go_wp2
    go_region_with (first | (go_at_call 71; (with_reducible refine H1.out.mono ?_); rintro r w1 ⟨v, rfl, hO, hb⟩))
    all_goals
      go_wp2
      go_ret
      exact ⟨_, rfl, by rw [hq.out]; exact hO.mono hB0.size, hB0.drew.trans (hb.mono hB0.size)⟩
  by_cases h2 : k = 2
  · subst h2
    have hq : Hid (stepsOf s ⟨2, a, b, ec, t⟩ = flush s a) := rfl
    go_enter Try.func24, Try.ntmps24
    go_wp2
    go_region_with (first | (go_at_call 72; (with_reducible refine H2.out.mono ?_); rintro r w1 ⟨v, rfl, hO, hb⟩))
    all_goals
      go_wp2
      go_ret
      exact ⟨_, rfl, by rw [hq.out]; exact hO.mono hB0.size, hB0.drew.trans (hb.mono hB0.size)⟩
  by_cases h3 : k = 3
  · subst h3
    have hq : Hid (stepsOf s ⟨3, a, b, ec, t⟩ = fill s a) := rfl
    go_enter Try.func24, Try.ntmps24
    go_wp2
    go_region_with (first | (go_at_call 73; (with_reducible refine H3.out.mono ?_); rintro r w1 ⟨v, rfl, hO, hb⟩))
    all_goals
      go_wp2
      go_ret
      exact ⟨_, rfl, by rw [hq.out]; exact hO.mono hB0.size, hB0.drew.trans (hb.mono hB0.size)⟩
  have hq : Hid (okSteps s (stepsOf s ⟨k, a, b, ec, t⟩) = []) := by
    unfold Hid stepsOf okSteps
    dsimp only
    rw [if_neg h1, if_neg h2, if_neg h3]
    split <;> rfl
  have hk : k < 1 ∨ 3 < k := by omega
  rcases hk with hk | hk
  · go_enter Try.func24, Try.ntmps24
    go_wp2
    go_ret
    exact ⟨_, rfl, by rw [hq.out]; exact OwnS.nul _ _, hB0⟩
  · have hk2 : ¬ k < 1 := by omega
    go_enter Try.func24, Try.ntmps24
    go_wp2
    go_ret
    exact ⟨_, rfl, by rw [hq.out]; exact OwnS.nul _ _, hB0⟩
end Go.Proofs.Ytbekihiiildgmaa
open Go.RowKit Go.IntWalk Go.Maps
namespace Go.Proofs.Ytbekihiiildgmaa
set_option linter.unusedVariables false
set_option linter.unusedSimpArgs false
set_option maxHeartbeats 2000000
set_option maxRecDepth 20000
/-- a store in a box -/
def BoxSt (w : World) (lo ob : Nat) (t : St) : Prop :=
  ∃ A c D d hs, w.cell? ⟨ob, 0, none⟩ = some (.slice A 4 c) ∧ w.cell? ⟨ob, 1, none⟩ = some (.slice D 6 d) ∧ w.frozen? ⟨ob, 0, none⟩ = false ∧ w.frozen? ⟨ob, 1, none⟩ = false ∧ Bks w A t.flash hs ∧ (∀ b, fblk A hs b → lo ≤ b ∧ b ≠ ob) ∧ Row w D (ints t.disk) ∧ ∀ b, blk D b → lo ≤ b ∧ b ≠ ob
theorem BoxSt.below {w w' : World} {lo ob B : Nat} {t : St} (h : BoxSt w lo ob t) (hb : Below B w w') (hB : w.heap.size ≤ B) : BoxSt w' lo ob t := by
  obtain ⟨A, c, D, d, hs, o0, o1, f0, f1, hBk, h1, hD, h2⟩ := h
  have hob := lt_of_cell o0
  exact ⟨A, c, D, d, hs, (hb.cell (p := ⟨ob, 0, none⟩) (by show ob < B; omega)).trans o0, (hb.cell (p := ⟨ob, 1, none⟩) (by show ob < B; omega)).trans o1, (hb.frozen (p := ⟨ob, 0, none⟩) (by show ob < B; omega)).trans f0, (hb.frozen (p := ⟨ob, 1, none⟩) (by show ob < B; omega)).trans f1, hBk.below hb hB, h1, hD.below hb hB, h2⟩
theorem BoxSt.alloc {w : World} {lo ob : Nat} {t : St} (h : BoxSt w lo ob t) (o : Obj) : BoxSt (w.alloc o) lo ob t := h.below (B := w.heap.size) ((Below.refl _ _).alloc (Nat.le_refl _) _) (Nat.le_refl _)
theorem BoxSt.put {w w' : World} {lo ob : Nat} {t t' : St} {A D : Option Addr} {c d : Nat} (h : BoxSt w lo ob t) (hF : FlAt w (ob + 1) A t'.flash) (hD : Row w D (ints t'.disk)) (hd : ∀ b, blk D b → ob + 1 ≤ b) (hl : lo ≤ ob) (hw : w' = (w.setCell ⟨ob, 0, none⟩ (.slice A 4 c)).setCell ⟨ob, 1, none⟩ (.slice D 6 d)) : BoxSt w' lo ob t' := by
  obtain ⟨_, _, _, _, _, o0, o1, f0, f1, _⟩ := h
  obtain ⟨hs, hBk, hlo⟩ := hF
  have hW : Wrote w w' ob 0 [.slice A 4 c, .slice D 6 d] := by
    rw [hw]
    exact wrote_setRow ob [.slice A 4 c, .slice D 6 d] 0 w (fun j hj => by
      match j, hj with
      | 0, _ => exact ⟨_, o0⟩
      | 1, _ => exact ⟨_, o1⟩)
  refine ⟨A, c, D, d, hs, hW.new_ 0 _ rfl, hW.new_ 1 _ rfl, (hW.frozen _).trans f0, (hW.frozen _).trans f1, hBk.keep fun b hb hl => hW.block b ?_, fun b hb => (by have := hlo b hb; exact ⟨by omega, by omega⟩), hD.keep fun b hb hl => hW.block b (by have := hd b hb; omega), fun b hb => (by have := hd b hb; exact ⟨by omega, by omega⟩)⟩
  have hf : fblk A hs b := by
    rcases hb with hy | ⟨z, hz, hy⟩
    · exact .inl hy
    · obtain ⟨j, hj⟩ := List.getElem?_of_mem hz
      exact .inr ⟨j, z, hj, hy⟩
  have := hlo b hf
  omega
theorem BoxSt.of {w : World} {lo ob : Nat} {t : St} {A D : Option Addr} {c d : Nat} (o0 : w.cell? ⟨ob, 0, none⟩ = some (.slice A 4 c)) (o1 : w.cell? ⟨ob, 1, none⟩ = some (.slice D 6 d)) (f0 : w.frozen? ⟨ob, 0, none⟩ = false) (f1 : w.frozen? ⟨ob, 1, none⟩ = false) (hF : FlAt w (ob + 1) A t.flash) (hD : Row w D (ints t.disk)) (hd : ∀ b, blk D b → ob + 1 ≤ b) (hl : lo ≤ ob) : BoxSt w lo ob t := by
  obtain ⟨hs, hBk, hlo⟩ := hF
  exact ⟨A, c, D, d, hs, o0, o1, f0, f1, hBk, fun b hb => (by have := hlo b hb; exact ⟨by omega, by omega⟩), hD, fun b hb => (by have := hd b hb; exact ⟨by omega, by omega⟩)⟩
theorem FlAt.keep {w w' : World} {lo : Nat} {A : Option Addr} {f : List Bk} (h : FlAt w lo A f) (hk : ∀ b, lo ≤ b → b < w.heap.size → w'.heap[b]? = w.heap[b]?) : FlAt w' lo A f := by
  obtain ⟨hs, hBk, hlo⟩ := h
  refine ⟨hs, hBk.keep fun b hb hl => hk b (hlo b ?_) hl, hlo⟩
  rcases hb with hy | ⟨z, hz, hy⟩
  · exact .inl hy
  · obtain ⟨j, hj⟩ := List.getElem?_of_mem hz
    exact .inr ⟨j, z, hj, hy⟩
theorem BoxSt.new {w : World} {lo c d : Nat} {A D : Option Addr} {t : St} (hO : OSt w lo w.heap.size A t.flash D t.disk) : BoxSt (w.alloc (.cells #[.slice A 4 c, .slice D 6 d] 26)) lo w.heap.size t := by
  obtain ⟨hs, hBk, hApt, hD, hdb⟩ := hO
  exact ⟨A, c, D, d, hs, by simp, by simp, by simp, by simp, hBk.alloc _, fun b hb => (by have := hApt.fblk hb; exact ⟨by omega, by omega⟩), hD.alloc _, fun b hb => (by have := hdb b hb; exact ⟨this.1, by omega⟩)⟩
/-- a store, and steps: what the play's inner functions answer -/
def PlaysPost (t : St) (w : World) (e : Ending) (w' : World) : Prop :=
  ∃ A c D d v, e = .returned (.tuple #[.agg #[.slice A 4 c, .slice D 6 d], v]) ∧ FlAt w' w.heap.size A t.flash ∧ Row w' D (ints t.disk) ∧ (∀ b, blk D b → w.heap.size ≤ b) ∧ Below w.heap.size w w'
theorem FlAt.below {w w' : World} {lo lo' B : Nat} {A : Option Addr} {f : List Bk} (h : FlAt w lo A f) (hb : Below B w w') (hB : w.heap.size ≤ B) (hl : lo' ≤ lo) : FlAt w' lo' A f := by
  obtain ⟨hs, h1, h2⟩ := h
  exact ⟨hs, h1.below hb hB, fun b hb => Nat.le_trans hl (h2 b hb)⟩
theorem Row.lo {w : World} {A : Option Addr} {vs : List Value} (h : Row w A vs) (hn : vs ≠ []) : ∀ b, blk A b → b < w.heap.size := fun b hb => h.lt hn hb
end Go.Proofs.Ytbekihiiildgmaa
open Go.RowKit Go.IntWalk Go.Maps
namespace Go.Proofs.Ytbekihiiildgmaa
set_option linter.unusedVariables false
set_option linter.unusedSimpArgs false
set_option maxHeartbeats 2000000
set_option maxRecDepth 20000
theorem PlaysPost.more {t : St} {w w' w'' : World} {e : Ending} (h : PlaysPost t w e w') (hb : Below w'.heap.size w' w'') : PlaysPost t w e w'' := by
  obtain ⟨A, c, D, d, v, he, h1, h2, h3, h4⟩ := h
  exact ⟨A, c, D, d, v, he, h1.below hb (Nat.le_refl _) (Nat.le_refl _), h2.below hb (Nat.le_refl _), h3, h4.trans (hb.mono h4.size)⟩
end Go.Proofs.Ytbekihiiildgmaa
open Go.RowKit Go.IntWalk Go.Maps
namespace Go.Proofs.Ytbekihiiildgmaa
set_option linter.unusedVariables false
set_option linter.unusedSimpArgs false
set_option maxHeartbeats 2000000
set_option maxRecDepth 20000
end Go.Proofs.Ytbekihiiildgmaa
open Go.RowKit Go.IntWalk Go.Maps
namespace Go.Proofs.Ytbekihiiildgmaa
set_option linter.unusedVariables false
set_option linter.unusedSimpArgs false
set_option maxHeartbeats 2000000
set_option maxRecDepth 20000
end Go.Proofs.Ytbekihiiildgmaa
open Go.RowKit Go.IntWalk Go.Maps
namespace Go.Proofs.Ytbekihiiildgmaa
set_option linter.unusedVariables false
set_option linter.unusedSimpArgs false
set_option maxHeartbeats 2000000
set_option maxRecDepth 20000
end Go.Proofs.Ytbekihiiildgmaa
namespace Go.Proofs.Ytbekihiiildgmaa
set_option linter.unusedVariables false
set_option linter.unusedSimpArgs false
open Go.RowKit Go.Maps
set_option maxHeartbeats 400000
theorem OwnE.out {w : World} {base : Nat} {v : Value} {xs : List Ev} (h : OwnE w base v xs) : ∃ A c, v = .slice A xs.length c ∧ Row w A (evs xs) ∧ (∀ b, blk A b → base ≤ b ∧ b < w.heap.size) ∧ xs.length ≤ c := by
  have h' := h
  obtain ⟨hl, ⟨hv, hz⟩ | ⟨g, cap, cur, hv, hb, hh, hnc, hm, hs, ht⟩⟩ := h
  · have hxs : xs = [] := List.eq_nil_of_length_eq_zero hz
    subst hxs
    exact ⟨none, 0, hv, Row.nil _ _, (fun b hb => by cases hb), Nat.le_refl _⟩
  · refine ⟨some ⟨g, 0, none⟩, cap, hv, ?_, fun b hb' => ?_, hnc⟩
    · unfold OwnE at h'; rw [hv] at h'; exact Row.of_own h'
    · rw [blk_some] at hb'
      subst hb'
      exact ⟨hb, (Array.getElem?_eq_some_iff.1 hh).1⟩
end Go.Proofs.Ytbekihiiildgmaa
namespace Go.Proofs.Ytbekihiiildgmaa
set_option linter.unusedVariables false
set_option linter.unusedSimpArgs false
open Go.RowKit Go.Maps
set_option maxHeartbeats 400000
def stSmall (s : St) : Prop := flSmall s.flash ∧ s.disk.length ≤ 6
theorem OSt.agr {w w' : World} {lo hi : Nat} {A D : Option Addr} {f : List Bk} {xs : List Int} {S : Nat → Prop} (h : OSt w lo hi A f D xs) (ha : Agr S w w') (hS : ∀ b, lo ≤ b → b < hi → ¬ S b) : OSt w' lo hi A f D xs := h.keep fun b h1 h2 hl => ha.block b hl (hS b h1 h2)
end Go.Proofs.Ytbekihiiildgmaa
namespace Go.Proofs.Ytbekihiiildgmaa
set_option linter.unusedVariables false
set_option linter.unusedSimpArgs false
open Go.RowKit Go.Maps
set_option maxHeartbeats 400000
/-- a store in a box, and what it holds -/
structure Held (W : World) (bx : Nat) (A D : Option Addr) (n c m d : Nat) (s : St) : Prop where
  fl : Fl W A s.flash
  dk : Row W D (ints s.disk)
  x0 : W.cell? ⟨bx, 0, none⟩ = some (.slice A n c)
  x1 : W.cell? ⟨bx, 1, none⟩ = some (.slice D m d)
  hn : n = s.flash.length
  hm : m = s.disk.length
theorem Held.below {W X : World} {bx n c m d B : Nat} {A D : Option Addr} {s : St} (h : Held W bx A D n c m d s) (hb : Below B W X) (hB : W.heap.size ≤ B) : Held X bx A D n c m d s :=
  ⟨h.fl.below hb hB, h.dk.below hb hB, (hb.cell (p := ⟨bx, 0, none⟩) (Nat.lt_of_lt_of_le (lt_of_cell h.x0) hB)).trans h.x0, (hb.cell (p := ⟨bx, 1, none⟩) (Nat.lt_of_lt_of_le (lt_of_cell h.x1) hB)).trans h.x1, h.hn, h.hm⟩
theorem Held.new (w : World) {A D : Option Addr} {n c m d : Nat} {s : St} (hF : Fl w A s.flash) (hD : Row w D (ints s.disk)) (hn : n = s.flash.length) (hm : m = s.disk.length) : Held (w.alloc (.cells #[.slice A n c, .slice D m d] 26)) w.heap.size A D n c m d s :=
  ⟨hF.below ((Below.refl _ _).alloc (Nat.le_refl _) _) (Nat.le_refl _), hD.alloc _, by simp, by simp, hn, hm⟩
theorem Held.drew {W : World} {bx n c m d : Nat} {A D : Option Addr} {s : St} (h : Held W bx A D n c m d s) : Held W.drew bx A D n c m d s := ⟨h.fl.drew', h.dk, h.x0, h.x1, h.hn, h.hm⟩
end Go.Proofs.Ytbekihiiildgmaa
namespace Go.Proofs.Ytbekihiiildgmaa
set_option linter.unusedVariables false
set_option linter.unusedSimpArgs false
open Go.RowKit Go.Maps
set_option maxHeartbeats 400000
/-- .. and that it was done -/
def RunP (t : St) (w : World) (e : Ending) (w' : World) : Prop :=
  ∃ A c D d, e = .returned (.tuple #[.agg #[.slice A 4 c, .slice D 6 d], .bool true]) ∧ FlAt w' w.heap.size A t.flash ∧ Row w' D (ints t.disk) ∧ (∀ b, blk D b → w.heap.size ≤ b) ∧ Below w.heap.size w w'
/-- not done: an empty store -/
def NoP (w : World) (e : Ending) (w' : World) : Prop :=
  ∃ A c D d, e = .returned (.tuple #[.agg #[.slice A 0 c, .slice D 0 d], .bool false]) ∧ Below w.heap.size w w'
theorem ToPost.run {t : St} {w w' : World} {e : Ending} (ht : Okay t) (h : ToPost (t, true) w e w') : RunP t w e w' := by
  obtain ⟨A, c, D, d, rfl, h1, h2, h3, h4⟩ := h
  exact ⟨A, c, D, d, by dsimp only; rw [flashOk_len ht.flash, ht.len], h1, h2, h3, h4⟩
theorem ToPost.no {w w' : World} {e : Ending} (h : ToPost (st0, false) w e w') : NoP w e w' := by
  obtain ⟨A, c, D, d, rfl, h1, h2, h3, h4⟩ := h
  exact ⟨A, c, D, d, rfl, h4⟩
theorem Held.no (w : World) (A D : Option Addr) (c d : Nat) : Held (w.alloc (.cells #[.slice A 0 c, .slice D 0 d] 26)) w.heap.size A D 0 c 0 d st0 :=
  Held.new w (s := st0) ⟨[], rfl, Row.nil _ _, fun i b x h => by simp [st0] at h⟩ (Row.nil _ _) rfl rfl
theorem Held.ok {w : World} {t : St} (ht : Okay t) {A D : Option Addr} (c d : Nat) (hF : Fl w A t.flash) (hD : Row w D (ints t.disk)) : Held (w.alloc (.cells #[.slice A 4 c, .slice D 6 d] 26)) w.heap.size A D 4 c 6 d t :=
  Held.new w hF hD (flashOk_len ht.flash).symm ht.len.symm
/-- a store in a box, put there anew -/
theorem Held.put {W : World} {bx n c m d n' c' m' d' : Nat} {A D A' D' : Option Addr} {s t : St} (h : Held W bx A D n c m d s) (hF : FlAt W (bx + 1) A' t.flash) (hD : Row W D' (ints t.disk)) (hd : ∀ b, blk D' b → bx + 1 ≤ b) (hn : n' = t.flash.length) (hm : m' = t.disk.length) :
    Held ((W.setCell ⟨bx, 0, none⟩ (.slice A' n' c')).setCell ⟨bx, 1, none⟩ (.slice D' m' d')) bx A' D' n' c' m' d' t := by
  have hW : Wrote W ((W.setCell ⟨bx, 0, none⟩ (.slice A' n' c')).setCell ⟨bx, 1, none⟩ (.slice D' m' d')) bx 0 [.slice A' n' c', .slice D' m' d'] := wrote_setRow bx [.slice A' n' c', .slice D' m' d'] 0 W (fun j hj => by
    match j, hj with
    | 0, _ => exact ⟨_, h.x0⟩
    | 1, _ => exact ⟨_, h.x1⟩)
  refine ⟨?_, hD.keep fun b hb hl => hW.block b (by have := hd b hb; omega), hW.new_ 0 _ rfl, hW.new_ 1 _ rfl, hn, hm⟩
  exact (hF.keep (w' := (W.setCell ⟨bx, 0, none⟩ (.slice A' n' c')).setCell ⟨bx, 1, none⟩ (.slice D' m' d')) fun b hb hl => hW.block b (by omega)).fl
theorem FlAt.mono {w : World} {lo lo' : Nat} {A : Option Addr} {f : List Bk} (h : FlAt w lo A f) (hl : lo' ≤ lo) : FlAt w lo' A f := by
  obtain ⟨hs, h1, h2⟩ := h
  exact ⟨hs, h1, fun b hb => Nat.le_trans hl (h2 b hb)⟩
end Go.Proofs.Ytbekihiiildgmaa
namespace Go.Proofs.Ytbekihiiildgmaa
set_option linter.unusedVariables false
set_option linter.unusedSimpArgs false
open Go.RowKit Go.Maps
set_option maxHeartbeats 400000
theorem OwnI.one (w : World) (base : Nat) (x : Int) (hb : base ≤ w.heap.size) : OwnI (w.alloc (.cells #[.int .i64 x] 3)) base (.slice (some ⟨w.heap.size, 0, none⟩) 1 1) [x] := World.ownsRow_lit w #[.int .i64 x] 1 hb (by unfold maxLen; omega) rfl
/-- the events, made whole one by one -/
def wholeTo (es : List Ev) (k : Nat) : List Ev := (es.take k).map wholeEv ++ es.drop k
theorem wholeTo_len (es : List Ev) (k : Nat) : (wholeTo es k).length = es.length := by unfold wholeTo; rw [List.length_append, List.length_map, List.length_take, List.length_drop]; omega
theorem wholeTo_get {es : List Ev} {k : Nat} {x : Ev} (h : es[k]? = some x) : (wholeTo es k)[k]? = some x := by
  have hl := (List.getElem?_eq_some_iff.1 h).1
  unfold wholeTo
  rw [List.getElem?_append_right (by rw [List.length_map, List.length_take]; omega), List.length_map, List.length_take, show k - min k es.length = 0 by omega, List.getElem?_drop]
  exact h
theorem wholeTo_set {es : List Ev} {k : Nat} {x : Ev} (h : es[k]? = some x) : (wholeTo es k).set k (wholeEv x) = wholeTo es (k + 1) := by
  have hl := (List.getElem?_eq_some_iff.1 h).1
  unfold wholeTo
  rw [List.set_append_right _ _ (by rw [List.length_map, List.length_take]; omega), List.length_map, List.length_take, show k - min k es.length = 0 by omega, List.take_add_one, h, drop_cons h]
  simp
theorem evs_whole : ∀ {l : List Ev} {k : Nat} {x : Ev}, l[k]? = some x → evs (l.set k (wholeEv x)) = setL (evs l) (k * 5 + 3) [.int .i64 60, .bool false]
  | [], _, _, h => by simp at h
  | y :: l, 0, x, h => by simp at h; subst h; rfl
  | y :: l, k + 1, x, h => by
    have := evs_whole (l := l) (k := k) (x := x) (by simpa using h)
    show y.vs ++ evs (l.set k (wholeEv x)) = setL (y.vs ++ evs l) ((k + 1) * 5 + 3) _
    rw [this, show (k + 1) * 5 + 3 = y.vs.length + (k * 5 + 3) by simp [Ev.vs]; omega, setL_right]
/-- event k was made whole: two cells written -/
theorem Row.whole {w w' : World} {b k : Nat} {es : List Ev} {x : Ev} (h : Row w (some ⟨b, 0, none⟩) (evs (wholeTo es k))) (hx : es[k]? = some x) (hW : Wrote w w' b (k * 5 + 3) [.int .i64 60, .bool false]) : Row w' (some ⟨b, 0, none⟩) (evs (wholeTo es (k + 1))) := by
  have hl := (List.getElem?_eq_some_iff.1 hx).1
  rw [← wholeTo_set hx, evs_whole (wholeTo_get hx)]
  refine Wrote.row (w := w) (by rw [Nat.zero_add]; exact hW) h ?_
  rw [evs_len, wholeTo_len]
  simp
  omega
end Go.Proofs.Ytbekihiiildgmaa
namespace Go.Proofs.Ytbekihiiildgmaa
set_option linter.unusedVariables false
set_option linter.unusedSimpArgs false
open Go.RowKit Go.Maps
set_option maxHeartbeats 400000
end Go.Proofs.Ytbekihiiildgmaa
open Go.RowKit Go.IntWalk Go.Maps
namespace Go.Proofs.Ytbekihiiildgmaa
set_option linter.unusedVariables false
set_option linter.unusedSimpArgs false
set_option maxHeartbeats 4000000
set_option maxRecDepth 100000
end Go.Proofs.Ytbekihiiildgmaa
namespace Go.Proofs.Ytbekihiiildgmaa
set_option linter.unusedVariables false
set_option linter.unusedSimpArgs false
end Go.Proofs.Ytbekihiiildgmaa
open Go.RowKit Go.IntWalk Go.Maps
namespace Go.Proofs.Ytbekihiiildgmaa
set_option linter.unusedVariables false
set_option linter.unusedSimpArgs false
set_option maxHeartbeats 1000000
set_option maxRecDepth 20000
theorem spec_PlaySteps (s : St) (e : Ev) (A D : Option Addr) (n m c d : Nat) (w : World) (hn : n = s.flash.length) (hm : m = s.disk.length) (hl : s.flash.length < 1000000000000) (hF : Fl w A s.flash) (hD : Row w D (ints s.disk)) :
    Calls Try.prog 25 #[.agg #[.slice A n c, .slice D m d], .agg #[.int .i64 e.kind, .int .i64 e.a, .int .i64 e.b, .int .i64 e.c, .bool e.torn]] w (StepsPost w (okSteps s (stepsOf s e))) := by
  have hB0 : Below w.heap.size w ((w.alloc (.cells #[.slice A n c, .slice D m d] 26)).alloc (.cells #[.int .i64 e.kind, .int .i64 e.a, .int .i64 e.b, .int .i64 e.c, .bool e.torn] 28)) := by (repeat (first | (with_reducible exact Below.refl _ _) | (with_reducible assumption) | (refine Below.setCell ?_ (by first | omega | exact hB.size | exact hb.size | (have h := hB.size; simp; omega) | (have h := hb.size; simp; omega) | (simp; omega) | simp) _) | (refine Below.alloc ?_ (by first | omega | exact hB.size | exact hb.size | (have h := hB.size; simp; omega) | (have h := hb.size; simp; omega) | (simp; omega) | simp) _) | (refine Below.drew ?_)))
  have HSO := Lib.hid (spec_StoreOk s A D n m c d _ hn hm hl (hF.below hB0 (Nat.le_refl _)) (hD.below hB0 (Nat.le_refl _)))
  by_cases hok : storeOk s = true
  · have hfin : Hid (okSteps s (stepsOf s e) = stepsOf s e) := by unfold Hid okSteps; rw [if_pos hok]
    obtain ⟨h4, h6, hfl, hp4, hms⟩ := ok_parts hok
    obtain rfl : n = 4 := by omega
    obtain rfl : m = 6 := by omega
    rw [hok] at HSO
    have H4 := Lib.hid h4
    have H6 := Lib.hid h6
    have HP := Lib.hid hp4
    have HM := Lib.hid hms
    have HF := Lib.hid hF
    have HD := Lib.hid hD
    clear hok h4 h6 hfl hp4 hms hm hn hl hF hD
    go_enter Try.func25, Try.ntmps25
    go_wp2_with fail
    with_reducible refine HSO.out.mono ?_
    rintro r w1 ⟨rfl, hb⟩
    have hB1 : Below w.heap.size w w1 := hB0.trans (hb.mono (by simp; omega))
    have hs1 : w.heap.size + 2 ≤ w1.heap.size := by have := hb.size; simpa using this
    obtain ⟨hcc, hff⟩ := bcell hb
    have x0 : w1.cell? ⟨w.heap.size, 0, none⟩ = some (.slice A 4 c) := (hcc _ _ (by simp <;> omega)).trans (by simp)
    have x1 : w1.cell? ⟨w.heap.size, 1, none⟩ = some (.slice D 6 d) := (hcc _ _ (by simp <;> omega)).trans (by simp)
    have y0 : w1.cell? ⟨w.heap.size + 1, 0, none⟩ = some (.int .i64 e.kind) := (hcc _ _ (by simp)).trans (by simp)
    have y1 : w1.cell? ⟨w.heap.size + 1, 1, none⟩ = some (.int .i64 e.a) := (hcc _ _ (by simp)).trans (by simp)
    have y2 : w1.cell? ⟨w.heap.size + 1, 2, none⟩ = some (.int .i64 e.b) := (hcc _ _ (by simp)).trans (by simp)
    have y3 : w1.cell? ⟨w.heap.size + 1, 3, none⟩ = some (.int .i64 e.c) := (hcc _ _ (by simp)).trans (by simp)
    have y4 : w1.cell? ⟨w.heap.size + 1, 4, none⟩ = some (.bool e.torn) := (hcc _ _ (by simp)).trans (by simp)
    clear hcc hff hb HSO hB0
    go_wp2_with fail
    with_reducible refine (spec_l21Steps s e A D c d w1 H4.out HP.out HM.out H6.out (HF.out.below hB1 (Nat.le_refl _)) (HD.out.below hB1 (Nat.le_refl _))).mono ?_
    rintro r w2 ⟨v, rfl, hO, hb2⟩
    go_wp2
    go_ret
    exact ⟨_, rfl, by rw [hfin.out]; exact hO.mono hB1.size, hB1.trans (hb2.mono hB1.size)⟩
  · have hfin : Hid (okSteps s (stepsOf s e) = []) := by unfold Hid okSteps; rw [if_neg hok]
    rw [show storeOk s = false by simpa using hok] at HSO
    clear hok hn hm hl hF hD
    go_enter Try.func25, Try.ntmps25
    go_wp2_with fail
    with_reducible refine HSO.out.mono ?_
    rintro r w1 ⟨rfl, hb⟩
    have hB1 : Below w.heap.size w w1 := hB0.trans (hb.mono (by simp; omega))
    have hz : w.heap.size ≤ w1.heap.size := hB1.size
    go_wp2
    go_ret
    exact ⟨_, rfl, by rw [hfin.out]; exact OwnS.nil _ _ (by omega), hB1.alloc hB1.size _⟩
end Go.Proofs.Ytbekihiiildgmaa
namespace Go.Proofs.Ytbekihiiildgmaa
set_option linter.unusedVariables false
set_option linter.unusedSimpArgs false
open Go.RowKit Go.Maps
set_option maxHeartbeats 400000
theorem Row.part {w : World} {V : Option Addr} {xs ys : List Value} (h : Row w V (xs ++ ys)) : Row w V xs := fun hn => by
  obtain ⟨b, o, hV, hc⟩ := h (by intro e; exact hn (List.append_eq_nil_iff.1 e).1)
  refine ⟨b, o, hV, fun j u hj => hc j u ?_⟩
  rw [List.getElem?_append_left (List.getElem?_eq_some_iff.1 hj).1]; exact hj
/-- a store in a box that may be written -/
structure HeldF (W : World) (bx : Nat) (A D : Option Addr) (c d : Nat) (s : St) : Prop where
  held : Held W bx A D 4 c 6 d s
  f0 : W.frozen? ⟨bx, 0, none⟩ = false
  f1 : W.frozen? ⟨bx, 1, none⟩ = false
theorem HeldF.below {W X : World} {bx c d B : Nat} {A D : Option Addr} {s : St} (h : HeldF W bx A D c d s) (hb : Below B W X) (hB : W.heap.size ≤ B) : HeldF X bx A D c d s :=
  ⟨h.held.below hb hB, (hb.frozen (p := ⟨bx, 0, none⟩) (Nat.lt_of_lt_of_le (lt_of_cell h.held.x0) hB)).trans h.f0, (hb.frozen (p := ⟨bx, 1, none⟩) (Nat.lt_of_lt_of_le (lt_of_cell h.held.x1) hB)).trans h.f1⟩
theorem HeldF.drew {W : World} {bx c d : Nat} {A D : Option Addr} {s : St} (h : HeldF W bx A D c d s) : HeldF W.drew bx A D c d s := ⟨h.held.drew, h.f0, h.f1⟩
theorem HeldF.new {w : World} {t : St} (ht : Okay t) {A D : Option Addr} (c d : Nat) (hF : Fl w A t.flash) (hD : Row w D (ints t.disk)) : HeldF (w.alloc (.cells #[.slice A 4 c, .slice D 6 d] 26)) w.heap.size A D c d t :=
  ⟨Held.ok ht c d hF hD, by simp, by simp⟩
theorem HeldF.put {W : World} {bx c d c' d' lo : Nat} {A D A' D' : Option Addr} {s t : St} (h : HeldF W bx A D c d s) (ht : Okay t) (hF : FlAt W lo A' t.flash) (hlo : bx < lo) (hD : Row W D' (ints t.disk)) (hd : ∀ b, blk D' b → lo ≤ b) :
    HeldF ((W.setCell ⟨bx, 0, none⟩ (.slice A' 4 c')).setCell ⟨bx, 1, none⟩ (.slice D' 6 d')) bx A' D' c' d' t := by
  have hW : Wrote W ((W.setCell ⟨bx, 0, none⟩ (.slice A' 4 c')).setCell ⟨bx, 1, none⟩ (.slice D' 6 d')) bx 0 [.slice A' 4 c', .slice D' 6 d'] := wrote_setRow bx [.slice A' 4 c', .slice D' 6 d'] 0 W (fun j hj => by
    match j, hj with
    | 0, _ => exact ⟨_, h.held.x0⟩
    | 1, _ => exact ⟨_, h.held.x1⟩)
  exact ⟨h.held.put (hF.mono (by omega)) hD (fun b hb => by have := hd b hb; omega) (flashOk_len ht.flash).symm ht.len.symm, (hW.frozen _).trans h.f0, (hW.frozen _).trans h.f1⟩
end Go.Proofs.Ytbekihiiildgmaa
namespace Go.Proofs.Ytbekihiiildgmaa
set_option linter.unusedVariables false
set_option linter.unusedSimpArgs false
open Go.RowKit Go.Maps
set_option maxHeartbeats 400000
/-- a row of steps handed back -/
def ListP (xs : List Sp) (w : World) (e : Ending) (w' : World) : Prop :=
  ∃ V cs, e = .returned (.slice V xs.length cs) ∧ Row w' V (sps xs) ∧ (∀ b, blk V b → w.heap.size ≤ b ∧ b < w'.heap.size) ∧ xs.length ≤ cs ∧ Below w.heap.size w w'
theorem StepsPost.list {xs ys : List Sp} {w w' : World} {e : Ending} (hx : xs = ys) (h : StepsPost w xs e w') : ListP ys w e w' := by
  subst hx
  obtain ⟨v, rfl, hO, hb⟩ := h
  obtain ⟨V, cs, rfl, hc, hR, hV⟩ := hO.shape'
  exact ⟨V, cs, rfl, hR, hV, hc, hb⟩
theorem Held.fine {w : World} {t : St} (ht : stFine t) {A D : Option Addr} (c d : Nat) (hF : Fl w A t.flash) (hD : Row w D (ints t.disk)) : Held (w.alloc (.cells #[.slice A 4 c, .slice D 6 d] 26)) w.heap.size A D 4 c 6 d t :=
  Held.new w hF hD ht.1.1.symm ht.2.1.symm
theorem impl_PlaySteps_x {s : St} {k a v c' : Int} {t : Bool} {xs : List Sp} (hx : okSteps s (stepsOf s ⟨k, a, v, c', t⟩) = xs) (A D : Option Addr) (n m c d : Nat) (w : World) (hn : n = s.flash.length) (hm : m = s.disk.length) (hF : Fl w A s.flash) (hD : Row w D (ints s.disk)) :
    Calls Try.prog 24 #[.agg #[.slice A n c, .slice D m d], .agg #[.int .i64 k, .int .i64 a, .int .i64 v, .int .i64 c', .bool t]] w (ListP xs w) := (impl_PlaySteps s ⟨k, a, v, c', t⟩ A D n m c d w hn hm hF hD).mono fun _ _ q => StepsPost.list hx q
theorem spec_PlaySteps_x {s : St} {k a v c' : Int} {t : Bool} {xs : List Sp} (hx : okSteps s (stepsOf s ⟨k, a, v, c', t⟩) = xs) (A D : Option Addr) (n m c d : Nat) (w : World) (hn : n = s.flash.length) (hm : m = s.disk.length) (hl : s.flash.length < 1000000000000) (hF : Fl w A s.flash) (hD : Row w D (ints s.disk)) :
    Calls Try.prog 25 #[.agg #[.slice A n c, .slice D m d], .agg #[.int .i64 k, .int .i64 a, .int .i64 v, .int .i64 c', .bool t]] w (ListP xs w) := (spec_PlaySteps s ⟨k, a, v, c', t⟩ A D n m c d w hn hm hl hF hD).mono fun _ _ q => StepsPost.list hx q
end Go.Proofs.Ytbekihiiildgmaa
namespace Go.Proofs.Ytbekihiiildgmaa
set_option linter.unusedVariables false
set_option linter.unusedSimpArgs false
open Go.RowKit Go.Maps
set_option maxHeartbeats 400000
end Go.Proofs.Ytbekihiiildgmaa
namespace Go.Proofs.Ytbekihiiildgmaa
set_option linter.unusedVariables false
set_option linter.unusedSimpArgs false
open Go.RowKit Go.Maps
set_option maxHeartbeats 4000000
set_option maxRecDepth 100000
/-- a store drawn, in blocks of the draw's own -/
def StoreD (w w' : World) (A D : Option Addr) (s : St) : Prop := stSmall s ∧ OSt w' w.heap.size w'.heap.size A s.flash D s.disk ∧ Below w.heap.size w w'
end Go.Proofs.Ytbekihiiildgmaa
namespace Go.Proofs.Ytbekihiiildgmaa
set_option linter.unusedVariables false
set_option linter.unusedSimpArgs false
open Go.RowKit Go.Maps
set_option maxHeartbeats 4000000
set_option maxRecDepth 100000
theorem StoreD.two {w W Y : World} {lo hi : Nat} {A D : Option Addr} {s : St} (hs : stSmall s) (hO : OSt W lo hi A s.flash D s.disk) (hB : Below w.heap.size w W) (hlo : w.heap.size + 2 ≤ lo) (hhi : hi ≤ W.heap.size) (hG : Agr (fun b => b = w.heap.size ∨ b = w.heap.size + 1) W Y) : StoreD w Y A D s :=
  ⟨hs, (hO.agr hG (fun b h1 h2 h3 => by omega)).mono (by omega) (by have := hG.size; omega), hB.trans (hG.below (B := w.heap.size) hB.size (fun i hi => by omega))⟩
theorem Row.ev5 {w : World} {b : Nat} {k a v c : Int} {t : Bool} (h : Row w (some ⟨b, 0, none⟩) [.int .i64 k, .int .i64 a, .int .i64 v, .int .i64 c, .bool t]) :
    (w.cell? ⟨b, 0, none⟩ = some (.int .i64 k) ∧ w.cell? ⟨b, 1, none⟩ = some (.int .i64 a) ∧ w.cell? ⟨b, 2, none⟩ = some (.int .i64 v) ∧ w.cell? ⟨b, 3, none⟩ = some (.int .i64 c) ∧ w.cell? ⟨b, 4, none⟩ = some (.bool t)) ∧ (w.frozen? ⟨b, 0, none⟩ = false ∧ w.frozen? ⟨b, 1, none⟩ = false ∧ w.frozen? ⟨b, 2, none⟩ = false ∧ w.frozen? ⟨b, 3, none⟩ = false ∧ w.frozen? ⟨b, 4, none⟩ = false) :=
  ⟨⟨(h.at0 (j := 0) rfl).1, (h.at0 (j := 1) rfl).1, (h.at0 (j := 2) rfl).1, (h.at0 (j := 3) rfl).1, (h.at0 (j := 4) rfl).1⟩, (h.at0 (j := 0) rfl).2, (h.at0 (j := 1) rfl).2, (h.at0 (j := 2) rfl).2, (h.at0 (j := 3) rfl).2, (h.at0 (j := 4) rfl).2⟩
end Go.Proofs.Ytbekihiiildgmaa
namespace Go.Proofs.Ytbekihiiildgmaa
set_option linter.unusedVariables false
set_option linter.unusedSimpArgs false
open Go.RowKit Go.Maps
set_option maxHeartbeats 4000000
set_option maxRecDepth 100000
theorem okSteps_len {s : St} (e : Ev) : (okSteps s (stepsOf s e)).length ≤ 8 := by
  unfold okSteps
  split
  · rename_i h; exact stepsOf_len (storeOk_iff.1 h).fine e
  · simp
theorem StoreD.one {w W Y : World} {lo hi : Nat} {A D : Option Addr} {s : St} (hs : stSmall s) (hO : OSt W lo hi A s.flash D s.disk) (hB : Below w.heap.size w W) (hlo : w.heap.size + 1 ≤ lo) (hhi : hi ≤ W.heap.size) (hG : Agr (· = w.heap.size) W Y) : StoreD w Y A D s :=
  ⟨hs, (hO.agr hG (fun b h1 h2 h3 => by omega)).mono (by omega) (by have := hG.size; omega), hB.trans (hG.below (B := w.heap.size) hB.size (fun i hi => by omega))⟩
end Go.Proofs.Ytbekihiiildgmaa
namespace Go.Proofs.Ytbekihiiildgmaa
set_option linter.unusedVariables false
set_option linter.unusedSimpArgs false
open Go.RowKit Go.Maps
set_option maxHeartbeats 400000
theorem ints_ne {xs : List Int} (h : xs ≠ []) : ints xs ≠ [] := by
  cases xs with
  | nil => exact absurd rfl h
  | cons p ps => simp [ints]
theorem laws_eqIntS (A A' : Option Addr) (c c' : Nat) (xs ys : List Int) (w : World) (hl : xs.length < 1000000000000) (hl' : ys.length < 1000000000000) (hR : Row w A (ints xs)) (hR' : Row w A' (ints ys)) :
    Calls Try.prog 101 #[.slice A xs.length c, .slice A' ys.length c'] w fun e w' => e = .returned (.bool (decide (xs = ys))) ∧ Below w.heap.size w w' := by
  by_cases hn : xs.length = ys.length
  · have HN := Lib.hid hn
    rw [← hn]
    clear hn hl'
    go_enter Try.func101, Try.ntmps101
    go_wp2
    go_loopw [5] (fun i wr => ∃ (k : Nat), k ≤ xs.length ∧ i = .int .i64 k ∧ Below w.heap.size w wr ∧ Hid (decide (xs = ys) = decide (xs.drop k = ys.drop k))) (fun i _ => xs.length - (intOf i).toNat)
    case atStart => exact ⟨0, by omega, rfl, Below.refl _ _, by simp [Hid]⟩
    case round =>
      obtain ⟨k, hk, rfl, hb, hg⟩ := hrel
      by_cases hlt : k < xs.length
      · obtain ⟨p, hp⟩ := get_some hlt
        obtain ⟨q, hq⟩ := get_some (l := ys) (k := k) (by have := HN.out; omega)
        have hd := Lib.hid (eq_drop hp hq)
        obtain ⟨b, o, rfl⟩ := hR.addr (ints_ne (by rintro rfl; simp at hlt))
        obtain ⟨b', o', rfl⟩ := hR'.addr (ints_ne (by rintro rfl; simp at hq))
        have hRk := hR.below hb (Nat.le_refl _)
        have hRk' := hR'.below hb (Nat.le_refl _)
        obtain ⟨c0, c1⟩ := hRk.int_ hp
        obtain ⟨d0, d1⟩ := hRk'.int_ hq
        have hk1 : (k : Int) < xs.length := by omega
        clear hp hq
        go_wp2
        go_region
        go_wp2
        · have hne : (!decide (p = q)) = true := by assumption
          have hne' : decide (p = q) = false := by simpa using hne
          go_ret
          exact ⟨ret_bool (by rw [hg.out, hd.out, hne']; rfl), hb.drew⟩
        · have heq : (!decide (p = q)) = false := by assumption
          have heq' : decide (p = q) = true := by simpa using heq
          go_roundw
          case rel => exact ⟨k + 1, by omega, by go_num, hb.drew, by rw [Hid, hg.out, hd.out, heq', Bool.true_and]⟩
          case measure => simp [intOf]; omega
      · obtain rfl : k = xs.length := by omega
        go_wp2
        go_ret
        exact ⟨ret_bool (by rw [hg.out, List.drop_of_length_le (Nat.le_refl _), List.drop_of_length_le (by have := HN.out; omega)]; rfl), hb⟩
  · have hne : ¬ xs = ys := fun e => hn (by rw [e])
    have hi : ¬ (xs.length : Int) = ys.length := by omega
    go_enter Try.func101, Try.ntmps101
    go_wp2
    all_goals go_ret
    all_goals exact ⟨ret_bool (by simp [hne]), Below.refl _ _⟩
def markIs : Int → List Int → List Int
  | _, [] => []
  | k, _ :: xs => k :: markIs (k + 1) xs
theorem markIs_len : ∀ (xs : List Int) (k : Int), (markIs k xs).length = xs.length
  | [], _ => rfl
  | _ :: xs, k => by simp [markIs, markIs_len xs]
theorem markIs_at : ∀ (xs : List Int) (k : Int) (j : Nat) , j < xs.length → (markIs k xs)[j]? = some (k + j)
  | [], _, _, h => by simp at h
  | q :: xs, k, 0, h => by simp [markIs]
  | q :: xs, k, j + 1, h => by
    rw [markIs, List.getElem?_cons_succ, markIs_at xs _ j (by simpa using h), show k + 1 + (j : Int) = k + ((j + 1 : Nat) : Int) by omega]
theorem markIs_step (xs : List Int) (k : Int) (j : Nat) (h : j < xs.length) : ((markIs k xs).take j ++ xs.drop j).set j (k + j) = (markIs k xs).take (j + 1) ++ xs.drop (j + 1) := by
  have hl := markIs_len xs k
  rw [List.set_append_right _ _ (by simp; omega), show j - ((markIs k xs).take j).length = 0 by simp; omega, List.drop_eq_getElem_cons h, List.set_cons_zero, List.take_add_one, markIs_at xs k j h]
  simp
theorem Row.setInt {w w' : World} {b o k : Nat} {xs : List Int} {x : Int} (h : Row w (some ⟨b, o, none⟩) (ints xs)) (hk : k < xs.length) (hw : Wrote w w' b (o + k) [.int .i64 x]) : Row w' (some ⟨b, o, none⟩) (ints (xs.set k x)) := by
  rw [ints_set]
  exact hw.row h (by rw [ints_len]; simp; omega)
theorem laws_markIntS (A : Option Addr) (n c : Nat) (xs : List Int) (k : Int) (w : World) (hn : n = xs.length) (hl : n < 1000000000000) (h0 : 0 ≤ k) (h1 : k < 1000000000000000) (hR : Row w A (ints xs)) :
    Calls Try.prog 104 #[.slice A n c, .int .i64 k] w fun e w' => e = .returned (.int .i64 (k + n)) ∧ Row w' A (ints (markIs k xs)) ∧ Agr (blk A) w w' := by
  have HN := Lib.hid hn
  clear hn
  go_enter Try.func104, Try.ntmps104
  go_wp2
  go_loopw [1, 5] (fun q i wr => ∃ (j : Nat), j ≤ n ∧ i = .int .i64 j ∧ q = .int .i64 (k + j) ∧ Row wr A (ints ((markIs k xs).take j ++ xs.drop j)) ∧ Agr (blk A) w wr) (fun _ i _ => n - (intOf i).toNat)
  case atStart => exact ⟨0, by omega, rfl, by simp, by simpa using hR, Agr.refl _ _⟩
  case round =>
    obtain ⟨j, hj, rfl, rfl, hr, hA⟩ := hrel
    have hml := Lib.hid (markIs_len xs k)
    by_cases hlt : j < n
    · have hlx := Lib.hid (show j < xs.length by have := HN.out; omega)
      obtain ⟨b, o, rfl⟩ := hR.addr (ints_ne (by rintro rfl; have := hlx.out; simp at this))
      obtain ⟨q, hq⟩ := get_some (l := (markIs k xs).take j ++ xs.drop j) (k := j) (by have := hml.out; have := hlx.out; simp; omega)
      obtain ⟨c0, f0⟩ := hr.int_ hq
      have hW := wrote_one c0 (.int .i64 (k + j))
      have hr2 := hr.setInt (k := j) (x := k + j) (by have := hml.out; have := hlx.out; simp; omega) hW
      rw [markIs_step xs k j hlx.out] at hr2
      have hA2 := hA.trans hW.agr (fun _ _ e => by rw [e]; exact blk_some.2 rfl)
      have hj1 : (j : Int) < n := by omega
      clear hW hq
      go_wp2
      go_roundw
      case rel => exact ⟨j + 1, by omega, by go_num, by congr 1; omega, hr2, hA2⟩
      case measure => simp [intOf]; omega
    · obtain rfl : j = n := by omega
      go_wp2
      go_ret
      rw [List.take_of_length_le (by rw [hml.out, HN.out]; exact Nat.le_refl _), List.drop_of_length_le (by rw [HN.out]; exact Nat.le_refl _), List.append_nil] at hr
      exact ⟨rfl, hr, hA⟩
theorem Fl.drew {w : World} {A : Option Addr} {f : List Bk} (h : Fl w A f) : Fl w.drew A f := by obtain ⟨hs, h⟩ := h; exact ⟨hs, h.drew⟩
theorem laws_eqStore (A A' D D' : Option Addr) (n n' m m' c c' d d' : Nat) (f g : List Bk) (xs ys : List Int) (w : World) (hn : n = f.length) (hn' : n' = g.length) (hm : m = xs.length) (hm' : m' = ys.length) (hl : f.length < 1000000000000) (hl' : g.length < 1000000000000) (hp : ∀ b ∈ f, b.pages.length < 1000000000000) (hp' : ∀ b ∈ g, b.pages.length < 1000000000000)
    (hx : xs.length < 1000000000000) (hy : ys.length < 1000000000000) (hF : Fl w A f) (hF' : Fl w A' g) (hR : Row w D (ints xs)) (hR' : Row w D' (ints ys)) :
    Calls Try.prog 49 #[.agg #[.slice A n c, .slice D m d], .agg #[.slice A' n' c', .slice D' m' d']] w fun e w' => e = .returned (.bool (decide (f = g) && decide (xs = ys))) ∧ Below w.heap.size w w' := by
  subst hn; subst hn'; subst hm; subst hm'
  have HP := Lib.hid hp
  have HP' := Lib.hid hp'
  clear hp hp'
  go_enter Try.func49, Try.ntmps49
  go_wp2_with fail
  refine (laws_eqBlockS A A' c c' f g _ hl hl' HP.out HP'.out ((hF.alloc _).alloc _) ((hF'.alloc _).alloc _)).mono ?_
  rintro e w1 ⟨rfl, hb⟩
  obtain ⟨hc, hf⟩ := bcell hb
  have hz : w.heap.size + 1 + 1 ≤ w1.heap.size := by have := hb.size; simpa using this
  have hB : Below w.heap.size w w1 := Below.trans (by (repeat (first | (with_reducible exact Below.refl _ _) | (with_reducible assumption) | (refine Below.setCell ?_ (by first | omega | exact hB.size | exact hb.size | (have h := hB.size; simp; omega) | (have h := hb.size; simp; omega) | (simp; omega) | simp) _) | (refine Below.alloc ?_ (by first | omega | exact hB.size | exact hb.size | (have h := hB.size; simp; omega) | (have h := hb.size; simp; omega) | (simp; omega) | simp) _) | (refine Below.drew ?_)))) (hb.mono (by simp; omega))
  clear hb
  by_cases h1 : f = g
  · rw [show decide (f = g) = true from by simp [h1]]
    go_wp2_with fail
    refine (laws_eqIntS D D' d d' xs ys _ hx hy (hR.below hB (Nat.le_refl _)) (hR'.below hB (Nat.le_refl _))).mono ?_
    rintro e w2 ⟨rfl, hb2⟩
    by_cases h2 : xs = ys
    · rw [show decide (xs = ys) = true from by simp [h2]]
      go_wp2
      go_ret
      exact ⟨ret_bool (by simp [h1, h2]), hB.trans (hb2.mono (by omega))⟩
    · rw [show decide (xs = ys) = false from by simp [h2]]
      go_wp2
      go_ret
      exact ⟨ret_bool (by simp [h2]), hB.trans (hb2.mono (by omega))⟩
  · rw [show decide (f = g) = false from by simp [h1]]
    go_wp2
    go_ret
    exact ⟨ret_bool (by simp [h1]), hB⟩
theorem laws_markStore (A D : Option Addr) (n m c d : Nat) (f : List Bk) (xs : List Int) (k : Int) (lo hi : Nat) (w : World) (hn : n = f.length) (hm : m = xs.length) (hl : f.length < 1000000000000) (hp : ∀ b ∈ f, b.pages.length < 1000000000000) (hx : xs.length < 1000000000000) (h0 : 0 ≤ k) (h1 : endFl k f + m < 1000000000000000) (hlh : hi ≤ w.heap.size) (hO : OSt w lo hi A f D xs) :
    Calls Try.prog 51 #[.agg #[.slice A n c, .slice D m d], .int .i64 k] w fun e w' => e = .returned (.int .i64 (endFl k f + m)) ∧ OSt w' lo hi A (markFl k f) D (markIs (endFl k f) xs) ∧ Agr (fun b => lo ≤ b ∧ b < hi) w w' := by
  subst hn; subst hm
  have HP := Lib.hid hp
  have hO1 := hO.below (B := w.heap.size) ((Below.refl _ _).alloc (Nat.le_refl _) (.cells #[.slice A f.length c, .slice D xs.length d] 26)) (Nat.le_refl _)
  obtain ⟨hs, hBk, hApt, hR, hd⟩ := hO1
  have HD := Lib.hid hd
  have hge := endFl_ge f k
  clear hp hO hd
  go_enter Try.func51, Try.ntmps51
  go_wp2_with fail
  refine (laws_markBlockS' A _ c f hs k lo hi _ rfl hl HP.out h0 (by omega) hBk hApt).mono ?_
  rintro e w1 ⟨rfl, hBk1, hA1⟩
  have hAA : Agr (fun b => lo ≤ b ∧ b < hi) w w1 := ((Agr.refl _ w).alloc _).trans hA1 (fun b hl hS => by
    rcases hS with h | ⟨i, x, hx, h⟩
    · exact hApt.top b h
    · have := hApt.in_ i x b hx h; exact ⟨this.1, this.2.1⟩)
  have hcc : ∀ i, w1.cell? ⟨w.heap.size, i, none⟩ = (w.alloc (.cells #[.slice A f.length c, .slice D xs.length d] 26)).cell? ⟨w.heap.size, i, none⟩ := fun i => hA1.cell (by simp) (fun hS => by
    rcases hS with h | ⟨i, x, hx, h⟩
    · have := hApt.top _ h; omega
    · have := hApt.in_ i x _ hx h; omega) i
  have hc1 : w1.cell? ⟨w.heap.size, 1, none⟩ = some (.slice D xs.length d) := (hcc 1).trans (by simp)
  have hR1 := hR.agr hA1 (fun b hb hS => by
    rcases hS with h | ⟨i, x, hx, h⟩
    · exact (HD.out b hb).2.2.1 h
    · exact (HD.out b hb).2.2.2 i x hx h)
  have hg0 : 0 ≤ endFl k f := by omega
  clear hA1 hcc
  go_wp2_with fail
  refine (laws_markIntS D _ d xs _ _ rfl (by omega) (by omega) (by omega) hR1).mono ?_
  rintro e w2 ⟨rfl, hR2, hA2⟩
  go_wp2
  go_ret
  refine ⟨rfl, ⟨hs, hBk1.keep fun b hb hl => hA2.block b hl fun hd => ?_, hApt, hR2, HD.out⟩, hAA.trans hA2 fun b hl hd => ⟨(HD.out b hd).1, (HD.out b hd).2.1⟩⟩
  rcases hb with hb | ⟨x, hx, hb⟩
  · exact (HD.out b hd).2.2.1 hb
  · obtain ⟨i, hi'⟩ := List.getElem?_of_mem hx
    exact (HD.out b hd).2.2.2 i x hi' hb
end Go.Proofs.Ytbekihiiildgmaa
namespace Go.Proofs.Ytbekihiiildgmaa
set_option linter.unusedVariables false
set_option linter.unusedSimpArgs false
open Go.RowKit Go.Maps
set_option maxHeartbeats 400000
theorem laws_toRec (r : Rc) (w : World) : Calls Try.prog 144 #[.agg #[.int .i64 r.kind, .int .i64 r.seq, .int .i64 r.addr, .int .i64 r.val]] w fun e w' => e = .returned (.agg #[.int .i64 r.kind, .int .i64 r.seq, .int .i64 r.addr, .int .i64 r.val]) ∧ Below w.heap.size w w' := by
  obtain ⟨k, q, a, v⟩ := r
  dsimp only
  go_enter Try.func144, Try.ntmps144
  go_wp2
  refine bodyPost_ret (v := .agg #[.int .i64 k, .int .i64 q, .int .i64 a, .int .i64 v]) (by simp [results, Try.results144, go_sem]) rfl ⟨rfl, ?_⟩
  (repeat (first | (with_reducible exact Below.refl _ _) | (with_reducible assumption) | (refine Below.setCell ?_ (by first | omega | exact hB.size | exact hb.size | (have h := hB.size; simp; omega) | (have h := hb.size; simp; omega) | (simp; omega) | simp) _) | (refine Below.alloc ?_ (by first | omega | exact hB.size | exact hb.size | (have h := hB.size; simp; omega) | (have h := hb.size; simp; omega) | (simp; omega) | simp) _) | (refine Below.drew ?_)))
theorem laws_toPage (p : Pg) (w : World) : Calls Try.prog 165 #[.agg #[.int .i64 p.state, .int .i64 p.rc.kind, .int .i64 p.rc.seq, .int .i64 p.rc.addr, .int .i64 p.rc.val]] w fun e w' => e = .returned (.agg #[.int .i64 p.state, .int .i64 p.rc.kind, .int .i64 p.rc.seq, .int .i64 p.rc.addr, .int .i64 p.rc.val]) ∧ Below w.heap.size w w' := by
  obtain ⟨st, ⟨k, q, a, v⟩⟩ := p
  dsimp only
  go_enter Try.func165, Try.ntmps165
  go_wp2_with fail
  refine (laws_toRec ⟨k, q, a, v⟩ _).mono ?_
  rintro e w1 ⟨rfl, hb⟩
  obtain ⟨hc, hf⟩ := bcell hb
  have hz : w.heap.size + 1 + 1 < w1.heap.size := by have := hb.size; simp at this; omega
  have hB : Below w.heap.size w w1 := Below.trans (by (repeat (first | (with_reducible exact Below.refl _ _) | (with_reducible assumption) | (refine Below.setCell ?_ (by first | omega | exact hB.size | exact hb.size | (have h := hB.size; simp; omega) | (have h := hb.size; simp; omega) | (simp; omega) | simp) _) | (refine Below.alloc ?_ (by first | omega | exact hB.size | exact hb.size | (have h := hB.size; simp; omega) | (have h := hb.size; simp; omega) | (simp; omega) | simp) _) | (refine Below.drew ?_)))) (hb.mono (by simp; omega))
  clear hb
  go_wp2
  refine bodyPost_ret (v := .agg #[.int .i64 st, .int .i64 k, .int .i64 q, .int .i64 a, .int .i64 v]) (by simp [results, Try.results165, go_sem, hc, hz]) rfl ⟨rfl, ?_⟩
  (repeat (first | (with_reducible exact Below.refl _ _) | (with_reducible assumption) | (refine Below.setCell ?_ (by first | omega | exact hB.size | exact hb.size | (have h := hB.size; simp; omega) | (have h := hb.size; simp; omega) | (simp; omega) | simp) _) | (refine Below.alloc ?_ (by first | omega | exact hB.size | exact hb.size | (have h := hB.size; simp; omega) | (have h := hb.size; simp; omega) | (simp; omega) | simp) _) | (refine Below.drew ?_)))
theorem laws_toPageS (A : Option Addr) (c : Nat) (ps : List Pg) (w : World) (hl : ps.length ≤ 1048576) (hR : RRow w A (pgs ps)) :
    Calls Try.prog 161 #[.slice A ps.length c] w fun e w' => ∃ g, e = .returned (.slice (some ⟨g, 0, none⟩) ps.length ps.length) ∧ w.heap.size ≤ g ∧ g < w'.heap.size ∧ Row w' (some ⟨g, 0, none⟩) (pgs ps) ∧ Below w.heap.size w w' := by
  obtain ⟨ip, hip, hpz0, hpz1, hpz2⟩ := info_parts Try.info3_page
  have hmk := fun W => run_make_n (P := Try.prog) 135 119 ip _ 5 40 Try.underlying135 hip hpz0 hpz1 hpz2 ps.length (by omega) (by omega) W
  have hnew : Row (w.alloc (.cells (madeCells #[.int .i64 0, .int .i64 0, .int .i64 0, .int .i64 0, .int .i64 0] (ps.length * 5)) 119)) (some ⟨w.heap.size, 0, none⟩) (pgs (List.replicate ps.length pg0)) := by
    have := Row.new w (madeCells #[.int .i64 0, .int .i64 0, .int .i64 0, .int .i64 0, .int .i64 0] (ps.length * 5)) 119
    rw [made_list Pg.vs pg0 #[.int .i64 0, .int .i64 0, .int .i64 0, .int .i64 0, .int .i64 0] 5 rfl rfl (by simp) ps.length] at this
    exact this
  have hB0 : Below w.heap.size w (w.alloc (.cells (madeCells #[.int .i64 0, .int .i64 0, .int .i64 0, .int .i64 0, .int .i64 0] (ps.length * 5)) 119)) := (Below.refl _ _).alloc (Nat.le_refl _) _
  have hmkw := hmk w
  have hsz : (w.alloc (.cells (madeCells #[.int .i64 0, .int .i64 0, .int .i64 0, .int .i64 0, .int .i64 0] (ps.length * 5)) 119)).heap.size = w.heap.size + 1 := by simp
  simp only [Value.cells] at hmkw
  generalize w.alloc (.cells (madeCells #[.int .i64 0, .int .i64 0, .int .i64 0, .int .i64 0, .int .i64 0] (ps.length * 5)) 119) = W at *
  have hszW : w.heap.size < W.heap.size := by omega
  clear hmk hsz
  go_enter Try.func161, Try.ntmps161
  go_wp2
  go_loopw [4] (fun i wr => ∃ k : Nat, k ≤ ps.length ∧ i = .int .i64 k ∧ Below w.heap.size w wr ∧ w.heap.size < wr.heap.size ∧ Row wr (some ⟨w.heap.size, 0, none⟩) (pgs (ps.take k ++ (List.replicate ps.length pg0).drop k))) (fun i _ => ps.length - (intOf i).toNat)
  case atStart => exact ⟨0, by omega, rfl, hB0, hszW, by simpa using hnew⟩
  case round =>
    clear hnew hB0 hszW hmkw
    obtain ⟨k, hk, rfl, hb, hsz, hr⟩ := hrel
    by_cases hlt : k < ps.length
    · obtain ⟨p, hp⟩ := get_some hlt
      obtain ⟨b, o, rfl⟩ := hR.addr (pgs_ne (by rintro rfl; simp at hlt))
      obtain ⟨c0, c1, c2, c3, c4⟩ := (hR.below hb (Nat.le_refl _)).pg hp
      have hget : (ps.take k ++ (List.replicate ps.length pg0).drop k)[k]? = some pg0 := by
        rw [List.getElem?_append_right (by simp; omega), List.getElem?_drop, List.getElem?_replicate, if_pos (by simp; omega)]
      have hk1 : (k : Int) < ps.length := by omega
      have HP := Lib.hid hp
      have HG := Lib.hid hget
      clear hp hget
      go_wp2_with fail
      refine (laws_toPage p _).mono ?_
      rintro e w1 ⟨rfl, hb1⟩
      have hr1 := hr.below hb1 (Nat.le_refl _)
      obtain ⟨d0, d1, d2, d3, d4⟩ := hr1.pg HG.out
      obtain ⟨f0, f1, f2, f3, f4⟩ := hr1.pgf HG.out
      have hWp := wrote_page hr1 HG.out p
      have hr2 := hr1.setPage (k := k) (by simp; omega) hWp
      rw [copy_step pg0 ps ps.length k p HP.out rfl] at hr2
      have hB1 := hb.trans (hb1.mono hb.size)
      have hB2 := hB1.trans (hWp.agr.below (B := w.heap.size) hB1.size (fun i e => by rw [e]; exact Nat.le_refl _))
      have hs1 := hb1.size
      have HS := Lib.hid hWp.size
      have hs2 : w.heap.size < w1.heap.size := by omega
      simp only [Nat.zero_add] at d0 d1 d2 d3 d4 f0 f1 f2 f3 f4 hr2 hB2 HS
      clear hWp hr1 hb1 c0 c1 c2 c3 c4
      go_wp2
      go_roundw
      case rel => exact ⟨k + 1, by omega, by go_num, hB2, by rw [HS.out]; exact hs2, hr2⟩
      case measure => simp [intOf]; omega
    · obtain rfl : k = ps.length := by omega
      go_wp2
      go_ret
      refine ⟨w.heap.size, rfl, Nat.le_refl _, hsz, ?_, hb⟩
      rw [List.take_of_length_le (Nat.le_refl _), List.drop_of_length_le (by simp), List.append_nil] at hr
      exact hr
end Go.Proofs.Ytbekihiiildgmaa
namespace Go.Proofs.Ytbekihiiildgmaa
set_option linter.unusedVariables false
set_option linter.unusedSimpArgs false
open Go.RowKit Go.Maps
set_option maxHeartbeats 400000
theorem laws_toBlock (A : Option Addr) (c : Nat) (b : Bk) (w : World) (hl : b.pages.length ≤ 1048576) (hR : RRow w A (pgs b.pages)) :
    Calls Try.prog 143 #[.agg #[.slice A b.pages.length c, .int .i64 b.worn]] w fun e w' => ∃ g, e = .returned (.agg #[.slice (some ⟨g, 0, none⟩) b.pages.length b.pages.length, .int .i64 b.worn]) ∧ w.heap.size ≤ g ∧ g < w'.heap.size ∧ Row w' (some ⟨g, 0, none⟩) (pgs b.pages) ∧ Below w.heap.size w w' := by
  obtain ⟨ps, n⟩ := b
  dsimp only at *
  go_enter Try.func143, Try.ntmps143
  go_wp2_with fail
  refine (laws_toPageS A c ps _ hl (((hR.alloc _).alloc _).alloc _)).mono ?_
  rintro e w1 ⟨g, rfl, h1, h2, h3, hb⟩
  obtain ⟨hc, hf⟩ := bcell hb
  have hz : w.heap.size + 1 + 1 < w1.heap.size := by have := hb.size; simp at this; omega
  have hB : Below w.heap.size w w1 := Below.trans (by (repeat (first | (with_reducible exact Below.refl _ _) | (with_reducible assumption) | (refine Below.setCell ?_ (by first | omega | exact hB.size | exact hb.size | (have h := hB.size; simp; omega) | (have h := hb.size; simp; omega) | (simp; omega) | simp) _) | (refine Below.alloc ?_ (by first | omega | exact hB.size | exact hb.size | (have h := hB.size; simp; omega) | (have h := hb.size; simp; omega) | (simp; omega) | simp) _) | (refine Below.drew ?_)))) (hb.mono (by simp; omega))
  simp only [World.size_alloc] at h1
  clear hb
  go_wp2
  refine bodyPost_ret (v := .agg #[.slice (some ⟨g, 0, none⟩) ps.length ps.length, .int .i64 n]) (by simp [results, Try.results143, go_sem, hc, hz]) rfl ⟨g, rfl, by omega, by simpa using h2, ?_, ?_⟩
  · refine h3.keep fun d hd hl => ?_
    rw [blk_some] at hd
    subst hd
    repeat (first | rfl | (refine (Below.heap_setCell _ _ _ _ (by simp; omega)).trans ?_))
  · (repeat (first | (with_reducible exact Below.refl _ _) | (with_reducible assumption) | (refine Below.setCell ?_ (by first | omega | exact hB.size | exact hb.size | (have h := hB.size; simp; omega) | (have h := hb.size; simp; omega) | (simp; omega) | simp) _) | (refine Below.alloc ?_ (by first | omega | exact hB.size | exact hb.size | (have h := hB.size; simp; omega) | (have h := hb.size; simp; omega) | (simp; omega) | simp) _) | (refine Below.drew ?_)))
set_option maxHeartbeats 1000000 in
theorem laws_toBlockS (A : Option Addr) (c : Nat) (f : List Bk) (hs : List (Option Addr × Nat)) (w : World) (hl : f.length ≤ 1048576) (hp : ∀ b ∈ f, b.pages.length ≤ 1048576) (hF : RBks w A f hs) :
    Calls Try.prog 97 #[.slice A f.length c] w fun e w' => ∃ g, e = .returned (.slice (some ⟨g, 0, none⟩) f.length f.length) ∧ OFl w' w.heap.size w'.heap.size (some ⟨g, 0, none⟩) f ∧ Below w.heap.size w w' := by
  obtain ⟨ib, hib, hbz0, hbz1, hbz2⟩ := info_parts Try.info3_block
  have hmk := fun W => run_make_n (P := Try.prog) 23 137 ib _ 2 32 Try.underlying23 hib hbz0 hbz1 hbz2 f.length (by omega) (by omega) W
  have hnew : Bks (w.alloc (.cells (madeCells #[.slice none 0 0, .int .i64 0] (f.length * 2)) 137)) (some ⟨w.heap.size, 0, none⟩) (List.replicate f.length zbk) (List.replicate f.length (none, 0)) := by
    refine Bks.new w f.length _ _ ?_
    rw [made_list (fun _ : Unit => [Value.slice none 0 0, .int .i64 0]) () #[.slice none 0 0, .int .i64 0] 2 rfl rfl (by simp) f.length, hdrs_rep]
  have hB0 : Below w.heap.size w (w.alloc (.cells (madeCells #[.slice none 0 0, .int .i64 0] (f.length * 2)) 137)) := (Below.refl _ _).alloc (Nat.le_refl _) _
  have hmkw := hmk w
  have hsz : (w.alloc (.cells (madeCells #[.slice none 0 0, .int .i64 0] (f.length * 2)) 137)).heap.size = w.heap.size + 1 := by simp
  simp only [Value.cells] at hmkw
  generalize w.alloc (.cells (madeCells #[.slice none 0 0, .int .i64 0] (f.length * 2)) 137) = W at *
  have hszW : w.heap.size < W.heap.size := by omega
  have hA0 : Apt w.heap.size W.heap.size (some ⟨w.heap.size, 0, none⟩) (List.replicate f.length ((none : Option Addr), 0)) := (Apt.new _ _).mono (Nat.le_refl _) (by omega)
  have HP := Lib.hid hp
  clear hmk hsz hp
  go_enter Try.func97, Try.ntmps97
  go_wp2
  go_loopw [4] (fun i wr => ∃ (k : Nat) (ks : List (Option Addr × Nat)), k ≤ f.length ∧ i = .int .i64 k ∧ Below w.heap.size w wr ∧ w.heap.size < wr.heap.size ∧ Bks wr (some ⟨w.heap.size, 0, none⟩) (f.take k ++ (List.replicate f.length zbk).drop k) ks ∧ Apt w.heap.size wr.heap.size (some ⟨w.heap.size, 0, none⟩) ks) (fun i _ => f.length - (intOf i).toNat)
  case atStart => exact ⟨0, _, by omega, rfl, hB0, hszW, by simpa using hnew, hA0⟩
  case round =>
    clear hnew hB0 hszW hmkw hA0
    obtain ⟨k, ks, hk, rfl, hb, hsz, hBk, hApt⟩ := hrel
    by_cases hlt : k < f.length
    · obtain ⟨B, hB⟩ := get_some hlt
      have hBl := HP.out B (List.mem_of_getElem? hB)
      obtain ⟨bk, off, rfl⟩ := hF.addr (by rintro rfl; simp at hlt)
      obtain ⟨⟨Ap, cp⟩, _, c0, c1, hRp⟩ := (hF.below hb (Nat.le_refl _)).at_ hB
      have hget : (f.take k ++ (List.replicate f.length zbk).drop k)[k]? = some zbk := by
        rw [List.getElem?_append_right (by simp; omega), List.getElem?_drop, List.getElem?_replicate, if_pos (by simp; omega)]
      have hk1 : (k : Int) < f.length := by omega
      have HBB := Lib.hid hB
      have HG := Lib.hid hget
      obtain ⟨Ps, wn⟩ := B
      dsimp only at *
      clear hB hget
      go_wp2_with fail
      refine (laws_toBlock Ap cp ⟨Ps, wn⟩ _ hBl hRp).mono ?_
      rintro e w1 ⟨b, rfl, h1, h2, h3, h4⟩
      have hBk1 := hBk.below h4 (Nat.le_refl _)
      obtain ⟨_, _, z0, z1, z2, z3, _, _⟩ := hBk1.at_ HG.out
      have hW := wrote_hdr hBk1 HG.out (.slice (some ⟨b, 0, none⟩) Ps.length Ps.length) (.int .i64 wn)
      obtain ⟨hO, hb5⟩ : _ ∧ _ := ⟨hBk1.setBlock (i := k) (x := (some ⟨b, 0, none⟩, Ps.length)) (c := ⟨Ps, wn⟩) (by simp; omega) (fun j y hy e => (hApt.in_ j y _ hy e).2.2 rfl) (by rw [blk_some]; omega) h3 (Nat.le_refl _) hW, hW.agr⟩
      rw [copy_step zbk f f.length k _ HBB.out rfl] at hO
      have hApt2 := hApt.set (hi' := w1.heap.size) k (some ⟨b, 0, none⟩, Ps.length) (fun d hd => by rw [blk_some] at hd; subst hd; exact ⟨by omega, h2⟩) (by omega) (by omega)
      have hB2 : Below w.heap.size w w1 := hb.trans (h4.mono hb.size)
      have hB3 := hB2.trans (hb5.below (B := w.heap.size) hB2.size (fun i e => by rw [e]; exact Nat.le_refl _))
      have hs4 : w.heap.size < w1.heap.size := by omega
      have HS3 := Lib.hid hW.size
      simp only [Nat.zero_add] at z0 z1 z2 z3 hO hB3 HS3
      clear hW hB2 hBk1 hb5 hBk h4 c0 c1
      go_wp2
      go_roundw
      case rel => exact ⟨k + 1, _, by omega, by go_num, hB3, by rw [HS3.out]; exact hs4, hO, by rw [HS3.out]; exact hApt2⟩
      case measure => simp [intOf]; omega
    · obtain rfl : k = f.length := by omega
      go_wp2
      go_ret
      rw [List.take_of_length_le (Nat.le_refl _), List.drop_of_length_le (by simp), List.append_nil] at hBk
      exact ⟨w.heap.size, rfl, ⟨ks, hBk, hApt⟩, hb⟩

/-- a count goes down, -1 if below nought -/
def down (left : Int) (n : Nat) : Int := if left - n < 0 then -1 else left - n
def szGo : Int → List Bk → Int
  | left, [] => left
  | left, b :: f => if down left b.pages.length < 0 then -1 else szGo (down left b.pages.length) f
def szFl (left : Int) (f : List Bk) : Int := if left - f.length < 0 then -1 else szGo (left - f.length) f
theorem szGo_small : ∀ (f : List Bk) (left : Int), 0 ≤ szGo left f → left ≤ 1048576 → ∀ b ∈ f, b.pages.length ≤ 1048576
  | [], _, _, _ => by simp
  | b :: f, left, h, hl => by
    unfold szGo at h
    by_cases h1 : down left b.pages.length < 0
    · rw [if_pos h1] at h; omega
    · rw [if_neg h1] at h
      have hd : down left b.pages.length = left - b.pages.length := by
        unfold down at h1 ⊢
        by_cases h2 : left - (b.pages.length : Int) < 0
        · rw [if_pos h2] at h1; omega
        · rw [if_neg h2]
      have ih := szGo_small f _ h (by omega)
      intro c hc
      rcases List.mem_cons.1 hc with rfl | hc
      · omega
      · exact ih c hc
theorem szFl_small {f : List Bk} (h : 0 ≤ szFl 1048576 f) : f.length ≤ 1048576 ∧ ∀ b ∈ f, b.pages.length ≤ 1048576 := by
  unfold szFl at h
  by_cases h0 : (1048576 : Int) - f.length < 0
  · rw [if_pos h0] at h; omega
  · rw [if_neg h0] at h
    exact ⟨by omega, szGo_small f _ h (by omega)⟩
theorem laws_szPageS (A : Option Addr) (n c : Nat) (left : Int) (w : World) (h1 : -1 ≤ left) (h2 : left ≤ 1048576) (hn : n ≤ 9223372036854775807) :
    Calls Try.prog 160 #[.slice A n c, .int .i64 left] w fun e w' => e = .returned (.int .i64 (down left n)) ∧ w = w' := by
  go_enter Try.func160, Try.ntmps160
  go_wp2
  all_goals (go_ret; exact ⟨ret_int (by unfold down; first | rw [if_pos (by omega)] | rw [if_neg (by omega)]), rfl⟩)
theorem laws_szBlock (A : Option Addr) (n c : Nat) (worn left : Int) (w : World) (h1 : -1 ≤ left) (h2 : left ≤ 1048576) (hn : n ≤ 9223372036854775807) :
    Calls Try.prog 142 #[.agg #[.slice A n c, .int .i64 worn], .int .i64 left] w fun e w' => e = .returned (.int .i64 (down left n)) ∧ Below w.heap.size w w' := by
  have hd : -1 ≤ down left n := by unfold down; split <;> omega
  go_enter Try.func142, Try.ntmps142
  go_wp2_with (go_at_call 160; refine (laws_szPageS A n c left _ h1 h2 hn).mono ?_; rintro e w1 ⟨rfl, rfl⟩)
  all_goals (go_ret; exact ⟨ret_int (by omega), (Below.refl _ _).alloc (Nat.le_refl _) _⟩)
theorem laws_szBlockS (A : Option Addr) (c : Nat) (f : List Bk) (hs : List (Option Addr × Nat)) (left : Int) (w : World) (h1 : 0 ≤ left) (h2 : left ≤ 1048576) (hn : f.length ≤ 9223372036854775807) (hp : ∀ b ∈ f, b.pages.length ≤ 9223372036854775807) (hF : RBks w A f hs) :
    Calls Try.prog 95 #[.slice A f.length c, .int .i64 left] w fun e w' => e = .returned (.int .i64 (szFl left f)) ∧ Below w.heap.size w w' := by
  have HP := Lib.hid hp
  clear hp
  by_cases h0 : left - f.length < 0
  · have hfin : Hid (szFl left f = -1) := by unfold Hid szFl; rw [if_pos h0]
    go_enter Try.func95, Try.ntmps95
    go_wp2
    go_ret
    exact ⟨ret_int hfin.out.symm, Below.refl _ _⟩
  · have hfin : Hid (szFl left f = szGo (left - f.length) f) := by unfold Hid szFl; rw [if_neg h0]
    go_enter Try.func95, Try.ntmps95
    go_wp2
    go_loopw [1, 5] (fun l i wr => ∃ (k : Nat) (m : Int), k ≤ f.length ∧ i = .int .i64 k ∧ l = .int .i64 m ∧ 0 ≤ m ∧ m ≤ 1048576 ∧ Below w.heap.size w wr ∧ Hid (szFl left f = szGo m (f.drop k))) (fun _ i _ => f.length - (intOf i).toNat)
    case atStart => exact ⟨0, _, by omega, rfl, rfl, by omega, by omega, Below.refl _ _, hfin.out⟩
    case round =>
      obtain ⟨k, m, hk, rfl, rfl, hm0, hm1, hb, hg⟩ := hrel
      by_cases hlt : k < f.length
      · obtain ⟨B, hB⟩ := get_some hlt
        have hBl := HP.out B (List.mem_of_getElem? hB)
        obtain ⟨bk, off, rfl⟩ := hF.addr (by rintro rfl; simp at hlt)
        obtain ⟨⟨Ap, cp⟩, _, c0, c1, _⟩ := (hF.below hb (Nat.le_refl _)).at_ hB
        have hd := Lib.hid (drop_cons hB)
        have hk1 : (k : Int) < f.length := by omega
        obtain ⟨Ps, wn⟩ := B
        dsimp only at *
        clear hB
        have hd1 : down m Ps.length ≤ 1048576 := by unfold down; split <;> omega
        go_wp2_with fail
        refine (laws_szBlock Ap Ps.length cp wn m _ (by omega) (by omega) hBl).mono ?_
        rintro e w1 ⟨rfl, hb1⟩
        have hB1 := hb.trans (hb1.mono hb.size)
        by_cases hn : down m Ps.length < 0
        · have hstep : Hid (szFl left f = -1) := by rw [Hid, hg.out, hd.out, szGo, if_pos hn]
          clear hg hd
          go_wp2
          go_ret
          exact ⟨ret_int hstep.out.symm, hB1⟩
        · have hstep : Hid (szFl left f = szGo (down m Ps.length) (f.drop (k + 1))) := by rw [Hid, hg.out, hd.out, szGo, if_neg hn]
          clear hg hd
          go_wp2
          go_roundw
          case rel => exact ⟨k + 1, _, by omega, by go_num, rfl, by omega, hd1, hB1, hstep⟩
          case measure => simp [intOf]; omega
      · obtain rfl : k = f.length := by omega
        go_wp2
        go_ret
        exact ⟨ret_int (by rw [hg.out, List.drop_of_length_le (Nat.le_refl _)]; rfl), hb⟩
end Go.Proofs.Ytbekihiiildgmaa
namespace Go.Proofs.Ytbekihiiildgmaa
set_option linter.unusedVariables false
set_option linter.unusedSimpArgs false
open Go.RowKit Go.Maps
set_option maxHeartbeats 400000
/-- no more blocks than may be, and no more pages in one -/
def Small (f : List Bk) : Prop := f.length ≤ 1048576 ∧ ∀ b ∈ f, b.pages.length ≤ 1048576
theorem Small.len {f : List Bk} (h : Small f) : f.length < 1000000000000 := by have := h.1; omega
theorem Small.pages {f : List Bk} (h : Small f) : ∀ b ∈ f, b.pages.length < 1000000000000 := fun b hb => by have := h.2 b hb; omega
theorem Small.end {f : List Bk} (h : Small f) : endFl 1 f < 1000000000000000 := by
  have h1 := endFl_le 1048576 f 1 (fun b hb => by have := h.2 b hb; omega)
  have h2 := h.1
  omega
end Go.Proofs.Ytbekihiiildgmaa
namespace Go.Proofs.Ytbekihiiildgmaa
set_option linter.unusedVariables false
set_option linter.unusedSimpArgs false
open Go.RowKit Go.Maps
set_option maxHeartbeats 4000000
set_option maxRecDepth 20000
theorem sps_set : ∀ (ps : List Sp) (k : Nat) (p : Sp), k < ps.length → sps (ps.set k p) = setL (sps ps) (k * 8) p.vs
  | [], _, _, h => by simp at h
  | q :: ps, 0, p, _ => by simp [sps, Sp.vs, setL]
  | q :: ps, k + 1, p, h => by
    have := sps_set ps k p (by simpa using h)
    simp only [List.set_cons_succ]
    show q.vs ++ sps (ps.set k p) = setL (q.vs ++ sps ps) ((k + 1) * 8) p.vs
    rw [this, show (k + 1) * 8 = q.vs.length + k * 8 by simp [Sp.vs]; omega, setL_right]
theorem sps_ne' {ps : List Sp} (h : ps ≠ []) : sps ps ≠ [] := by
  intro e
  have := sps_len ps
  rw [e] at this
  cases ps with
  | nil => exact h rfl
  | cons p ps => simp at this
theorem Row.spf {w : World} {b o k : Nat} {ps : List Sp} {p : Sp} (h : Row w (some ⟨b, o, none⟩) (sps ps)) (hk : ps[k]? = some p) :
    w.frozen? ⟨b, o + k * 8, none⟩ = false ∧ w.frozen? ⟨b, o + k * 8 + 1, none⟩ = false ∧ w.frozen? ⟨b, o + k * 8 + 2, none⟩ = false ∧ w.frozen? ⟨b, o + k * 8 + 3, none⟩ = false ∧
      w.frozen? ⟨b, o + k * 8 + 4, none⟩ = false ∧ w.frozen? ⟨b, o + k * 8 + 5, none⟩ = false ∧ w.frozen? ⟨b, o + k * 8 + 6, none⟩ = false ∧ w.frozen? ⟨b, o + k * 8 + 7, none⟩ = false := by
  have hlt := (List.getElem?_eq_some_iff.1 hk).1
  obtain ⟨b', o', he, hc⟩ := h (by intro e; have := sps_len ps; rw [e] at this; simp at this; omega)
  cases he
  have hg : ∀ j u, p.vs[j]? = some u → j < 8 → w.frozen? ⟨b, o + (k * 8 + j), none⟩ = false := fun j u hj hl => (hc (k * 8 + j) u (by rw [sps, flat_get _ 8 (fun _ => rfl) ps k j p hk hl]; exact hj)).2
  exact ⟨hg 0 _ rfl (by omega), hg 1 _ rfl (by omega), hg 2 _ rfl (by omega), hg 3 _ rfl (by omega), hg 4 _ rfl (by omega), hg 5 _ rfl (by omega), hg 6 _ rfl (by omega), hg 7 _ rfl (by omega)⟩
theorem wrote_sp {w : World} {b o k : Nat} {ps : List Sp} {q : Sp} (h : Row w (some ⟨b, o, none⟩) (sps ps)) (hk : ps[k]? = some q) (p : Sp) :
    Wrote w ((((((((w.setCell ⟨b, o + k * 8, none⟩ (.int .i64 p.kind)).setCell ⟨b, o + k * 8 + 1, none⟩ (.int .i64 p.addr)).setCell ⟨b, o + k * 8 + 2, none⟩ (.int .i64 p.val)).setCell ⟨b, o + k * 8 + 3, none⟩ (.int .i64 p.block)).setCell ⟨b, o + k * 8 + 4, none⟩ (.int .i64 p.rc.kind)).setCell ⟨b, o + k * 8 + 5, none⟩ (.int .i64 p.rc.seq)).setCell ⟨b, o + k * 8 + 6, none⟩ (.int .i64 p.rc.addr)).setCell ⟨b, o + k * 8 + 7, none⟩ (.int .i64 p.rc.val)) b (o + k * 8) p.vs := by
  refine wrote_setRow b p.vs (o + k * 8) w fun j hj => ?_
  obtain ⟨c0, c1, c2, c3, c4, c5, c6, c7⟩ := h.sp hk
  match j, hj with
  | 0, _ => exact ⟨_, c0⟩
  | 1, _ => exact ⟨_, c1⟩
  | 2, _ => exact ⟨_, c2⟩
  | 3, _ => exact ⟨_, c3⟩
  | 4, _ => exact ⟨_, c4⟩
  | 5, _ => exact ⟨_, c5⟩
  | 6, _ => exact ⟨_, c6⟩
  | 7, _ => exact ⟨_, c7⟩
theorem Row.setSp {w w' : World} {b o k : Nat} {ps : List Sp} {p : Sp} (h : Row w (some ⟨b, o, none⟩) (sps ps)) (hk : k < ps.length) (hw : Wrote w w' b (o + k * 8) p.vs) : Row w' (some ⟨b, o, none⟩) (sps (ps.set k p)) := by
  rw [sps_set ps k p hk]
  exact hw.row h (by rw [sps_len]; simp [Sp.vs]; omega)
def mkSp (k : Int) : Sp := ⟨k, k + 1, k + 1 + 1, k + 1 + 1 + 1, ⟨k + 1 + 1 + 1 + 1, k + 1 + 1 + 1 + 1 + 1, k + 1 + 1 + 1 + 1 + 1 + 1, k + 1 + 1 + 1 + 1 + 1 + 1 + 1⟩⟩
def markSs : Int → List Sp → List Sp
  | _, [] => []
  | k, _ :: ss => mkSp k :: markSs (k + 8) ss
theorem markSs_len : ∀ (ss : List Sp) (k : Int), (markSs k ss).length = ss.length
  | [], _ => rfl
  | _ :: ss, k => by simp [markSs, markSs_len ss]
theorem markSs_at : ∀ (ss : List Sp) (k : Int) (j : Nat), j < ss.length → (markSs k ss)[j]? = some (mkSp (k + 8 * j))
  | [], _, _, h => by simp at h
  | q :: ss, k, 0, _ => by simp [markSs]
  | q :: ss, k, j + 1, h => by
    rw [markSs, List.getElem?_cons_succ, markSs_at ss _ j (by simpa using h), show k + 8 + 8 * (j : Int) = k + 8 * ((j + 1 : Nat) : Int) by omega]
theorem markSs_step (ss : List Sp) (k : Int) (j : Nat) (h : j < ss.length) : ((markSs k ss).take j ++ ss.drop j).set j (mkSp (k + 8 * j)) = (markSs k ss).take (j + 1) ++ ss.drop (j + 1) := by
  have hl := markSs_len ss k
  rw [List.set_append_right _ _ (by simp; omega), show j - ((markSs k ss).take j).length = 0 by simp; omega, List.drop_eq_getElem_cons h, List.set_cons_zero, List.take_add_one, markSs_at ss k j h]
  simp
theorem laws_markStepS (A : Option Addr) (n c : Nat) (ss : List Sp) (k : Int) (w : World) (hn : n = ss.length) (hl : n < 1000000000000) (h0 : 0 ≤ k) (h1 : k < 1000000000000000) (hR : Row w A (sps ss)) :
    Calls Try.prog 52 #[.slice A n c, .int .i64 k] w fun e w' => e = .returned (.int .i64 (k + 8 * n)) ∧ Row w' A (sps (markSs k ss)) ∧ Agr (blk A) w w' := by
  have HN := Lib.hid hn
  clear hn
  go_enter Try.func52, Try.ntmps52
  go_wp2
  go_loopw [1, 5] (fun q i wr => ∃ (j : Nat), j ≤ n ∧ i = .int .i64 j ∧ q = .int .i64 (k + 8 * j) ∧ Row wr A (sps ((markSs k ss).take j ++ ss.drop j)) ∧ Agr (blk A) w wr) (fun _ i _ => n - (intOf i).toNat)
  case atStart => exact ⟨0, by omega, rfl, by simp, by simpa using hR, Agr.refl _ _⟩
  case round =>
    obtain ⟨j, hj, rfl, rfl, hr, hA⟩ := hrel
    have hml := Lib.hid (markSs_len ss k)
    by_cases hlt : j < n
    · have hlx := Lib.hid (show j < ss.length by have := HN.out; omega)
      obtain ⟨b, o, rfl⟩ := hR.addr (sps_ne' (by rintro rfl; have := hlx.out; simp at this))
      obtain ⟨q, hq⟩ := get_some (l := (markSs k ss).take j ++ ss.drop j) (k := j) (by have := hml.out; have := hlx.out; simp; omega)
      obtain ⟨c0, c1, c2, c3, c4, c5, c6, c7⟩ := hr.sp hq
      obtain ⟨f0, f1, f2, f3, f4, f5, f6, f7⟩ := hr.spf hq
      have hW := wrote_sp hr hq (mkSp (k + 8 * j))
      have hr2 := hr.setSp (k := j) (by have := hml.out; have := hlx.out; simp; omega) hW
      rw [markSs_step ss k j hlx.out] at hr2
      have hA2 := hA.trans hW.agr (fun _ _ e => by rw [e]; exact blk_some.2 rfl)
      unfold mkSp at hr2 hA2
      dsimp only at hr2 hA2
      have hj1 : (j : Int) < n := by omega
      clear hW hq
      go_wp2
      go_roundw
      case rel => exact ⟨j + 1, by omega, by go_num, by congr 1; omega, hr2, hA2⟩
      case measure => simp [intOf]; omega
    · obtain rfl : j = n := by omega
      go_wp2
      go_ret
      rw [List.take_of_length_le (by rw [hml.out, HN.out]; exact Nat.le_refl _), List.drop_of_length_le (by rw [HN.out]; exact Nat.le_refl _), List.append_nil] at hr
      exact ⟨rfl, hr, hA⟩
theorem laws_heldStepS (A : Option Addr) (n c : Nat) (ss : List Sp) (k : Int) (w : World) (hn : n = ss.length) (hl : n < 1000000000000) (h0 : 0 ≤ k) (h1 : k < 1000000000000000) (hR : Row w A (sps (markSs k ss))) :
    Calls Try.prog 55 #[.slice A n c, .int .i64 k] w fun e w' => e = .returned (.int .i64 (k + 8 * n)) ∧ w = w' := by
  have HN := Lib.hid hn
  clear hn
  go_enter Try.func55, Try.ntmps55
  go_wp2
  go_loop [1, 5] (fun q i => ∃ (j : Nat), j ≤ n ∧ i = .int .i64 j ∧ q = .int .i64 (k + 8 * j)) (fun _ i => n - (intOf i).toNat)
  case atStart => exact ⟨0, by omega, rfl, by simp⟩
  case round =>
    obtain ⟨j, hj, rfl, rfl⟩ := hrel
    by_cases hlt : j < n
    · have hq := markSs_at ss k j (by have := HN.out; omega)
      obtain ⟨b, o, rfl⟩ := hR.addr (sps_ne' (by intro e; rw [e] at hq; simp at hq))
      obtain ⟨c0, c1, c2, c3, c4, c5, c6, c7⟩ := hR.sp hq
      unfold mkSp at c0 c1 c2 c3 c4 c5 c6 c7
      dsimp only at c0 c1 c2 c3 c4 c5 c6 c7
      have hj1 : (j : Int) < n := by omega
      clear hq
      go_wp2
      go_round
      case rel => exact ⟨j + 1, by omega, by go_num, by congr 1; omega⟩
      case measure => simp [intOf]; omega
    · obtain rfl : j = n := by omega
      go_wp2
      go_ret
      exact ⟨rfl, rfl⟩
end Go.Proofs.Ytbekihiiildgmaa
namespace Go.Proofs.Ytbekihiiildgmaa
set_option linter.unusedVariables false
set_option linter.unusedSimpArgs false
open Go.RowKit Go.Maps
set_option maxHeartbeats 4000000
set_option maxRecDepth 20000
theorem laws_eqStep (p q : Sp) (w : World) : Calls Try.prog 102 #[.agg #[.int .i64 p.kind, .int .i64 p.addr, .int .i64 p.val, .int .i64 p.block, .int .i64 p.rc.kind, .int .i64 p.rc.seq, .int .i64 p.rc.addr, .int .i64 p.rc.val], .agg #[.int .i64 q.kind, .int .i64 q.addr, .int .i64 q.val, .int .i64 q.block, .int .i64 q.rc.kind, .int .i64 q.rc.seq, .int .i64 q.rc.addr, .int .i64 q.rc.val]] w
    fun e w' => e = .returned (.bool (decide (p = q))) ∧ Below w.heap.size w w' := by
  obtain ⟨k, a, v, b, r⟩ := p
  obtain ⟨k', a', v', b', s⟩ := q
  dsimp only
  by_cases hk : k = k' ∧ a = a' ∧ v = v' ∧ b = b'
  · obtain ⟨rfl, rfl, rfl, rfl⟩ := hk
    have hq : Hid (decide ((⟨k, a, v, b, r⟩ : Sp) = ⟨k, a, v, b, s⟩) = decide (r = s)) := by unfold Hid; simp
    go_enter Try.func102, Try.ntmps102
    go_wp2_with (go_at_call 146; refine (laws_eqRec r s _).mono ?_; rintro e w1 ⟨rfl, hb⟩)
    all_goals (go_ret; exact ⟨ret_bool (by rw [hq.out]; simp_all), (((Below.refl _ _).alloc (Nat.le_refl _) _).alloc (by simp) _).trans (hb.mono (by simp; omega))⟩)
  · have hq : Hid (decide ((⟨k, a, v, b, r⟩ : Sp) = ⟨k', a', v', b', s⟩) = false) := by unfold Hid; simp; intro h1 h2 h3 h4; exact absurd ⟨h1, h2, h3, h4⟩ hk
    by_cases h1 : k = k'
    · by_cases h2 : a = a'
      · by_cases h3 : v = v'
        · have h4 : ¬ b = b' := fun h => hk ⟨h1, h2, h3, h⟩
          clear hk
          go_enter Try.func102, Try.ntmps102
          go_wp2
          go_ret
          exact ⟨ret_bool hq.out.symm, ((Below.refl _ _).alloc (Nat.le_refl _) _).alloc (by simp) _⟩
        · clear hk
          go_enter Try.func102, Try.ntmps102
          go_wp2
          go_ret
          exact ⟨ret_bool hq.out.symm, ((Below.refl _ _).alloc (Nat.le_refl _) _).alloc (by simp) _⟩
      · clear hk
        go_enter Try.func102, Try.ntmps102
        go_wp2
        go_ret
        exact ⟨ret_bool hq.out.symm, ((Below.refl _ _).alloc (Nat.le_refl _) _).alloc (by simp) _⟩
    · clear hk
      go_enter Try.func102, Try.ntmps102
      go_wp2
      go_ret
      exact ⟨ret_bool hq.out.symm, ((Below.refl _ _).alloc (Nat.le_refl _) _).alloc (by simp) _⟩
theorem laws_eqStepS (A A' : Option Addr) (n n' c c' : Nat) (ps qs : List Sp) (w : World) (hn0 : n = ps.length) (hn1 : n' = qs.length) (hl : ps.length < 1000000000000) (hl' : qs.length < 1000000000000) (hR : Row w A (sps ps)) (hR' : Row w A' (sps qs)) :
    Calls Try.prog 50 #[.slice A n c, .slice A' n' c'] w fun e w' => e = .returned (.bool (decide (ps = qs))) ∧ Below w.heap.size w w' := by
  subst hn0; subst hn1
  by_cases hn : ps.length = qs.length
  · have HN := Lib.hid hn
    rw [← hn]
    clear hn hl'
    go_enter Try.func50, Try.ntmps50
    go_wp2
    go_loopw [5] (fun i wr => ∃ (k : Nat), k ≤ ps.length ∧ i = .int .i64 k ∧ Below w.heap.size w wr ∧ Hid (decide (ps = qs) = decide (ps.drop k = qs.drop k))) (fun i _ => ps.length - (intOf i).toNat)
    case atStart => exact ⟨0, by omega, rfl, Below.refl _ _, by simp [Hid]⟩
    case round =>
      obtain ⟨k, hk, rfl, hb, hg⟩ := hrel
      by_cases hlt : k < ps.length
      · obtain ⟨p, hp⟩ := get_some hlt
        obtain ⟨q, hq⟩ := get_some (l := qs) (k := k) (by have := HN.out; omega)
        have hd := Lib.hid (eq_drop hp hq)
        obtain ⟨b, o, rfl⟩ := hR.addr (sps_ne' (by rintro rfl; simp at hlt))
        obtain ⟨b', o', rfl⟩ := hR'.addr (sps_ne' (by rintro rfl; simp at hq))
        have hRk := hR.below hb (Nat.le_refl _)
        have hRk' := hR'.below hb (Nat.le_refl _)
        obtain ⟨c0, c1, c2, c3, c4, c5, c6, c7⟩ := hRk.sp hp
        obtain ⟨d0, d1, d2, d3, d4, d5, d6, d7⟩ := hRk'.sp hq
        have hk1 : (k : Int) < ps.length := by omega
        have HP := Lib.hid hp
        have HQ := Lib.hid hq
        clear hp hq
        go_wp2
        go_region_held3 (fun w' => w'.cell? ⟨b, o + k * 8, none⟩ = some (.int .i64 p.kind) ∧ w'.cell? ⟨b, o + k * 8 + 1, none⟩ = some (.int .i64 p.addr) ∧ w'.cell? ⟨b, o + k * 8 + 2, none⟩ = some (.int .i64 p.val) ∧ w'.cell? ⟨b, o + k * 8 + 3, none⟩ = some (.int .i64 p.block) ∧ w'.cell? ⟨b, o + k * 8 + 4, none⟩ = some (.int .i64 p.rc.kind) ∧ w'.cell? ⟨b, o + k * 8 + 5, none⟩ = some (.int .i64 p.rc.seq) ∧ w'.cell? ⟨b, o + k * 8 + 6, none⟩ = some (.int .i64 p.rc.addr) ∧ w'.cell? ⟨b, o + k * 8 + 7, none⟩ = some (.int .i64 p.rc.val) ∧
            w'.cell? ⟨b', o' + k * 8, none⟩ = some (.int .i64 q.kind) ∧ w'.cell? ⟨b', o' + k * 8 + 1, none⟩ = some (.int .i64 q.addr) ∧ w'.cell? ⟨b', o' + k * 8 + 2, none⟩ = some (.int .i64 q.val) ∧ w'.cell? ⟨b', o' + k * 8 + 3, none⟩ = some (.int .i64 q.block) ∧ w'.cell? ⟨b', o' + k * 8 + 4, none⟩ = some (.int .i64 q.rc.kind) ∧ w'.cell? ⟨b', o' + k * 8 + 5, none⟩ = some (.int .i64 q.rc.seq) ∧ w'.cell? ⟨b', o' + k * 8 + 6, none⟩ = some (.int .i64 q.rc.addr) ∧ w'.cell? ⟨b', o' + k * 8 + 7, none⟩ = some (.int .i64 q.rc.val))
          (first | go_keep | trivial)
          (first | (go_at_call 102; refine (laws_eqStep p q _).mono ?_; rintro e w1 ⟨rfl, hb1⟩; replace hb1 := undrew hb1; obtain ⟨e0, e1, e2, e3, e4, e5, e6, e7⟩ := (hRk.below hb1 (Nat.le_refl _)).sp HP.out; obtain ⟨g0, g1, g2, g3, g4, g5, g6, g7⟩ := (hRk'.below hb1 (Nat.le_refl _)).sp HQ.out))
        have hB1 := hb.trans (hb1.mono hb.size)
        go_wp2
        · have hne : (!decide (p = q)) = true := by assumption
          have hne' : decide (p = q) = false := by simpa using hne
          go_ret
          exact ⟨ret_bool (by rw [hg.out, hd.out, hne']; rfl), hB1⟩
        · have heq : (!decide (p = q)) = false := by assumption
          have heq' : decide (p = q) = true := by simpa using heq
          go_roundw
          case rel => exact ⟨k + 1, by omega, by go_num, hB1, by rw [Hid, hg.out, hd.out, heq', Bool.true_and]⟩
          case measure => simp [intOf]; omega
      · obtain rfl : k = ps.length := by omega
        go_wp2
        go_ret
        exact ⟨ret_bool (by rw [hg.out, List.drop_of_length_le (Nat.le_refl _), List.drop_of_length_le (by have := HN.out; omega)]; rfl), hb⟩
  · have hq : Hid (decide (ps = qs) = false) := by unfold Hid; simp; intro e; exact hn (by rw [e])
    go_enter Try.func50, Try.ntmps50
    go_wp2
    go_ret
    exact ⟨ret_bool hq.out.symm, Below.refl _ _⟩
theorem laws_szIntS (A : Option Addr) (n c : Nat) (left : Int) (w : World) (h1 : -1 ≤ left) (h2 : left ≤ 1048576) (hn : n ≤ 9223372036854775807) :
    Calls Try.prog 96 #[.slice A n c, .int .i64 left] w fun e w' => e = .returned (.int .i64 (down left n)) ∧ w = w' := by
  go_enter Try.func96, Try.ntmps96
  go_wp2
  all_goals (go_ret; exact ⟨ret_int (by unfold down; first | rw [if_pos (by omega)] | rw [if_neg (by omega)]), rfl⟩)
theorem laws_toEvent (k a v c : Int) (t : Bool) (w : World) : Calls Try.prog 54 #[.agg #[.int .i64 k, .int .i64 a, .int .i64 v, .int .i64 c, .bool t]] w fun e w' => e = .returned (.agg #[.int .i64 k, .int .i64 a, .int .i64 v, .int .i64 c, .bool t]) ∧ Below w.heap.size w w' := by
  go_enter Try.func54, Try.ntmps54
  go_wp2
  refine bodyPost_ret (v := .agg #[.int .i64 k, .int .i64 a, .int .i64 v, .int .i64 c, .bool t]) (by simp [results, Try.results54, go_sem]) rfl ⟨rfl, ?_⟩
  (repeat (first | (with_reducible exact Below.refl _ _) | (with_reducible assumption) | (refine Below.setCell ?_ (by first | omega | exact hB.size | exact hb.size | (have h := hB.size; simp; omega) | (have h := hb.size; simp; omega) | (simp; omega) | simp) _) | (refine Below.alloc ?_ (by first | omega | exact hB.size | exact hb.size | (have h := hB.size; simp; omega) | (have h := hb.size; simp; omega) | (simp; omega) | simp) _) | (refine Below.drew ?_)))
theorem laws_toIntS (A : Option Addr) (c : Nat) (xs : List Int) (w : World) (hl : xs.length ≤ 1048576) (hR : RRow w A (ints xs)) :
    Calls Try.prog 98 #[.slice A xs.length c] w fun e w' => ∃ g, e = .returned (.slice (some ⟨g, 0, none⟩) xs.length xs.length) ∧ w.heap.size ≤ g ∧ g < w'.heap.size ∧ Row w' (some ⟨g, 0, none⟩) (ints xs) ∧ Below w.heap.size w w' := by
  obtain ⟨ip, hip, hpz0, hpz1, hpz2⟩ := info_parts (show (Try.prog.info? 3).map (fun i => (i.zero, i.size, i.bytes)) = some (some (.int .i64 0), 1, 8) by kernel_rfl)
  have hmk := fun W => run_make_n (P := Try.prog) 24 3 ip _ 1 8 Try.underlying24 hip hpz0 hpz1 hpz2 xs.length (by omega) (by omega) W
  have hnew : Row (w.alloc (.cells (madeCells #[.int .i64 0] (xs.length * 1)) 3)) (some ⟨w.heap.size, 0, none⟩) (ints (List.replicate xs.length 0)) := by
    have := Row.new w (madeCells #[.int .i64 0] (xs.length * 1)) 3
    rw [made_list (fun x : Int => [Value.int .i64 x]) 0 #[.int .i64 0] 1 rfl rfl (by simp) xs.length] at this
    rw [show ints (List.replicate xs.length 0) = (List.replicate xs.length (0 : Int)).flatMap (fun x => [Value.int .i64 x]) from List.map_eq_flatMap]
    exact this
  have hB0 : Below w.heap.size w (w.alloc (.cells (madeCells #[.int .i64 0] (xs.length * 1)) 3)) := (Below.refl _ _).alloc (Nat.le_refl _) _
  have hmkw := hmk w
  have hsz : (w.alloc (.cells (madeCells #[.int .i64 0] (xs.length * 1)) 3)).heap.size = w.heap.size + 1 := by simp
  simp only [Value.cells] at hmkw
  generalize w.alloc (.cells (madeCells #[.int .i64 0] (xs.length * 1)) 3) = W at *
  have hszW : w.heap.size < W.heap.size := by omega
  clear hmk hsz
  go_enter Try.func98, Try.ntmps98
  go_wp2
  go_loopw [4] (fun i wr => ∃ k : Nat, k ≤ xs.length ∧ i = .int .i64 k ∧ Below w.heap.size w wr ∧ w.heap.size < wr.heap.size ∧ Row wr (some ⟨w.heap.size, 0, none⟩) (ints (xs.take k ++ (List.replicate xs.length 0).drop k))) (fun i _ => xs.length - (intOf i).toNat)
  case atStart => exact ⟨0, by omega, rfl, hB0, hszW, by simpa using hnew⟩
  case round =>
    clear hnew hB0 hszW hmkw
    obtain ⟨k, hk, rfl, hb, hsz, hr⟩ := hrel
    by_cases hlt : k < xs.length
    · obtain ⟨p, hp⟩ := get_some hlt
      obtain ⟨b, o, rfl⟩ := hR.addr (ints_ne (by rintro rfl; simp at hlt))
      obtain ⟨b0, o0, e0, hcc⟩ := (hR.below hb (Nat.le_refl _)) (ints_ne (by rintro rfl; simp at hlt))
      cases e0
      have c0 := hcc k (.int .i64 p) (by unfold ints; rw [List.getElem?_map, hp]; rfl)
      have hget : (xs.take k ++ (List.replicate xs.length 0).drop k)[k]? = some 0 := by
        rw [List.getElem?_append_right (by simp; omega), List.getElem?_drop, List.getElem?_replicate, if_pos (by simp; omega)]
      have hk1 : (k : Int) < xs.length := by omega
      obtain ⟨d0, f0⟩ := hr.int_ hget
      have hWp := wrote_one d0 (.int .i64 p)
      have hr2 := hr.setInt (k := k) (x := p) (by simp; omega) hWp
      rw [copy_step 0 xs xs.length k p hp rfl] at hr2
      have hB2 := hb.trans (hWp.agr.below (B := w.heap.size) hb.size (fun i e => by rw [e]; exact Nat.le_refl _))
      have HS := Lib.hid hWp.size
      simp only [Nat.zero_add] at d0 f0 hr2 hB2 HS
      clear hWp hget hp hcc
      go_wp2
      go_roundw
      case rel => exact ⟨k + 1, by omega, by go_num, hB2, by rw [HS.out]; exact hsz, hr2⟩
      case measure => simp [intOf]; omega
    · obtain rfl : k = xs.length := by omega
      go_wp2
      go_ret
      refine ⟨w.heap.size, rfl, Nat.le_refl _, hsz, ?_, hb⟩
      rw [List.take_of_length_le (Nat.le_refl _), List.drop_of_length_le (by simp), List.append_nil] at hr
      exact hr
end Go.Proofs.Ytbekihiiildgmaa
namespace Go.Proofs.Ytbekihiiildgmaa
set_option linter.unusedVariables false
set_option linter.unusedSimpArgs false
open Go.RowKit Go.Maps
set_option maxHeartbeats 4000000
set_option maxRecDepth 20000
theorem down_le {l : Int} {n : Nat} (h1 : -1 ≤ l) : -1 ≤ down l n ∧ down l n ≤ max l (-1) := by unfold down; split <;> omega
theorem szGo_le : ∀ (f : List Bk) (l : Int), -1 ≤ l → -1 ≤ szGo l f ∧ szGo l f ≤ max l (-1)
  | [], l, h => by unfold szGo; omega
  | b :: f, l, h => by
    unfold szGo
    split
    · omega
    · have h1 := down_le (l := l) (n := b.pages.length) h
      have h2 := szGo_le f (down l b.pages.length) h1.1
      omega
theorem szFl_le {l : Int} (f : List Bk) (h : 0 ≤ l) : -1 ≤ szFl l f ∧ szFl l f ≤ l := by
  unfold szFl
  split
  · omega
  · have := szGo_le f (l - f.length) (by omega)
    omega
def szSt (l : Int) (f : List Bk) (xs : List Int) : Int := if szFl l f < 0 then -1 else down (szFl l f) xs.length
theorem szSt_small {f : List Bk} {xs : List Int} (h : 0 ≤ szSt 1048576 f xs) : (f.length ≤ 1048576 ∧ ∀ b ∈ f, b.pages.length ≤ 1048576) ∧ xs.length ≤ 1048576 := by
  unfold szSt at h
  split at h
  · omega
  · rename_i h0
    have h1 := szFl_le f (show (0 : Int) ≤ 1048576 by omega)
    refine ⟨szFl_small (by omega), ?_⟩
    unfold down at h
    split at h <;> omega
theorem laws_szStore (A D : Option Addr) (c d : Nat) (f : List Bk) (xs : List Int) (hs : List (Option Addr × Nat)) (w : World) (hn : f.length ≤ 9223372036854775807) (hp : ∀ b ∈ f, b.pages.length ≤ 9223372036854775807) (hx : xs.length ≤ 9223372036854775807) (hF : RBks w A f hs) :
    Calls Try.prog 45 #[.agg #[.slice A f.length c, .slice D xs.length d], .int .i64 1048576] w fun e w' => e = .returned (.int .i64 (szSt 1048576 f xs)) ∧ Below w.heap.size w w' := by
  have hb0 : Below w.heap.size w (w.alloc (.cells #[.slice A f.length c, .slice D xs.length d] 63)) := (Below.refl _ _).alloc (Nat.le_refl _) _
  have H := Lib.hid (laws_szBlockS A c f hs 1048576 _ (by omega) (by omega) hn hp (hF.below hb0 (Nat.le_refl _)))
  obtain ⟨l1, l2⟩ := szFl_le f (show (0 : Int) ≤ 1048576 by omega)
  have HS : Hid (szSt 1048576 f xs = if szFl 1048576 f < 0 then -1 else down (szFl 1048576 f) xs.length) := rfl
  generalize szFl 1048576 f = l at *
  clear hn hp hF
  go_enter Try.func45, Try.ntmps45
  go_wp2_with fail
  with_reducible refine H.out.mono ?_
  rintro e w1 ⟨rfl, hb1⟩
  obtain ⟨hc1, hf1⟩ := bcell hb1
  have hB1 : Below w.heap.size w w1 := hb0.trans (hb1.mono (by simp))
  have hz : w.heap.size < w1.heap.size := by have := hb1.size; simp at this; omega
  by_cases hl : l < 0
  · have hs : szSt 1048576 f xs = -1 := by rw [HS.out, if_pos hl]
    clear hb1 H
    go_wp2
    go_ret
    exact ⟨ret_int hs.symm, hB1⟩
  · have hs : Hid (szSt 1048576 f xs = down l xs.length) := by rw [Hid, HS.out, if_neg hl]
    have hdl := down_le (l := l) (n := xs.length) (by omega)
    clear hb1 H
    go_wp2_with fail
    refine (laws_szIntS D xs.length d l _ (by omega) (by omega) hx).mono ?_
    rintro e w2 ⟨rfl, rfl⟩
    by_cases hl2 : down l xs.length < 0
    · go_wp2
      go_ret
      exact ⟨ret_int (by rw [hs.out]; omega), hB1⟩
    · go_wp2
      go_ret
      exact ⟨ret_int (by rw [hs.out]), hB1⟩
theorem laws_toStore (A D : Option Addr) (c d : Nat) (f : List Bk) (xs : List Int) (hs : List (Option Addr × Nat)) (w : World) (hl : f.length ≤ 1048576) (hp : ∀ b ∈ f, b.pages.length ≤ 1048576) (hx : xs.length ≤ 1048576) (hF : RBks w A f hs) (hD : RRow w D (ints xs)) :
    Calls Try.prog 47 #[.agg #[.slice A f.length c, .slice D xs.length d]] w fun e w' => ∃ A' D', e = .returned (.agg #[.slice A' f.length f.length, .slice D' xs.length xs.length]) ∧ OSt w' w.heap.size w'.heap.size A' f D' xs ∧ Below w.heap.size w w' := by
  have hb0 : Below w.heap.size w (((w.alloc (.cells #[.slice A f.length c, .slice D xs.length d] 63)).alloc (.cells #[.slice none 0 0, .slice none 0 0] 26)).alloc (.cells #[.slice none 0 0, .slice none 0 0] 26)) := (((Below.refl _ _).alloc (Nat.le_refl _) _).alloc (by simp) _).alloc (by simp; omega) _
  have H := Lib.hid (laws_toBlockS A c f hs _ hl hp (hF.below hb0 (Nat.le_refl _)))
  clear hl hp hF
  go_enter Try.func47, Try.ntmps47
  go_wp2_with fail
  with_reducible refine H.out.mono ?_
  rintro e w1 ⟨g, rfl, hO1, hb⟩
  obtain ⟨hc1, hf1⟩ := bcell hb
  have hz : w.heap.size + 1 + 1 < w1.heap.size := by have := hb.size; simp at this; omega
  have hB1 : Below w.heap.size w w1 := hb0.trans (hb.mono (by simp; omega))
  have hO1' : OFl w1 (w.heap.size + 1 + 1 + 1) w1.heap.size (some ⟨g, 0, none⟩) f := hO1.mono (by simp) (Nat.le_refl _)
  have q0 := (((Row.new w #[.slice A f.length c, .slice D xs.length d] 63).alloc (.cells #[.slice none 0 0, .slice none 0 0] 26)).alloc (.cells #[.slice none 0 0, .slice none 0 0] 26)).below hb (Nat.le_refl _)
  have q1 := (((Row.new (w.alloc (.cells #[.slice A f.length c, .slice D xs.length d] 63)) #[.slice none 0 0, .slice none 0 0] 26)).alloc (.cells #[.slice none 0 0, .slice none 0 0] 26)).below hb (Nat.le_refl _)
  have q2 := (Row.new ((w.alloc (.cells #[.slice A f.length c, .slice D xs.length d] 63)).alloc (.cells #[.slice none 0 0, .slice none 0 0] 26)) #[.slice none 0 0, .slice none 0 0] 26).below hb (Nat.le_refl _)
  simp only [World.size_alloc] at q1 q2
  obtain ⟨x0, _⟩ := q0.at0 (j := 1) rfl
  obtain ⟨r0, fr0⟩ := q1.at0 (j := 0) rfl
  obtain ⟨r1, fr1⟩ := q1.at0 (j := 1) rfl
  obtain ⟨t0, ft0⟩ := q2.at0 (j := 0) rfl
  obtain ⟨t1, ft1⟩ := q2.at0 (j := 1) rfl
  clear hc1 hf1 hb H hO1 q0 q1 q2
  have hW := wrote_one t0 (.slice (some ⟨g, 0, none⟩) f.length f.length)
  have hB2 := hB1.trans (hW.agr.below (B := w.heap.size) hB1.size (fun i e => by omega))
  have hO2 : OFl (w1.setCell ⟨w.heap.size + 1 + 1, 0, none⟩ (.slice (some ⟨g, 0, none⟩) f.length f.length)) (w.heap.size + 1 + 1 + 1) w1.heap.size (some ⟨g, 0, none⟩) f := hO1'.keep fun b h1 h2 hl => hW.block b (by omega)
  have H2 := Lib.hid (laws_toIntS D d xs _ hx (hD.below hB2 (Nat.le_refl _)))
  have hz2 : (w1.setCell ⟨w.heap.size + 1 + 1, 0, none⟩ (.slice (some ⟨g, 0, none⟩) f.length f.length)).heap.size = w1.heap.size := hW.size
  clear hx hD hO1'
  have HW := Lib.hid hW
  clear hW
  go_wp2_with fail
  with_reducible refine H2.out.mono ?_
  rintro e w2 ⟨g2, rfl, k1, k2, hR, hb⟩
  obtain ⟨hc2, hf2⟩ := bcell hb
  have hW := HW.out
  have hs2 := hb.size
  rw [hz2] at hs2 k1
  have x1 : w2.cell? ⟨w.heap.size + 1, 0, none⟩ = some (.slice none 0 0) := (hc2 (w.heap.size + 1) 0 (by rw [hz2]; omega)).trans ((hW.agr.cell (b := w.heap.size + 1) (by omega) (by omega) 0).trans r0)
  have x2 : w2.cell? ⟨w.heap.size + 1, 1, none⟩ = some (.slice none 0 0) := (hc2 (w.heap.size + 1) 1 (by rw [hz2]; omega)).trans ((hW.agr.cell (b := w.heap.size + 1) (by omega) (by omega) 1).trans r1)
  have y0 : w2.cell? ⟨w.heap.size + 1 + 1, 0, none⟩ = some (.slice (some ⟨g, 0, none⟩) f.length f.length) := (hc2 (w.heap.size + 1 + 1) 0 (by rw [hz2]; omega)).trans (hW.new_ 0 _ rfl)
  have y1 : w2.cell? ⟨w.heap.size + 1 + 1, 1, none⟩ = some (.slice none 0 0) := (hc2 (w.heap.size + 1 + 1) 1 (by rw [hz2]; omega)).trans ((hW.old_ 1 (by simp)).trans t1)
  have gr0 : w2.frozen? ⟨w.heap.size + 1, 0, none⟩ = false := (hf2 (w.heap.size + 1) 0 (by rw [hz2]; omega)).trans ((hW.frozen _).trans fr0)
  have gr1 : w2.frozen? ⟨w.heap.size + 1, 1, none⟩ = false := (hf2 (w.heap.size + 1) 1 (by rw [hz2]; omega)).trans ((hW.frozen _).trans fr1)
  have gt1 : w2.frozen? ⟨w.heap.size + 1 + 1, 1, none⟩ = false := (hf2 (w.heap.size + 1 + 1) 1 (by rw [hz2]; omega)).trans ((hW.frozen _).trans ft1)
  have hO3 := hO2.below hb (by rw [hz2]; exact Nat.le_refl _)
  have hB3 : Below w.heap.size w w2 := hB2.trans (hb.mono hB2.size)
  clear hc2 hf2 hb H2 hO2 hB2 hW HW x0 r0 r1 t0 t1 fr0 fr1 ft0 ft1 hz2
  go_wp2
  refine bodyPost_ret (v := .agg #[.slice (some ⟨g, 0, none⟩) f.length f.length, .slice (some ⟨g2, 0, none⟩) xs.length xs.length]) (by simp [results, Try.results47, go_sem, x1, x2, y0, y1]) rfl ⟨_, _, rfl, ?_, ?_⟩
  · refine OSt.mk' (lf := w.heap.size + 1 + 1 + 1) (hf := w1.heap.size) (hO3.keep fun b h1 h2 hl => ?_) (hR.keep fun b hb hl => ?_) (by omega) (by simp; omega) (by omega) (by simp; omega) (.inr k1)
    · repeat (first | rfl | (refine (Below.heap_setCell _ _ _ _ (by simp; omega)).trans ?_))
    · rw [blk_some] at hb
      subst hb
      repeat (first | rfl | (refine (Below.heap_setCell _ _ _ _ (by simp; omega)).trans ?_))
  · have hB := hB3
    (repeat (first | (with_reducible exact Below.refl _ _) | (with_reducible assumption) | (refine Below.setCell ?_ (by first | omega | exact hB.size | exact hb.size | (have h := hB.size; simp; omega) | (have h := hb.size; simp; omega) | (simp; omega) | simp) _) | (refine Below.alloc ?_ (by first | omega | exact hB.size | exact hb.size | (have h := hB.size; simp; omega) | (have h := hb.size; simp; omega) | (simp; omega) | simp) _) | (refine Below.drew ?_)))
end Go.Proofs.Ytbekihiiildgmaa
namespace Go.Proofs.Ytbekihiiildgmaa
set_option linter.unusedVariables false
set_option linter.unusedSimpArgs false
open Go.RowKit Go.WideShapes Go.ChangeShapes
section
variable {H : Type} {enc : TypeId × Value → H} {P : Program}
/-- an argument reads behind the call as before, if below the heap's old size nothing has turned -/
theorem trod_kept {t : TypeId} (hl : laidOutB P = true) (hr : P.readableRec t = true) (hrow : t < P.types.size) {W W' : World} {v : Value} {d : DataW H} {ps qs : List MemPlace} {sp : Nat → Bool}
    (h : DataW.Trod enc P W 0 (fun _ => true) true t v d ps) (hb : Below W.heap.size W W') (hlt : ∀ x ∈ qs, x.block < W.heap.size) (hsp : ∀ p ∈ qs, sp p.block = true) (hq : ∀ x ∈ ps, x ∈ qs) : DataW.Trod enc P W' 0 sp true t v d ps :=
  WideElems.Trod_stays hl hr hrow h (fun x hx => hb.same (hlt x (hq x hx))) (fun x hx => hsp x (hq x hx))
theorem post_of_below {f : Func} {s : ChangeSpec} {apart fresh handsOn again : Bool} {W W' : World} {args : Array Value} {v : Value} {ds gs : List (DataW H)} {before pa pv : List MemPlace}
    (hW : DataW.Whole enc P f.params.toList s.vars apart W args.toList ds gs before)
    (hres : ∀ (b : Nat) (sp : Nat → Bool) (hd : Bool), DataW.TrodAll enc P W' b sp hd f.resultTypes.toList (v.resultList f.resultTypes.size) (s.fn H (ds ++ gs)).results [])
    (hargs : ∀ sp : Nat → Bool, (∀ p ∈ before, sp p.block = true) → DataW.TrodAll enc P W' 0 sp true f.params.toList args.toList (s.fn H (ds ++ gs)).args pa)
    (hvars : ∀ sp : Nat → Bool, (∀ p ∈ before, sp p.block = true) → DataW.TrodVars enc P W' sp s.vars (s.fn H (ds ++ gs)).vars pv)
    (hps : before = pa ++ pv) (hb : Below W.heap.size W W')
    (hok : ∀ (j : Nat) (t : TypeId) (r : Value), f.resultTypes[j]? = some t → (v.resultList f.resultTypes.size)[j]? = some r → Value.okWide P W' .any 0 t r) :
    s.post enc P f apart fresh handsOn again W args v W' := by
  have hlt : ∀ p ∈ before, p.block < W.heap.size := fun p hp => hW.lt p hp
  have hold : ∀ p ∈ before, (fun b => decide (b < W.heap.size)) p.block = true := fun p hp => by simpa using hlt p hp
  refine ⟨ds, gs, before, [], pa, pv, hW, hres _ _ _, hargs _ hold, hvars _ hold, World.keptBut_mono (fun p hp => ⟨hp, ?_⟩) (hb.frame (· ∈ before)), fun _ => ?_⟩
  · rw [hps, List.mem_append] at hp
    exact Or.inr hp
  · obtain ⟨_, _, _, _, _, hz, hn⟩ := hW
    refine ⟨hok, _, _, ([] ++ pa) ++ pv, ⟨[] ++ pa, pv, trodAll_append (hargs _ (fun _ _ => rfl)) (hres _ _ _), hvars _ (fun _ _ => rfl), rfl, ?_, ?_⟩, ?_⟩
    · intro b off hp
      have hin : MemPlace.cell b off ∈ before := by rw [hps]; simpa using hp
      rw [hb.frozen (hlt _ hin)]
      exact hz b off hin
    · intro ha
      have := hn ha
      rw [hps] at this
      simpa using this
    · intro p hp _
      rw [hps]
      simpa using hp
end
end Go.Proofs.Ytbekihiiildgmaa
namespace Go.Proofs.Ytbekihiiildgmaa
set_option linter.unusedVariables false
set_option linter.unusedSimpArgs false
open Go.RowKit Go.ChangeShapes Go.WideShapes Go.Deep
set_option maxRecDepth 100000
instance : Inhabited Pg := ⟨⟨0, rc0⟩⟩
section
variable {H : Type} {enc : TypeId × Value → H} {w : World} {base fuel : Nat} {spare : Nat → Bool} {held : Bool}
theorem plain_addr {w : World} {a : Addr} {u : Value} (h : w.cell? a = some u) : ∃ b o, a = ⟨b, o, none⟩ := by
  obtain ⟨b, o, s⟩ := a
  cases s with
  | none => exact ⟨b, o, rfl⟩
  | some s =>
    have : w.cell? ⟨b, o, some s⟩ = none := by
      unfold World.cell?
      split
      · exact if_pos rfl
      · rfl
    rw [this] at h; cases h
theorem cellsOf_int : Try.prog.cellsOf 3 = 1 := by kernel_rfl
theorem cellsOf_lrec : Try.prog.cellsOf 125 = 4 := by kernel_rfl
theorem cellsOf_lpage : Try.prog.cellsOf 190 = 5 := by kernel_rfl
theorem cellsOf_lpages : Try.prog.cellsOf 161 = 1 := by kernel_rfl
theorem cellsOf_lblock : Try.prog.cellsOf 163 = 2 := by kernel_rfl
theorem rec_of {cs : List Value} {x : DataW H × List MemPlace} (h : DataW.trod enc Try.prog w base spare held fuel 125 cs = some x) : ∃ r : Rc, cs = r.vs := by
  obtain ⟨xs, n, _, _, hl, hx, hf⟩ := DataW.trod_struct Try.underlying125 h
  rw [cellsOf_lrec] at hl
  match cs, hl with
  | [c0, c1, c2, c3], _ =>
    match xs, hx with
    | [y0, y1, y2, y3], _ =>
      have h0 := hf 0 _ rfl
      have h1 := hf 1 _ rfl
      have h2 := hf 2 _ rfl
      have h3 := hf 3 _ rfl
      simp [cellsOf_int] at h0 h1 h2 h3
      obtain ⟨a, e0, _⟩ := DataW.trod_int Try.underlying3 h0
      obtain ⟨b, e1, _⟩ := DataW.trod_int Try.underlying3 h1
      obtain ⟨c, e2, _⟩ := DataW.trod_int Try.underlying3 h2
      obtain ⟨d, e3, _⟩ := DataW.trod_int Try.underlying3 h3
      simp at e0 e1 e2 e3
      subst e0; subst e1; subst e2; subst e3
      exact ⟨⟨a, b, c, d⟩, rfl⟩
theorem lpage_of {cs : List Value} {x : DataW H × List MemPlace} (h : DataW.trod enc Try.prog w base spare held fuel 190 cs = some x) : ∃ p : Pg, cs = p.vs := by
  obtain ⟨xs, n, _, _, hl, hx, hf⟩ := DataW.trod_struct Try.underlying190 h
  rw [cellsOf_lpage] at hl
  match cs, hl with
  | [c0, c1, c2, c3, c4], _ =>
    match xs, hx with
    | [y0, y1], _ =>
      have h0 := hf 0 _ rfl
      have h1 := hf 1 _ rfl
      simp [cellsOf_int] at h0
      simp [cellsOf_lrec] at h1
      obtain ⟨a, e0, _⟩ := DataW.trod_int Try.underlying3 h0
      obtain ⟨r, e1⟩ := rec_of h1
      simp [Rc.vs] at e0 e1
      obtain ⟨rfl, rfl, rfl, rfl⟩ := e1
      subst e0
      exact ⟨⟨a, r⟩, rfl⟩
/-- a row of elements of m cells each, read one by one, is a row of a list -/
theorem rrow_of {α : Type} [Inhabited α] (g : α → List Value) (m : Nat) (hg : ∀ x, (g x).length = m) (hm : 0 < m) {a : Addr} {n : Nat} (h : ∀ i, i < n → ∃ x : α, ∀ j u, (g x)[j]? = some u → w.cell? (a.add (i * m + j)) = some u) :
    ∃ l : List α, l.length = n ∧ RRow w (some a) (l.flatMap g) := by
  refine ⟨(List.range n).map fun i => if hi : i < n then Classical.choose (h i hi) else default, by simp, fun hne => ?_⟩
  have hn : 0 < n := by
    rcases Nat.eq_zero_or_pos n with rfl | hn
    · simp at hne
    · exact hn
  obtain ⟨x, hx⟩ := h 0 hn
  obtain ⟨u, hu⟩ := get_some (l := g x) (k := 0) (by rw [hg]; exact hm)
  obtain ⟨b, o, rfl⟩ := plain_addr (a := a) (u := u) (by simpa [Addr.add] using hx 0 u hu)
  refine ⟨b, o, rfl, fun j u hj => ?_⟩
  have hjl := (List.getElem?_eq_some_iff.1 hj).1
  rw [flat_len g m hg] at hjl
  simp at hjl
  have hi : j / m < n := Nat.div_lt_of_lt_mul (by rw [Nat.mul_comm]; exact hjl)
  have hd : j = j / m * m + j % m := by rw [Nat.mul_comm]; exact (Nat.div_add_mod j m).symm
  have hr : j % m < m := Nat.mod_lt _ hm
  have key := flat_get g m hg ((List.range n).map fun i => if hi : i < n then Classical.choose (h i hi) else default) (j / m) (j % m) (Classical.choose (h (j / m) hi)) (by rw [List.getElem?_map, List.getElem?_range hi]; simp [hi]) hr
  rw [← hd, hj] at key
  have := Classical.choose_spec (h (j / m) hi) (j % m) u key.symm
  rw [← hd, addr_add] at this
  exact this
theorem pages_of {cs : List Value} {x : DataW H × List MemPlace} (h : DataW.trod enc Try.prog w base spare held fuel 161 cs = some x) : ∃ A c ps, cs = [.slice A (List.length ps) c] ∧ List.length ps ≤ maxLen ∧ RRow w A (pgs ps) := by
  rcases open_slice Try.underlying161 h with ⟨rfl, _⟩ | ⟨a, len, cap, m, n, D, Pl, rfl, _, hlc, hcm, hm, _, hi⟩
  · exact ⟨none, 0, [], rfl, Nat.zero_le _, fun h => absurd rfl h⟩
  · have hlm : len ≤ m := by rw [hm]; split <;> omega
    obtain ⟨ps, hps, hr⟩ := rrow_of (α := Pg) (w := w) (a := a) (n := len) Pg.vs 5 (fun _ => rfl) (by omega) (fun i hlt => by
      obtain ⟨cs', hc, ht⟩ := hi i (by omega)
      obtain ⟨p, rfl⟩ := lpage_of ht
      obtain ⟨_, hl, hcell⟩ := World.cells?_some hc
      refine ⟨p, fun j u hj => ?_⟩
      have hj5 : j < 5 := (List.getElem?_eq_some_iff.1 hj).1
      have := hcell j (by rw [cellsOf_lpage]; exact hj5)
      rw [cellsOf_lpage] at this
      rw [← Go.Deep.add_add, this, hj])
    exact ⟨some a, cap, ps, by rw [hps], by omega, hr⟩
theorem block_of {cs : List Value} {x : DataW H × List MemPlace} (h : DataW.trod enc Try.prog w base spare held fuel 163 cs = some x) : ∃ (b : Bk) (y : Option Addr × Nat), cs = [.slice y.1 b.pages.length y.2, .int .i64 b.worn] ∧ b.pages.length ≤ maxLen ∧ RRow w y.1 (pgs b.pages) := by
  obtain ⟨xs, n, _, _, hl, hx, hf⟩ := DataW.trod_struct Try.underlying163 h
  rw [cellsOf_lblock] at hl
  match cs, hl with
  | [c0, c1], _ =>
    match xs, hx with
    | [y0, y1], _ =>
      have h0 := hf 0 _ rfl
      have h1 := hf 1 _ rfl
      simp [cellsOf_lpages] at h0
      simp [cellsOf_int] at h1
      obtain ⟨A, c, ps, e0, hml, hr⟩ := pages_of h0
      obtain ⟨n, e1, _⟩ := DataW.trod_int Try.underlying3 h1
      simp at e0 e1
      subst e0; subst e1
      exact ⟨⟨ps, n⟩, (A, c), rfl, hml, hr⟩
theorem blocks_of {cs : List Value} {x : DataW H × List MemPlace} (h : DataW.trod enc Try.prog w base spare held fuel 61 cs = some x) : ∃ A c f hs, cs = [.slice A (List.length f) c] ∧ List.length f ≤ maxLen ∧ (∀ b ∈ f, b.pages.length ≤ maxLen) ∧ RBks w A f hs := by
  rcases open_slice Try.underlying61 h with ⟨rfl, _⟩ | ⟨a, len, cap, m, n, D, Pl, rfl, _, hlc, hcm, hm, _, hi⟩
  · exact ⟨none, 0, [], [], rfl, Nat.zero_le _, by simp, ⟨rfl, fun h => absurd rfl h, fun _ _ _ h _ => absurd h (by simp)⟩⟩
  · have hlm : len ≤ m := by rw [hm]; split <;> omega
    have key : ∀ i, i < len → ∃ z : Bk × (Option Addr × Nat), (∀ j u, ([.slice z.2.1 z.1.pages.length z.2.2, .int .i64 z.1.worn] : List Value)[j]? = some u → w.cell? (a.add (i * 2 + j)) = some u) ∧ z.1.pages.length ≤ maxLen ∧ RRow w z.2.1 (pgs z.1.pages) := fun i hlt => by
      obtain ⟨cs', hc, ht⟩ := hi i (by omega)
      obtain ⟨b, y, rfl, hml, hr⟩ := block_of ht
      obtain ⟨_, hl, hcell⟩ := World.cells?_some hc
      refine ⟨(b, y), fun j u hj => ?_, hml, hr⟩
      have hj2 : j < 2 := (List.getElem?_eq_some_iff.1 hj).1
      have := hcell j (by rw [cellsOf_lblock]; exact hj2)
      rw [cellsOf_lblock] at this
      rw [← Go.Deep.add_add, this, hj]
    let Z : Nat → Bk × (Option Addr × Nat) := fun i => if hi : i < len then Classical.choose (key i hi) else (⟨[], 0⟩, (none, 0))
    have hZ : ∀ i, i < len → (∀ j u, ([.slice (Z i).2.1 (Z i).1.pages.length (Z i).2.2, .int .i64 (Z i).1.worn] : List Value)[j]? = some u → w.cell? (a.add (i * 2 + j)) = some u) ∧ (Z i).1.pages.length ≤ maxLen ∧ RRow w (Z i).2.1 (pgs (Z i).1.pages) := fun i hlt => by
      simp only [Z, dif_pos hlt]; exact Classical.choose_spec (key i hlt)
    refine ⟨some a, cap, (List.range len).map fun i => (Z i).1, (List.range len).map fun i => (Z i).2, by simp, by simp; omega, fun b hb => by
      obtain ⟨i, hi, rfl⟩ := List.mem_map.1 hb
      exact (hZ i (List.mem_range.1 hi)).2.1, ⟨by simp, fun hne => ?_, fun i b y hb hy => ?_⟩⟩
    · have e : ∀ l : List Nat, hdrs (l.map fun i => (Z i).1) (l.map fun i => (Z i).2) = l.flatMap fun i => [.slice (Z i).2.1 (Z i).1.pages.length (Z i).2.2, .int .i64 (Z i).1.worn] := by
        intro l
        induction l with
        | nil => rfl
        | cons x l ih => simp only [List.map_cons, hdrs, List.flatMap_cons, ih]; rfl
      rw [e] at hne ⊢
      have hn : 0 < len := by
        rcases Nat.eq_zero_or_pos len with h0 | h0
        · rw [h0] at hne; simp at hne
        · exact h0
      obtain ⟨b, o, rfl⟩ := plain_addr (a := a) (by simpa [Addr.add] using (hZ 0 hn).1 0 _ rfl)
      refine ⟨b, o, rfl, fun j u hj => ?_⟩
      have hjl := (List.getElem?_eq_some_iff.1 hj).1
      rw [flat_len _ 2 (fun _ => rfl)] at hjl
      simp at hjl
      have hi : j / 2 < len := by omega
      have hd : j = j / 2 * 2 + j % 2 := by omega
      have hf := flat_get (fun i => [Value.slice (Z i).2.1 (Z i).1.pages.length (Z i).2.2, .int .i64 (Z i).1.worn]) 2 (fun _ => rfl) (List.range len) (j / 2) (j % 2) (j / 2) (List.getElem?_range hi) (by omega)
      rw [← hd, hj] at hf
      have := (hZ _ hi).1 (j % 2) u hf.symm
      rw [← hd, addr_add] at this
      exact this
    · rw [List.getElem?_map] at hb hy
      have hi : i < len := by
        rcases Nat.lt_or_ge i len with h0 | h0
        · exact h0
        · rw [List.getElem?_eq_none (by simpa using h0)] at hb; cases hb
      rw [List.getElem?_range hi] at hb hy
      cases hb; cases hy
      exact (hZ i hi).2.2
end
end Go.Proofs.Ytbekihiiildgmaa
namespace Go.Proofs.Ytbekihiiildgmaa
set_option linter.unusedVariables false
set_option linter.unusedSimpArgs false
open Go.RowKit Go.ChangeShapes Go.WideShapes Go.Deep
set_option maxRecDepth 100000
instance : Inhabited Sp := ⟨⟨0, 0, 0, 0, rc0⟩⟩
section
variable {H : Type} {enc : TypeId × Value → H} {w : World} {base fuel : Nat} {spare : Nat → Bool} {held : Bool}
theorem cellsOf_ints : Try.prog.cellsOf 24 = 1 := by kernel_rfl
theorem cellsOf_lblocks : Try.prog.cellsOf 61 = 1 := by kernel_rfl
theorem cellsOf_lstore : Try.prog.cellsOf 63 = 2 := by kernel_rfl
theorem cellsOf_levent : Try.prog.cellsOf 72 = 5 := by kernel_rfl
theorem cellsOf_bool : Try.prog.cellsOf 4 = 1 := by kernel_rfl
theorem ints_of {cs : List Value} {x : DataW H × List MemPlace} (h : DataW.trod enc Try.prog w base spare held fuel 24 cs = some x) : ∃ A c xs, cs = [.slice A (List.length xs) c] ∧ List.length xs ≤ maxLen ∧ RRow w A (ints xs) := by
  rcases open_slice Try.underlying24 h with ⟨rfl, _⟩ | ⟨a, len, cap, m, n, D, Pl, rfl, _, hlc, hcm, hm, _, hi⟩
  · exact ⟨none, 0, [], rfl, Nat.zero_le _, fun h => absurd rfl h⟩
  · have hlm : len ≤ m := by rw [hm]; split <;> omega
    obtain ⟨xs, hxs, hr⟩ := rrow_of (α := Int) (w := w) (a := a) (n := len) (fun x => [Value.int .i64 x]) 1 (fun _ => rfl) (by omega) (fun i hlt => by
      obtain ⟨cs', hc, ht⟩ := hi i (by omega)
      obtain ⟨x, rfl, _⟩ := DataW.trod_int Try.underlying3 ht
      obtain ⟨_, hl, hcell⟩ := World.cells?_some hc
      refine ⟨x, fun j u hj => ?_⟩
      have hj1 : j < 1 := (List.getElem?_eq_some_iff.1 hj).1
      have := hcell j (by rw [cellsOf_int]; exact hj1)
      rw [cellsOf_int] at this
      rw [← Go.Deep.add_add, this, hj])
    exact ⟨some a, cap, xs, by rw [hxs], by omega, by rw [show ints xs = xs.flatMap (fun x => [Value.int .i64 x]) from List.map_eq_flatMap]; exact hr⟩
theorem store_of {cs : List Value} {x : DataW H × List MemPlace} (h : DataW.trod enc Try.prog w base spare held fuel 63 cs = some x) : ∃ (s : St) (hs : List (Option Addr × Nat)) (A D : Option Addr) (c d : Nat), cs = [.slice A s.flash.length c, .slice D s.disk.length d] ∧ s.flash.length ≤ maxLen ∧ (∀ b ∈ s.flash, b.pages.length ≤ maxLen) ∧ s.disk.length ≤ maxLen ∧ RBks w A s.flash hs ∧ RRow w D (ints s.disk) := by
  obtain ⟨xs, n, _, _, hl, hx, hf⟩ := DataW.trod_struct Try.underlying63 h
  rw [cellsOf_lstore] at hl
  match cs, hl with
  | [c0, c1], _ =>
    match xs, hx with
    | [y0, y1], _ =>
      have h0 := hf 0 _ rfl
      have h1 := hf 1 _ rfl
      simp [cellsOf_lblocks] at h0
      simp [cellsOf_ints] at h1
      obtain ⟨A, c, f, hs, e0, hl0, hp0, hF⟩ := blocks_of h0
      obtain ⟨D, d, zs, e1, hl1, hD⟩ := ints_of h1
      simp at e0 e1
      subst e0; subst e1
      exact ⟨⟨f, zs⟩, hs, A, D, c, d, rfl, hl0, hp0, hl1, hF, hD⟩
theorem event_of {cs : List Value} {x : DataW H × List MemPlace} (h : DataW.trod enc Try.prog w base spare held fuel 72 cs = some x) : ∃ (k a v c : Int) (t : Bool), cs = [.int .i64 k, .int .i64 a, .int .i64 v, .int .i64 c, .bool t] := by
  obtain ⟨xs, n, _, _, hl, hx, hf⟩ := DataW.trod_struct Try.underlying72 h
  rw [cellsOf_levent] at hl
  match cs, hl with
  | [c0, c1, c2, c3, c4], _ =>
    match xs, hx with
    | [y0, y1, y2, y3, y4], _ =>
      have h0 := hf 0 _ rfl
      have h1 := hf 1 _ rfl
      have h2 := hf 2 _ rfl
      have h3 := hf 3 _ rfl
      have h4 := hf 4 _ rfl
      simp [cellsOf_int] at h0 h1 h2 h3
      simp [cellsOf_bool] at h4
      obtain ⟨a, e0, _⟩ := DataW.trod_int Try.underlying3 h0
      obtain ⟨b, e1, _⟩ := DataW.trod_int Try.underlying3 h1
      obtain ⟨c, e2, _⟩ := DataW.trod_int Try.underlying3 h2
      obtain ⟨d, e3, _⟩ := DataW.trod_int Try.underlying3 h3
      obtain ⟨t, e4, _⟩ := DataW.trod_bool Try.underlying4 h4
      simp at e0 e1 e2 e3 e4
      subst e0; subst e1; subst e2; subst e3; subst e4
      exact ⟨a, b, c, d, t, rfl⟩
end
end Go.Proofs.Ytbekihiiildgmaa
