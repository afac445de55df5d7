/- Walks: the program's StoreRead, StoreAll, StoreDirty. -/
import Derived.Test.YtfkjhnfbajflaaaH15
import Derived.Test.YtfkjhnfbajflaaaG17
namespace Go.Proofs.Ytfkjhnfbajflaaa
set_option linter.unusedVariables false
set_option linter.unusedSimpArgs false
open Go.RowKit Go.Maps
set_option maxHeartbeats 400000
theorem Row.putInt {w w' : World} {b o k : Nat} {xs : List Int} {x : Int} (h : Row w (some ⟨b, o, none⟩) (ints xs)) (hk : k < xs.length) (hw : Wrote w w' b (o + k) [.int .i64 x]) : Row w' (some ⟨b, o, none⟩) (ints (xs.set k x)) := by
  rw [ints_set]
  exact hw.row h (by rw [ints_len]; simp; omega)
theorem storeOk_parts {s : St} (h : storeOk s = true) : s.disk.length = 6 ∧ findOrderI s.flash = true ∧ diskGo s.flash 0 s.disk = true := by
  unfold storeOk at h
  split at h
  · rename_i h1
    split at h
    · rename_i h2; exact ⟨h1, h2, h⟩
    · cases h
  · cases h
def storeRead (s : St) (a : Int) : Int := if storeOk s = true then (if addrB a = true then readV s a else -1) else -1
set_option maxHeartbeats 4000000 in
set_option maxRecDepth 100000 in
theorem impl_StoreRead (s : St) (a : Int) (A D : Option Addr) (n m c d : Nat) (w : World) (hn : n = s.flash.length) (hm : m = s.disk.length) (hF : Fl w A s.flash) (hD : Row w D (ints s.disk)) :
    Calls Try.prog 26 #[.agg #[.slice A n c, .slice D m d], .int .i64 a] w fun e w' => e = .returned (.int .i64 (storeRead s a)) ∧ Below w.heap.size w w' := by
  subst hn; subst hm
  have hB0 : Below w.heap.size w (w.alloc (.cells #[.slice A s.flash.length c, .slice D s.disk.length d] 39)) := (Below.refl _ _).alloc (Nat.le_refl _) _
  have hF0 := hF.below hB0 (Nat.le_refl _)
  have hD0 := hD.below hB0 (Nat.le_refl _)
  go_enter Try.func26, Try.ntmps26
  go_wp2_with fail
  refine (impl_StoreOk s A D _ _ c d _ rfl rfl hF0 hD0).mono ?_
  rintro e w1 ⟨rfl, hb⟩
  have hs1 := hb.size
  simp only [World.size_alloc] at hs1
  have x0 : w1.cell? ⟨w.heap.size, 0, none⟩ = some (.slice A s.flash.length c) := (hb.cell (p := ⟨w.heap.size, 0, none⟩) (by simp)).trans (by simp)
  have x1 : w1.cell? ⟨w.heap.size, 1, none⟩ = some (.slice D s.disk.length d) := (hb.cell (p := ⟨w.heap.size, 1, none⟩) (by simp)).trans (by simp)
  have hF1 := hF0.below hb (Nat.le_refl _)
  have hD1 := hD0.below hb (Nat.le_refl _)
  have hB1 := hB0.trans (hb.mono (by simp))
  clear hb hF0 hD0 hB0
  by_cases hsok : storeOk s = true
  · obtain ⟨h6, hord, _⟩ := storeOk_parts hsok
    have hok := order_ok hord
    have hfin : Hid (storeRead s a = if addrB a = true then readV s a else -1) := by unfold Hid storeRead; rw [if_pos hsok]
    have hlm := Lib.hid (fun a => lastMap_eq hok a)
    have H6 := Lib.hid h6
    rw [hsok]
    clear hsok hord
    by_cases ha : addrB a = true
    · have ha' := ha
      unfold addrB at ha'
      simp at ha'
      obtain ⟨i, rfl⟩ : ∃ i : Nat, a = i + 1 := ⟨(a - 1).toNat, by omega⟩
      have hi : i < 6 := by omega
      have hi6 : (i : Int) < 6 := by omega
      obtain ⟨v, hv⟩ := get_some (l := s.disk) (k := i) (by omega)
      have hgd : s.disk.getD i 0 = v := by rw [List.getD_eq_getElem?_getD, hv]; rfl
      have hfin2 : Hid (storeRead s (i + 1) = if 0 < (last s.flash (i + 1)).seq then (last s.flash (i + 1)).val else v) := by rw [Hid, hfin.out, if_pos ha]; unfold readV; rw [show ((i : Int) + 1 - 1).toNat = i by omega, hgd]
      have HV := Lib.hid hv
      obtain ⟨db, dO, rfl⟩ := hD1.addr (ints_ne' (by intro e; rw [e] at h6; simp at h6))
      have haok := fun w => impl_addrOk ((i : Int) + 1) w
      rw [ha] at haok
      have HAOK := Lib.hid haok
      rw [h6] at x1
      clear hv hgd h6 ha ha' haok hfin
      go_wp2_with fail
      refine (HAOK.out _).mono ?_
      rintro e w2 ⟨rfl, rfl⟩
      go_wp2_with fail
      refine (impl_lastRecords s.flash A _ c _ rfl hok hF1).mono ?_
      rintro e w2 ⟨rfl, hM, hb⟩
      have hs2 := hb.size
      replace x0 := (hb.cell (p := ⟨w.heap.size, 0, none⟩) (by show w.heap.size < _; omega)).trans x0
      replace x1 := (hb.cell (p := ⟨w.heap.size, 1, none⟩) (by show w.heap.size < _; omega)).trans x1
      have hD2 := hD1.below hb (Nat.le_refl _)
      have hB2 := hB1.trans (hb.mono (by omega))
      have hMl := hM.lt
      have hlk := hM.look_ok (t := 77) Try.underlying77 Try.underlying3 zero_rec (k := (i : Int) + 1) (wf_int (by omega))
      rw [hlm.out] at hlk
      clear hb hF1 hD1 hB1 hok
      generalize last s.flash ((i : Int) + 1) = r at *
      unfold rcV at hlk
      by_cases hr : 0 < r.seq
      · rw [foundR_some hr] at hlk
        simp only [Option.getD_some, Option.isSome_some] at hlk
        have hx := hfin2.out
        rw [if_pos hr] at hx
        replace hx := Lib.hid hx
        clear hr hfin2
        go_wp2
        go_ret
        exact ⟨ret_int (by rw [hx.out]), hB2.alloc (by omega) _⟩
      · simp only [foundR_none hr, Option.getD_none, Option.isSome_none, rc0] at hlk
        have hx := hfin2.out
        rw [if_neg hr] at hx
        replace hx := Lib.hid hx
        have hw1 : w.heap.size < w2.heap.size := by omega
        have y1 : (w2.alloc (.cells #[.int .i64 0, .int .i64 0, .int .i64 0, .int .i64 0] 35)).cell? ⟨w.heap.size, 1, none⟩ = some (.slice (some ⟨db, dO, none⟩) 6 d) := (((Below.refl w2.heap.size w2).alloc (Nat.le_refl _) _).cell (p := ⟨w.heap.size, 1, none⟩) hw1).trans x1
        obtain ⟨cv, _⟩ := (hD2.alloc (.cells #[.int .i64 0, .int .i64 0, .int .i64 0, .int .i64 0] 35)).int_ HV.out
        have e1 : IntKind.i64.wrap ((i : Int) + 1 - 1) = i := by rw [show (i : Int) + 1 - 1 = i by omega]; exact IntWalk.i64_in _ (by omega)
        clear hr hfin2
        go_wp2
        go_ret
        exact ⟨ret_int (by rw [hx.out]), hB2.alloc (by omega) _⟩
    · have hx : Hid (storeRead s a = -1) := by rw [Hid, hfin.out, if_neg ha]
      have haok := fun w => impl_addrOk a w
      rw [show addrB a = false from by simpa using ha] at haok
      have HAOK := Lib.hid haok
      clear ha haok hfin
      go_wp2_with fail
      refine (HAOK.out _).mono ?_
      rintro e w2 ⟨rfl, rfl⟩
      go_wp2
      go_ret
      exact ⟨ret_int (by rw [hx.out]), hB1⟩
  · have hx : Hid (storeRead s a = -1) := by unfold Hid storeRead; rw [if_neg hsok]
    rw [show storeOk s = false from by simpa using hsok]
    clear hsok
    go_wp2
    go_ret
    exact ⟨ret_int (by rw [hx.out]), hB1⟩
/-- the values of all addresses from k on -/
def valsFrom (s : St) : Nat → Nat → List Int
  | _, 0 => []
  | k, n + 1 => readV s ((k : Int) + 1) :: valsFrom s (k + 1) n
def allV (s : St) : List Int := valsFrom s 0 6
theorem allV_len (s : St) : (allV s).length = 6 := rfl
theorem valsFrom_get (s : St) : ∀ (n k j : Nat), j < n → (valsFrom s k n)[j]? = some (readV s (((k + j : Nat) : Int) + 1))
  | 0, _, _, h => by omega
  | n + 1, k, 0, _ => by simp [valsFrom]
  | n + 1, k, j + 1, h => by
    rw [valsFrom, List.getElem?_cons_succ, valsFrom_get s n (k + 1) j (by omega)]
    congr 3
    omega
theorem allV_get (s : St) {j : Nat} (h : j < 6) : (allV s)[j]? = some (readV s ((j : Int) + 1)) := by
  have := valsFrom_get s 6 0 j h
  rw [Nat.zero_add] at this
  exact this
theorem vals_step {xs : List Int} {k : Nat} {v : Int} (h6 : xs.length = 6) (hk : k < 6) (hv : xs[k]? = some v) (u : Int) :
    ((xs.take k ++ (List.replicate 6 (0 : Int)).drop k).set k u).set k v = xs.take (k + 1) ++ (List.replicate 6 (0 : Int)).drop (k + 1) := by
  rw [List.set_set]
  exact copy_step 0 xs 6 k v hv h6
set_option maxHeartbeats 4000000 in
set_option maxRecDepth 100000 in
theorem impl_StoreAll (s : St) (A D : Option Addr) (n m c d : Nat) (w : World) (hn : n = s.flash.length) (hm : m = s.disk.length) (hF : Fl w A s.flash) (hD : Row w D (ints s.disk)) :
    Calls Try.prog 22 #[.agg #[.slice A n c, .slice D m d]] w fun e w' => Below w.heap.size w w' ∧
      (storeOk s = true ∧ (∃ g, e = .returned (.slice (some ⟨g, 0, none⟩) 6 6) ∧ w.heap.size ≤ g ∧ Row w' (some ⟨g, 0, none⟩) (ints (allV s))) ∨ storeOk s = false ∧ e = .returned (.slice none 0 0)) := by
  subst hn; subst hm
  have hmk := make_disk
  have hB0 : Below w.heap.size w (w.alloc (.cells #[.slice A s.flash.length c, .slice D s.disk.length d] 39)) := (Below.refl _ _).alloc (Nat.le_refl _) _
  have hF0 := hF.below hB0 (Nat.le_refl _)
  have hD0 := hD.below hB0 (Nat.le_refl _)
  go_enter Try.func22, Try.ntmps22
  go_wp2_with fail
  refine (impl_StoreOk s A D _ _ c d _ rfl rfl hF0 hD0).mono ?_
  rintro e w1 ⟨rfl, hb⟩
  have hs1 := hb.size
  simp only [World.size_alloc] at hs1
  have x0 : w1.cell? ⟨w.heap.size, 0, none⟩ = some (.slice A s.flash.length c) := (hb.cell (p := ⟨w.heap.size, 0, none⟩) (by simp)).trans (by simp)
  have x1 : w1.cell? ⟨w.heap.size, 1, none⟩ = some (.slice D s.disk.length d) := (hb.cell (p := ⟨w.heap.size, 1, none⟩) (by simp)).trans (by simp)
  have hF1 := hF0.below hb (Nat.le_refl _)
  have hD1 := hD0.below hb (Nat.le_refl _)
  have hB1 := hB0.trans (hb.mono (by simp))
  clear hb hF0 hD0 hB0
  by_cases hsok : storeOk s = true
  · obtain ⟨h6, hord, _⟩ := storeOk_parts hsok
    have hok := order_ok hord
    have HSOK := Lib.hid hsok
    have hlm := Lib.hid (fun a => lastMap_eq hok a)
    have H6 := Lib.hid h6
    obtain ⟨db, dO, rfl⟩ := hD1.addr (ints_ne' (by intro e; rw [e] at h6; simp at h6))
    rw [hsok]
    rw [h6] at x1
    clear hsok hord
    go_wp2_with fail
    refine (impl_lastRecords s.flash A _ c _ rfl hok hF1).mono ?_
    rintro e w2 ⟨rfl, hM, hb⟩
    have hs2 := hb.size
    replace x0 := (hb.cell (p := ⟨w.heap.size, 0, none⟩) (by show w.heap.size < _; omega)).trans x0
    replace x1 := (hb.cell (p := ⟨w.heap.size, 1, none⟩) (by show w.heap.size < _; omega)).trans x1
    have hD2 := (hD1.below hb (Nat.le_refl _)).alloc (.cells #[.int .i64 0, .int .i64 0, .int .i64 0, .int .i64 0, .int .i64 0, .int .i64 0] 3)
    have hB2 := (hB1.trans (hb.mono (by omega))).alloc (by omega) (.cells #[.int .i64 0, .int .i64 0, .int .i64 0, .int .i64 0, .int .i64 0, .int .i64 0] 3)
    have hMl := hM.lt
    replace hM := hM.alloc (.cells #[.int .i64 0, .int .i64 0, .int .i64 0, .int .i64 0, .int .i64 0, .int .i64 0] 3)
    have hwn : w.heap.size < w2.heap.size := by omega
    have x1' : (w2.alloc (.cells #[.int .i64 0, .int .i64 0, .int .i64 0, .int .i64 0, .int .i64 0, .int .i64 0] 3)).cell? ⟨w.heap.size, 1, none⟩ = some (.slice (some ⟨db, dO, none⟩) 6 d) := (((Below.refl w2.heap.size w2).alloc (Nat.le_refl _) _).cell (p := ⟨w.heap.size, 1, none⟩) hwn).trans x1
    have hR0 : Row (w2.alloc (.cells #[.int .i64 0, .int .i64 0, .int .i64 0, .int .i64 0, .int .i64 0, .int .i64 0] 3)) (some ⟨w2.heap.size, 0, none⟩) (ints ((allV s).take 0 ++ (List.replicate 6 (0 : Int)).drop 0)) := Row.new w2 _ _
    have hdb : db < w2.heap.size := by
      obtain ⟨v, hv⟩ := get_some (l := s.disk) (k := 0) (by omega)
      have := lt_of_cell (hD1.int_ hv).1
      omega
    have hs3 : (w2.alloc (.cells #[.int .i64 0, .int .i64 0, .int .i64 0, .int .i64 0, .int .i64 0, .int .i64 0] 3)).heap.size = w2.heap.size + 1 := by simp
    clear hb hF1 hD1 hB1 hok h6
    go_wp2
    obtain ⟨W, hW⟩ : ∃ W, w2.alloc (.cells #[.int .i64 0, .int .i64 0, .int .i64 0, .int .i64 0, .int .i64 0, .int .i64 0] 3) = W := ⟨_, rfl⟩
    rw [hW] at hD2 hB2 hM x1' hR0 hs3 ⊢
    clear hW hmk x0 x1
    go_loopw [19] (fun i wr => ∃ k : Nat, k ≤ 6 ∧ i = .int .i64 k ∧ Agr (· = w2.heap.size) W wr ∧ Row wr (some ⟨w2.heap.size, 0, none⟩) (ints ((allV s).take k ++ (List.replicate 6 (0 : Int)).drop k))) (fun i _ => 6 - (intOf i).toNat)
    case atStart => exact ⟨0, by omega, rfl, Agr.refl _ _, hR0⟩
    case round =>
      obtain ⟨k, hk, rfl, hA, hR⟩ := hrel
      by_cases hlt : k < 6
      · obtain ⟨v, hv⟩ := get_some (l := s.disk) (k := k) (by rw [H6.out]; exact hlt)
        obtain ⟨cv, _⟩ := (hD2.agr hA (fun b hb => by rw [blk_some] at hb; omega)).int_ hv
        have hk1 : (k : Int) < 6 := by omega
        have e1 : IntKind.i64.wrap ((k : Int) + 1) = (k : Int) + 1 := IntWalk.i64_in _ (by omega)
        have hgd : s.disk.getD k 0 = v := by rw [List.getD_eq_getElem?_getD, hv]; rfl
        have hrv : Hid (readV s ((k : Int) + 1) = if 0 < (last s.flash ((k : Int) + 1)).seq then (last s.flash ((k : Int) + 1)).val else v) := by unfold Hid readV; rw [show ((k : Int) + 1 - 1).toNat = k by omega, hgd]
        have hlen : ((allV s).take k ++ (List.replicate 6 (0 : Int)).drop k).length = 6 := by simp [allV_len]; omega
        obtain ⟨q, hq⟩ := get_some (l := (allV s).take k ++ (List.replicate 6 (0 : Int)).drop k) (k := k) (by omega)
        obtain ⟨c0, f0⟩ := hR.int_ hq
        rw [Nat.zero_add] at c0 f0
        have hW1 := wrote_one c0 (.int .i64 v)
        have hR1 := hR.putInt (k := k) (x := v) (by omega) (by rw [Nat.zero_add]; exact hW1)
        have hA1 := hA.trans hW1.agr (fun _ _ h => h)
        have hlk := (show RMap Try.prog 3 (wr.setCell ⟨w2.heap.size, k, none⟩ (.int .i64 v)) w1.heap.size 16 (lastMap (allFrom 0 s.flash)) from by
          obtain ⟨Dm, ⟨es, ck, e, r⟩, h2⟩ := hM
          exact ⟨Dm, ⟨es, ck, (hA1.block w1.heap.size (by omega) (by omega)).trans e, r⟩, h2⟩).look_ok (t := 77) Try.underlying77 Try.underlying3 zero_rec (k := (k : Int) + 1) (wf_int (by omega))
        rw [hlm.out] at hlk
        have hstep := Lib.hid (fun (r : Int) (h : readV s ((k : Int) + 1) = r) => vals_step (xs := allV s) (k := k) (v := r) rfl hlt (by rw [allV_get s hlt, h]) v)
        have hR1' := Lib.hid hR1
        have hA1' := Lib.hid hA1
        have hsz := hA.size
        clear hv hgd hq hlen hR hW1 hR1 hA1
        generalize last s.flash ((k : Int) + 1) = r at *
        unfold rcV at hlk
        by_cases hr : 0 < r.seq
        · rw [foundR_some hr] at hlk
          simp only [Option.getD_some, Option.isSome_some] at hlk
          have hx := hstep.out r.val (by rw [hrv.out, if_pos hr])
          have hlen2 : (((allV s).take k ++ (List.replicate 6 (0 : Int)).drop k).set k v).length = 6 := by simp [allV_len]; omega
          have hRa := hR1'.out.alloc (.cells #[.int .i64 r.kind, .int .i64 r.seq, .int .i64 r.addr, .int .i64 r.val] 35)
          obtain ⟨q, hq⟩ := get_some (l := ((allV s).take k ++ (List.replicate 6 (0 : Int)).drop k).set k v) (k := k) (by omega)
          obtain ⟨d0, g0⟩ := hRa.int_ hq
          have hW2 := wrote_one d0 (.int .i64 r.val)
          have hR2 := hRa.putInt (k := k) (x := r.val) (by omega) hW2
          rw [hx] at hR2
          have hA2 := (hA1'.out.alloc (.cells #[.int .i64 r.kind, .int .i64 r.seq, .int .i64 r.addr, .int .i64 r.val] 35)).trans hW2.agr (fun _ _ h => h)
          rw [Nat.zero_add] at d0 g0 hR2 hA2
          clear hq hlen2 hRa hW2 hr hx hrv hstep
          go_wp2
          go_roundw
          (case rel => exact ⟨k + 1, by omega, by go_num, hA2, hR2⟩)
          (case measure => simp [intOf]; omega)
        · simp only [foundR_none hr, Option.getD_none, Option.isSome_none, rc0] at hlk
          have hx := hstep.out v (by rw [hrv.out, if_neg hr])
          rw [List.set_set] at hx
          have hRa := hR1'.out.alloc (.cells #[.int .i64 0, .int .i64 0, .int .i64 0, .int .i64 0] 35)
          rw [hx] at hRa
          have hA2 := hA1'.out.alloc (.cells #[.int .i64 0, .int .i64 0, .int .i64 0, .int .i64 0] 35)
          clear hr hx hrv hstep
          go_wp2
          go_roundw
          (case rel => exact ⟨k + 1, by omega, by go_num, hA2, hRa⟩)
          (case measure => simp [intOf]; omega)
      · have hk4 : (6 : Int) ≤ (k : Int) := by omega
        have hkk : k = 6 := by omega
        have hRf : Row wr (some ⟨w2.heap.size, 0, none⟩) (ints (allV s)) := by rw [hkk] at hR; exact hR
        have hBf := hB2.trans (hA.below (B := w.heap.size) (by omega) (fun i hi => by omega))
        clear hR hkk
        go_wp2
        go_ret
        exact ⟨hBf, .inl ⟨HSOK.out, _, rfl, by omega, hRf⟩⟩
  · have hsok' : storeOk s = false := by simpa using hsok
    have HN := Lib.hid hsok'
    rw [hsok']
    clear hsok hsok'
    go_wp2
    go_ret
    exact ⟨hB1, .inr ⟨HN.out, rfl⟩⟩
/-- a row of whole numbers of one's own, in a block from base on -/
def OwnI (w : World) (base : Nat) (v : Value) (xs : List Int) : Prop := w.ownsRow base 3 1 v xs.length (ints xs)
theorem OwnI.below {w w' : World} {base B : Nat} {v : Value} {xs : List Int} (h : OwnI w base v xs) (hb : Below B w w') (hB : w.heap.size ≤ B) : OwnI w' base v xs := ownsRow_keep h fun b _ hl => hb.block b (by omega)
theorem OwnI.agr {w w' : World} {base : Nat} {v : Value} {xs : List Int} {S : Nat → Prop} (h : OwnI w base v xs) (hb : Agr S w w') (hS : ∀ b, base ≤ b → ¬ S b) : OwnI w' base v xs := by
  refine ownsRow_keep h fun b hbl hl => hb.block b hl (hS b ?_)
  exact (World.ownsRow.lt h b hbl).1
theorem OwnI.alloc {w : World} {base : Nat} {v : Value} {xs : List Int} (h : OwnI w base v xs) (o : Obj) : OwnI (w.alloc o) base v xs := h.below (B := w.heap.size) ((Below.refl _ _).alloc (Nat.le_refl _) _) (Nat.le_refl _)
theorem OwnI.nil (w : World) (base : Nat) : OwnI w base (.slice none 0 0) [] := World.ownsRow_nil w base _ _
theorem OwnI.snoc {w : World} {base g n c : Nat} {xs : List Int} {x : Int} (hn : n = xs.length + 1) (h : w.ownsRow base 3 1 (.slice (some ⟨g, 0, none⟩) (xs.length + 1) c) (xs.length + 1) (ints xs ++ [.int .i64 x])) : OwnI w base (.slice (some ⟨g, 0, none⟩) n c) (xs ++ [x]) := by
  subst hn
  unfold OwnI ints
  rw [List.length_append, List.map_append]
  exact h
/-- a slice of one's own, written out -/
theorem OwnI.out {w : World} {base : Nat} {v : Value} {xs : List Int} (h : OwnI w base v xs) : ∃ A c, v = .slice A xs.length c ∧ Row w A (ints xs) ∧ (∀ b, blk A b → base ≤ b ∧ b < w.heap.size) ∧ xs.length ≤ c := by
  have h' := h
  obtain ⟨hl, ⟨hv, hz⟩ | ⟨g, cap, cur, hv, hb, hh, hnc, hm, hs, ht⟩⟩ := h
  · have hxs : xs = [] := List.eq_nil_of_length_eq_zero hz
    subst hxs
    exact ⟨none, 0, hv, Row.nil _ _, (fun b hb => by cases hb), Nat.le_refl _⟩
  · refine ⟨some ⟨g, 0, none⟩, cap, hv, ?_, fun b hb' => ?_, hnc⟩
    · rw [hv] at h'; exact Row.of_own h'
    · rw [blk_some] at hb'
      subst hb'
      exact ⟨hb, (Array.getElem?_eq_some_iff.1 hh).1⟩
def dirtyTo (f : List Bk) : Nat → List Int
  | 0 => []
  | k + 1 => if dirty f ((k : Int) + 1) = true then dirtyTo f k ++ [(k : Int) + 1] else dirtyTo f k
theorem dirtyTo_len (f : List Bk) : ∀ k, (dirtyTo f k).length ≤ k
  | 0 => Nat.le_refl _
  | k + 1 => by
    have := dirtyTo_len f k
    unfold dirtyTo
    split
    · rw [List.length_append]; simp; omega
    · omega
def dirtyL (s : St) : List Int := if storeOk s = true then dirtyTo s.flash 6 else []
theorem dirtyL_len (s : St) : (dirtyL s).length ≤ 6 := by
  unfold dirtyL
  split
  · exact dirtyTo_len _ _
  · simp
set_option maxHeartbeats 4000000 in
set_option maxRecDepth 100000 in
theorem impl_StoreDirty (s : St) (A D : Option Addr) (n m c d : Nat) (w : World) (hn : n = s.flash.length) (hm : m = s.disk.length) (hF : Fl w A s.flash) (hD : Row w D (ints s.disk)) :
    Calls Try.prog 30 #[.agg #[.slice A n c, .slice D m d]] w fun e w' => ∃ v, e = .returned v ∧ OwnI w' w.heap.size v (dirtyL s) ∧ Below w.heap.size w w' := by
  subst hn; subst hm
  obtain ⟨ib, hib, hbz0, hbz1, hbz2⟩ := info_parts Try.info_int
  have hB0 : Below w.heap.size w (w.alloc (.cells #[.slice A s.flash.length c, .slice D s.disk.length d] 39)) := (Below.refl _ _).alloc (Nat.le_refl _) _
  have hF0 := hF.below hB0 (Nat.le_refl _)
  have hD0 := hD.below hB0 (Nat.le_refl _)
  go_enter Try.func30, Try.ntmps30
  go_wp2_with fail
  refine (impl_StoreOk s A D _ _ c d _ rfl rfl hF0 hD0).mono ?_
  rintro e w1 ⟨rfl, hb⟩
  have hs1 := hb.size
  simp only [World.size_alloc] at hs1
  have x0 : w1.cell? ⟨w.heap.size, 0, none⟩ = some (.slice A s.flash.length c) := (hb.cell (p := ⟨w.heap.size, 0, none⟩) (by simp)).trans (by simp)
  have hF1 := hF0.below hb (Nat.le_refl _)
  have hB1 := hB0.trans (hb.mono (by simp))
  clear hb hF0 hD0 hB0
  by_cases hsok : storeOk s = true
  · obtain ⟨_, hord, _⟩ := storeOk_parts hsok
    have hok := order_ok hord
    have hfin : Hid (dirtyL s = dirtyTo s.flash 6) := by unfold Hid dirtyL; rw [if_pos hsok]
    have hlm := Lib.hid (fun a => lastMap_eq hok a)
    rw [hsok]
    clear hsok hord
    go_wp2_with fail
    refine (impl_lastRecords s.flash A _ c _ rfl hok hF1).mono ?_
    rintro e w2 ⟨rfl, hM, hb⟩
    have hs2 := hb.size
    have hB2 := hB1.trans (hb.mono (by omega))
    have hMl := hM.lt
    clear hb hF1 hD hF hB1 hok x0
    go_wp2
    go_loopw [5, 6] (fun q i wr => ∃ k : Nat, k ≤ 6 ∧ i = .int .i64 ((k : Int) + 1) ∧ Below w2.heap.size w2 wr ∧ OwnI wr w2.heap.size q (dirtyTo s.flash k)) (fun _ i _ => 8 - (intOf i).toNat)
    case atStart => exact ⟨0, by omega, rfl, Below.refl _ _, OwnI.nil _ _⟩
    case round =>
      obtain ⟨k, hk, rfl, hB, hO⟩ := hrel
      by_cases hlt : k < 6
      · have hk1 : (k : Int) + 1 ≤ 6 := by omega
        have e1 : IntKind.i64.wrap ((k : Int) + 1 + 1) = (k : Int) + 1 + 1 := IntWalk.i64_in _ (by omega)
        have hst : Hid (dirtyTo s.flash (k + 1) = if dirty s.flash ((k : Int) + 1) = true then dirtyTo s.flash k ++ [(k : Int) + 1] else dirtyTo s.flash k) := rfl
        have hdv : Hid (dirty s.flash ((k : Int) + 1) = (decide (0 < (last s.flash ((k : Int) + 1)).seq) && decide ((last s.flash ((k : Int) + 1)).kind = 1))) := rfl
        have hlk := (hM.below hB hMl).look_ok (t := 77) Try.underlying77 Try.underlying3 zero_rec (k := (k : Int) + 1) (wf_int (by omega))
        rw [hlm.out] at hlk
        have hxl := dirtyTo_len s.flash k
        have hsz := hB.size
        generalize last s.flash ((k : Int) + 1) = r at *
        generalize dirtyTo s.flash k = xs at *
        unfold rcV at hlk
        by_cases hr : 0 < r.seq
        · rw [foundR_some hr] at hlk
          simp only [Option.getD_some, Option.isSome_some] at hlk
          have hBa := hB.alloc hB.size (.cells #[.int .i64 r.kind, .int .i64 r.seq, .int .i64 r.addr, .int .i64 r.val] 35)
          have hOa := hO.alloc (.cells #[.int .i64 r.kind, .int .i64 r.seq, .int .i64 r.addr, .int .i64 r.val] 35)
          clear hO
          go_wp2_with fail
          refine (impl_isDirty r _).mono ?_
          rintro e w3 ⟨rfl, hb3⟩
          have hO3 := hOa.below hb3 (Nat.le_refl _)
          have hB3 := hBa.trans (hb3.mono (by have := hB.size; simp; omega))
          have hs3 := hB3.size
          clear hb3 hBa hOa hlk
          by_cases h1 : r.kind = 1
          · have hx := hst.out
            rw [if_pos (by rw [hdv.out]; simp [hr, h1])] at hx
            replace hx := Lib.hid hx
            rw [show decide (r.kind = 1) = true from decide_eq_true h1]
            have hO4 := hO3.alloc (.cells #[.int .i64 ((k : Int) + 1)] 3)
            have hrow := Row.new w3 #[.int .i64 ((k : Int) + 1)] 3
            have hnews : ∀ j u, [Value.int .i64 ((k : Int) + 1)][j]? = some u → (w3.alloc (.cells #[.int .i64 ((k : Int) + 1)] 3)).cell? ((⟨w3.heap.size, 0, none⟩ : Addr).add j) = some u := hrow.news
            have hQ : ∀ q, u5.ownBlock = some q → w2.heap.size ≤ q ∧ q < w3.heap.size := fun q e => World.ownsRow.lt hO3 q e
            have hB4 := hB3.alloc hB3.size (.cells #[.int .i64 ((k : Int) + 1)] 3)
            clear hst h1 hr hrow
            go_wp2_with (at_builtin; refine wpList_append_lies _ rfl (.tmp 31) (.tmp 33) _ rfl w2.heap.size 3 ib _ 1 8 Try.underlying37 hib hbz0 hbz1 hbz2 rfl (by omega) u5 xs.length (ints xs) rfl hO4 ⟨w3.heap.size, 0, none⟩ 1 1 [.int .i64 ((k : Int) + 1)] rfl rfl hnews (by simp [Value.oneCell']) (by omega) (by unfold maxLen; omega) (by omega) (by simp; omega) (w3.heap.size + 1) (by simp) ?_; intro g2 c2 w7 hown2 hgrow2 hat2 hlt2)
            have hB7 : Below w2.heap.size w2 w7 := hB4.trans ((Agr.refl (fun b => u5.ownBlock = some b) _).grown hgrow2 (fun g hg => .inr hg) |>.below (by simp; omega) (fun i hi => (hQ i hi).1))
            have hO7 : OwnI w7 w2.heap.size (.slice (some ⟨g2, 0, none⟩) (xs.length + 1) c2) (xs ++ [(k : Int) + 1]) := OwnI.snoc rfl hown2
            rw [← hx.out] at hO7
            clear hown2 hgrow2 hat2 hO4 hO3 hQ hnews hB4
            go_wp2
            go_roundw
            (case rel => exact ⟨k + 1, by omega, by go_num, hB7, hO7⟩)
            (case measure => simp [intOf]; omega)
          · have hx := hst.out
            rw [if_neg (by rw [hdv.out]; simp [h1])] at hx
            replace hx := Lib.hid hx
            rw [show decide (r.kind = 1) = false from decide_eq_false h1]
            rw [← hx.out] at hO3
            clear hst h1
            go_wp2
            go_roundw
            (case rel => exact ⟨k + 1, by omega, by go_num, hB3, hO3⟩)
            (case measure => simp [intOf]; omega)
        · simp only [foundR_none hr, Option.getD_none, Option.isSome_none, rc0] at hlk
          have hx := hst.out
          rw [if_neg (by rw [hdv.out]; simp [hr])] at hx
          replace hx := Lib.hid hx
          have hBa := hB.alloc hB.size (.cells #[.int .i64 0, .int .i64 0, .int .i64 0, .int .i64 0] 35)
          have hOa := hO.alloc (.cells #[.int .i64 0, .int .i64 0, .int .i64 0, .int .i64 0] 35)
          rw [← hx.out] at hOa
          clear hst hr hO
          go_wp2
          go_roundw
          (case rel => exact ⟨k + 1, by omega, by go_num, hBa, hOa⟩)
          (case measure => simp [intOf]; omega)
      · have hk4 : ¬ ((k : Int) + 1 ≤ 6) := by omega
        have hkk : k = 6 := by omega
        have hOf : OwnI wr w.heap.size u5 (dirtyL s) := by rw [hfin.out, ← hkk]; exact World.ownsRow.mono hO (by omega)
        have hBf := hB2.trans (hB.mono (by omega))
        clear hO hkk
        go_wp2
        go_ret
        exact ⟨u5, rfl, hOf, hBf⟩
  · have hfin : dirtyL s = [] := by unfold dirtyL; rw [if_neg hsok]
    rw [show storeOk s = false from by simpa using hsok]
    have hOf : OwnI w1 w.heap.size (.slice none 0 0) (dirtyL s) := by rw [hfin]; exact OwnI.nil _ _
    clear hsok hfin
    go_wp2
    go_ret
    exact ⟨_, rfl, hOf, hB1⟩
end Go.Proofs.Ytfkjhnfbajflaaa
