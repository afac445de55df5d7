/- Walks: steps done, one behind the other. Walks: what happens: all that is told, an event. -/
import Derived.Test.YtfkjhnfbajflaaaG11
import Derived.Test.YtfkjhnfbajflaaaE3
namespace Go.Proofs.Ytfkjhnfbajflaaa
set_option linter.unusedVariables false
set_option linter.unusedSimpArgs false
open Go.RowKit Go.Maps
set_option maxHeartbeats 400000
theorem Row.sp {w : World} {b o k : Nat} {xs : List Sp} {x : Sp} (h : Row w (some ⟨b, o, none⟩) (sps xs)) (hk : xs[k]? = some x) :
    w.cell? ⟨b, o + k * 8, none⟩ = some (.int .i64 x.kind) ∧ w.cell? ⟨b, o + k * 8 + 1, none⟩ = some (.int .i64 x.addr) ∧ w.cell? ⟨b, o + k * 8 + 2, none⟩ = some (.int .i64 x.val) ∧ w.cell? ⟨b, o + k * 8 + 3, none⟩ = some (.int .i64 x.block) ∧
    w.cell? ⟨b, o + k * 8 + 4, none⟩ = some (.int .i64 x.rc.kind) ∧ w.cell? ⟨b, o + k * 8 + 5, none⟩ = some (.int .i64 x.rc.seq) ∧ w.cell? ⟨b, o + k * 8 + 6, none⟩ = some (.int .i64 x.rc.addr) ∧ w.cell? ⟨b, o + k * 8 + 7, none⟩ = some (.int .i64 x.rc.val) := by
  have hlt := (List.getElem?_eq_some_iff.1 hk).1
  obtain ⟨b', o', he, hc⟩ := h (by intro e; have := sps_len xs; rw [e] at this; simp at this; omega)
  cases he
  have hg : ∀ j u, x.vs[j]? = some u → j < 8 → w.cell? ⟨b, o + (k * 8 + j), none⟩ = some u := fun j u hj hl => (hc (k * 8 + j) u (by rw [sps, flat_get _ 8 (fun _ => rfl) xs k j x hk hl]; exact hj)).1
  exact ⟨hg 0 _ rfl (by omega), hg 1 _ rfl (by omega), hg 2 _ rfl (by omega), hg 3 _ rfl (by omega), hg 4 _ rfl (by omega), hg 5 _ rfl (by omega), hg 6 _ rfl (by omega), hg 7 _ rfl (by omega)⟩
theorem doAllOf_snoc (s : St) (xs : List Sp) (x : Sp) : doAllOf s (xs ++ [x]) = doStep (doAllOf s xs) x false := by
  unfold doAllOf; rw [List.foldl_append]; rfl
theorem doAllOf_take {xs : List Sp} {k : Nat} {x : Sp} (s : St) (h : xs[k]? = some x) : doAllOf s (xs.take (k + 1)) = doStep (doAllOf s (xs.take k)) x false := by
  rw [List.take_add_one, h]; exact doAllOf_snoc _ _ _
theorem OSt.drew {w : World} {lo hi : Nat} {A D : Option Addr} {f : List Bk} {xs : List Int} (h : OSt w lo hi A f D xs) : OSt w.drew lo hi A f D xs := h.keep fun _ _ _ _ => rfl
set_option maxHeartbeats 4000000 in
set_option maxRecDepth 100000 in
theorem spec_l12To (s : St) (xs : List Sp) (cut : Int) (torn : Bool) (A D V : Option Addr) (c d cs lo hi : Nat) (w : World) (hs : stFine s) (hx : ∀ x ∈ xs, spFine x) (hl : xs.length < 1000000000000) (hhi : hi ≤ w.heap.size) (hO : OSt w lo hi A s.flash D s.disk) (hX : Row w V (sps xs)) (hV : ∀ b, blk V b → ¬ (lo ≤ b ∧ b < hi)) :
    Calls Try.prog 74 #[.agg #[.slice A 4 c, .slice D 6 d], .slice V xs.length cs, .int .i64 cut, .bool torn] w fun r w' =>
      r = .returned (.agg #[.slice A 4 c, .slice D 6 d]) ∧ OSt w' lo hi A (doTo s xs cut torn).flash D (doTo s xs cut torn).disk ∧ Agr (fun b => lo ≤ b ∧ b < hi) w w' := by
  have HX := Lib.hid hx
  have HS := Lib.hid hs
  have HV := Lib.hid hV
  clear hx hs hV
  go_enter Try.func74, Try.ntmps74
  go_wp2
  go_loopw [9] (fun i wr => ∃ k : Nat, k ≤ xs.length ∧ i = .int .i64 k ∧ (k : Int) ≤ max cut 0 ∧ OSt wr lo hi A (doAllOf s (xs.take k)).flash D (doAllOf s (xs.take k)).disk ∧ Agr (fun b => lo ≤ b ∧ b < hi) w wr ∧ w.heap.size + 1 < wr.heap.size ∧
    (wr.cell? ⟨w.heap.size, 0, none⟩ = some (.slice A 4 c) ∧ wr.cell? ⟨w.heap.size, 1, none⟩ = some (.slice D 6 d) ∧ wr.frozen? ⟨w.heap.size, 0, none⟩ = false ∧ wr.frozen? ⟨w.heap.size, 1, none⟩ = false) ∧
    (∃ u0 u1, wr.cell? ⟨w.heap.size + 1, 0, none⟩ = some u0 ∧ wr.cell? ⟨w.heap.size + 1, 1, none⟩ = some u1 ∧ wr.frozen? ⟨w.heap.size + 1, 0, none⟩ = false ∧ wr.frozen? ⟨w.heap.size + 1, 1, none⟩ = false)) (fun i _ => xs.length - (intOf i).toNat)
  case atStart =>
    have hN := Row.new (w.alloc (.cells #[.slice A 4 c, .slice D 6 d] 39)) #[.slice none 0 0, .slice none 0 0] 39
    simp only [World.size_alloc] at hN
    have hM := (Row.new w #[.slice A 4 c, .slice D 6 d] 39).alloc (.cells #[.slice none 0 0, .slice none 0 0] 39)
    exact ⟨0, by omega, rfl, by omega, (hO.alloc' _).alloc' _, ((Agr.refl _ _).alloc _).alloc _, by simp, ⟨(hM.at0 (j := 0) rfl).1, (hM.at0 (j := 1) rfl).1, (hM.at0 (j := 0) rfl).2, (hM.at0 (j := 1) rfl).2⟩, ⟨_, _, (hN.at0 (j := 0) rfl).1, (hN.at0 (j := 1) rfl).1, (hN.at0 (j := 0) rfl).2, (hN.at0 (j := 1) rfl).2⟩⟩
  case round =>
    obtain ⟨k, hk, rfl, hkc, hOk, hA, hsz, ⟨b0, b1, b2, b3⟩, ⟨u0, u1, q0, q1, q2, q3⟩⟩ := hrel
    by_cases hgo : k < xs.length ∧ (k : Int) < cut
    · obtain ⟨hlt, hct⟩ := hgo
      obtain ⟨x, hxk⟩ := get_some hlt
      have hxf := HX.out x (List.mem_of_getElem? hxk)
      have hst := doAllOf_fine (xs := xs.take k) HS.out (fun y hy => HX.out y (List.mem_of_mem_take hy))
      have hXk := hX.agr hA HV.out
      obtain ⟨vb, vo, rfl⟩ := hXk.addr (by intro e; have := sps_len xs; rw [e] at this; simp at this; omega)
      obtain ⟨c0, c1, c2, c3, c4, c5, c6, c7⟩ := hXk.sp hxk
      have hst2 := doAllOf_take s hxk
      have HT := Lib.hid hst2
      have hk1 : (k : Int) < xs.length := by omega
      clear hst2 hxk hXk
      go_wp2
      have hle : hi ≤ wr.drew.heap.size := by show hi ≤ wr.heap.size; omega
      have hn0 : ¬ (lo ≤ w.heap.size ∧ w.heap.size < hi) := by omega
      have hl0 : w.heap.size < wr.drew.heap.size := by show w.heap.size < wr.heap.size; omega
      have hOd := hOk.drew
      have g0 : wr.drew.cell? ⟨w.heap.size, 0, none⟩ = some (.slice A 4 c) := b0
      have g1 : wr.drew.cell? ⟨w.heap.size, 1, none⟩ = some (.slice D 6 d) := b1
      have g2 : wr.drew.frozen? ⟨w.heap.size, 0, none⟩ = false := b2
      have g3 : wr.drew.frozen? ⟨w.heap.size, 1, none⟩ = false := b3
      go_region_with (first | (go_at_call 77; refine (spec_l12Do (doAllOf s (xs.take k)) x false A D c d lo hi _ hst hxf hle hOd).mono ?_; rintro e w1 ⟨rfl, hO1, hA1⟩; have d0 := (hA1.cell hl0 hn0 0).trans g0; have d1 := (hA1.cell hl0 hn0 1).trans g1; have d2 := (hA1.fz hl0 hn0 0).trans g2; have d3 := (hA1.fz hl0 hn0 1).trans g3))
      all_goals
        have hn1 : ¬ (lo ≤ w.heap.size + 1 ∧ w.heap.size + 1 < hi) := by omega
        have hl1 : w.heap.size + 1 < wr.drew.heap.size := hsz
        have r0 := (hA1.cell hl1 hn1 0).trans (show wr.drew.cell? ⟨w.heap.size + 1, 0, none⟩ = some u0 from q0)
        have r1 := (hA1.cell hl1 hn1 1).trans (show wr.drew.cell? ⟨w.heap.size + 1, 1, none⟩ = some u1 from q1)
        have r2 := (hA1.fz hl1 hn1 0).trans (show wr.drew.frozen? ⟨w.heap.size + 1, 0, none⟩ = false from q2)
        have r3 := (hA1.fz hl1 hn1 1).trans (show wr.drew.frozen? ⟨w.heap.size + 1, 1, none⟩ = false from q3)
        have hA2 := hA.drew.trans hA1 (fun b _ hb => hb)
        have hs1 : wr.heap.size ≤ w1.heap.size := hA1.size
        rw [← HT.out] at hO1
        have hW : Wrote w1 ((w1.setCell ⟨w.heap.size, 0, none⟩ (.slice A 4 c)).setCell ⟨w.heap.size, 1, none⟩ (.slice D 6 d)) w.heap.size 0 [.slice A 4 c, .slice D 6 d] := wrote_setRow w.heap.size [.slice A 4 c, .slice D 6 d] 0 w1 (fun j hj => by
          match j, hj with
          | 0, _ => exact ⟨_, d0⟩
          | 1, _ => exact ⟨_, d1⟩)
        have hO3 : OSt _ lo hi A (doAllOf s (xs.take (k + 1))).flash D (doAllOf s (xs.take (k + 1))).disk := hO1.keep fun b h1 h2 _ => hW.block b (by omega)
        have hA3 := hA2.trans (S' := (· = w.heap.size)) hW.agr (fun b hb e => by omega)
        have t0 := hW.new_ 0 _ rfl
        have t1 := hW.new_ 1 _ rfl
        have t2 := (hW.frozen ⟨w.heap.size, 0, none⟩).trans d2
        have t3 := (hW.frozen ⟨w.heap.size, 1, none⟩).trans d3
        have s0 := (hW.agr.cell (b := w.heap.size + 1) (by omega) (by omega) 0).trans r0
        have s1 := (hW.agr.cell (b := w.heap.size + 1) (by omega) (by omega) 1).trans r1
        have s2 := (hW.frozen ⟨w.heap.size + 1, 0, none⟩).trans r2
        have s3 := (hW.frozen ⟨w.heap.size + 1, 1, none⟩).trans r3
        have hss := hW.size
        clear hW
        go_wp2
        go_roundw
        (case rel => exact ⟨k + 1, by omega, by go_num, by omega, hO3, hA3, by omega, ⟨t0, t1, t2, t3⟩, ⟨u0, u1, s0, s1, s2, s3⟩⟩)
        (case measure => simp [intOf]; omega)
    · have hT : Hid (doAllOf s (xs.take k) = doAllOf s (xs.take cut.toNat)) := by
        rw [Hid]
        congr 1
        by_cases h : k < xs.length
        · have : ¬ (k : Int) < cut := fun h2 => hgo ⟨h, h2⟩
          rw [show cut.toNat = k by omega]
        · rw [List.take_of_length_le (by omega)]
          by_cases h2 : xs.length ≤ cut.toNat
          · rw [List.take_of_length_le h2]
          · rw [show cut.toNat = xs.length by omega, List.take_of_length_le (Nat.le_refl _)]
      have hgd : (k : Int) < xs.length → ¬ (k : Int) < cut := fun h h2 => hgo ⟨by omega, h2⟩
      rw [hT.out] at hOk
      clear hgo
      cases torn
      · have h3 : Hid (doTo s xs cut false = doAllOf s (xs.take cut.toNat)) := by unfold Hid doTo; rw [if_neg (by simp)]
        by_cases hlt : (k : Int) < xs.length
        · have hct := hgd hlt
          go_wp2
          refine bodyPost_ret (v := .agg #[.slice A 4 c, .slice D 6 d]) (by simp [results, Try.results74, go_sem, b0, b1, q0, q1]) rfl ⟨rfl, ?_, ?_⟩
          · rw [h3.out]
            have hbb : Below w.heap.size wr ((wr.setCell ⟨w.heap.size + 1, 0, none⟩ (.slice A 4 c)).setCell ⟨w.heap.size + 1, 1, none⟩ (.slice D 6 d)) := by (repeat (first | (with_reducible exact Below.refl _ _) | (with_reducible assumption) | (refine Below.setCell ?_ (by first | omega | exact hB.size | exact hb.size | (have h := hB.size; simp; omega) | (have h := hb.size; simp; omega) | (simp; omega) | simp) _) | (refine Below.alloc ?_ (by first | omega | exact hB.size | exact hb.size | (have h := hB.size; simp; omega) | (have h := hb.size; simp; omega) | (simp; omega) | simp) _) | (refine Below.drew ?_)))
            exact hOk.keep fun y _ h2 _ => hbb.block y (by omega)
          · exact (hA.setCell (.inl (by show w.heap.size ≤ w.heap.size + 1; omega)) _).setCell (.inl (by show w.heap.size ≤ w.heap.size + 1; omega)) _
        · go_wp2
          refine bodyPost_ret (v := .agg #[.slice A 4 c, .slice D 6 d]) (by simp [results, Try.results74, go_sem, b0, b1, q0, q1]) rfl ⟨rfl, ?_, ?_⟩
          · rw [h3.out]
            have hbb : Below w.heap.size wr ((wr.setCell ⟨w.heap.size + 1, 0, none⟩ (.slice A 4 c)).setCell ⟨w.heap.size + 1, 1, none⟩ (.slice D 6 d)) := by (repeat (first | (with_reducible exact Below.refl _ _) | (with_reducible assumption) | (refine Below.setCell ?_ (by first | omega | exact hB.size | exact hb.size | (have h := hB.size; simp; omega) | (have h := hb.size; simp; omega) | (simp; omega) | simp) _) | (refine Below.alloc ?_ (by first | omega | exact hB.size | exact hb.size | (have h := hB.size; simp; omega) | (have h := hb.size; simp; omega) | (simp; omega) | simp) _) | (refine Below.drew ?_)))
            exact hOk.keep fun y _ h2 _ => hbb.block y (by omega)
          · exact (hA.setCell (.inl (by show w.heap.size ≤ w.heap.size + 1; omega)) _).setCell (.inl (by show w.heap.size ≤ w.heap.size + 1; omega)) _
      · have h3n : ¬ (0 ≤ cut ∧ cut < xs.length) → Hid (doTo s xs cut true = doAllOf s (xs.take cut.toNat)) := by intro h; unfold Hid doTo; rw [if_neg (by simpa using h)]
        have h3p : (0 ≤ cut ∧ cut < xs.length) → Hid (doTo s xs cut true = doStep (doAllOf s (xs.take cut.toNat)) (xs.getD cut.toNat ⟨0, 0, 0, 0, rc0⟩) true) := by intro h; unfold Hid doTo; rw [if_pos (by simpa using h)]
        by_cases hlt : (k : Int) < xs.length
        · have hct := hgd hlt
          by_cases h0 : 0 ≤ cut
          · obtain rfl : cut = k := by omega
            have hst := doAllOf_fine (xs := xs.take (k : Int).toNat) HS.out (fun y hy => HX.out y (List.mem_of_mem_take hy))
            obtain ⟨x, hxk⟩ := get_some (l := xs) (k := k) (by omega)
            have hxf := HX.out x (List.mem_of_getElem? hxk)
            have hXk := hX.agr hA HV.out
            obtain ⟨vb, vo, rfl⟩ := hXk.addr (by intro e; have := sps_len xs; rw [e] at this; simp at this; omega)
            obtain ⟨c0, c1, c2, c3, c4, c5, c6, c7⟩ := hXk.sp hxk
            have h3 : Hid (doTo s xs k true = doStep (doAllOf s (xs.take (k : Int).toNat)) x true) := by
              rw [Hid, (h3p ⟨by omega, by omega⟩).out, Int.toNat_natCast, List.getD_eq_getElem?_getD, hxk]; rfl
            have hk0 : (0 : Int) ≤ k := by omega
            have hk1 : (k : Int) ≤ xs.length - 1 := by omega
            clear h3p h3n hxk hXk hgd
            go_wp2_with fail
            refine (spec_l6In _ _ _ _).mono ?_
            rintro e w1 ⟨rfl, rfl⟩
            rw [show (decide ((0 : Int) ≤ k) && decide ((k : Int) ≤ xs.length - 1)) = true from by simp [hk0, hk1]]
            go_wp2
            have hle : hi ≤ wr.drew.heap.size := by show hi ≤ wr.heap.size; omega
            have hn0 : ¬ (lo ≤ w.heap.size ∧ w.heap.size < hi) := by omega
            have hl0 : w.heap.size < wr.drew.heap.size := by show w.heap.size < wr.heap.size; omega
            have hOd := hOk.drew
            have g0 : wr.drew.cell? ⟨w.heap.size, 0, none⟩ = some (.slice A 4 c) := b0
            have g1 : wr.drew.cell? ⟨w.heap.size, 1, none⟩ = some (.slice D 6 d) := b1
            have g2 : wr.drew.frozen? ⟨w.heap.size, 0, none⟩ = false := b2
            have g3 : wr.drew.frozen? ⟨w.heap.size, 1, none⟩ = false := b3
            go_region_with (first | (go_at_call 77; refine (spec_l12Do (doAllOf s (xs.take (k : Int).toNat)) x true A D c d lo hi _ hst hxf hle hOd).mono ?_; rintro e w1 ⟨rfl, hO1, hA1⟩; have d0 := (hA1.cell hl0 hn0 0).trans g0; have d1 := (hA1.cell hl0 hn0 1).trans g1; have d2 := (hA1.fz hl0 hn0 0).trans g2; have d3 := (hA1.fz hl0 hn0 1).trans g3))
            all_goals
              have hn1 : ¬ (lo ≤ w.heap.size + 1 ∧ w.heap.size + 1 < hi) := by omega
              have hl1 : w.heap.size + 1 < wr.drew.heap.size := hsz
              have r0 := (hA1.cell hl1 hn1 0).trans (show wr.drew.cell? ⟨w.heap.size + 1, 0, none⟩ = some u0 from q0)
              have r1 := (hA1.cell hl1 hn1 1).trans (show wr.drew.cell? ⟨w.heap.size + 1, 1, none⟩ = some u1 from q1)
              have r2 := (hA1.fz hl1 hn1 0).trans (show wr.drew.frozen? ⟨w.heap.size + 1, 0, none⟩ = false from q2)
              have r3 := (hA1.fz hl1 hn1 1).trans (show wr.drew.frozen? ⟨w.heap.size + 1, 1, none⟩ = false from q3)
              have hA2 := hA.drew.trans hA1 (fun b _ hb => hb)
              have hs1 : wr.heap.size ≤ w1.heap.size := hA1.size
              have hW : Wrote w1 ((w1.setCell ⟨w.heap.size, 0, none⟩ (.slice A 4 c)).setCell ⟨w.heap.size, 1, none⟩ (.slice D 6 d)) w.heap.size 0 [.slice A 4 c, .slice D 6 d] := wrote_setRow w.heap.size [.slice A 4 c, .slice D 6 d] 0 w1 (fun j hj => by
                match j, hj with
                | 0, _ => exact ⟨_, d0⟩
                | 1, _ => exact ⟨_, d1⟩)
              have hO3 : OSt _ lo hi A (doStep (doAllOf s (xs.take (k : Int).toNat)) x true).flash D (doStep (doAllOf s (xs.take (k : Int).toNat)) x true).disk := hO1.keep fun b h1 h2 _ => hW.block b (by omega)
              have hA3 := hA2.trans (S' := (· = w.heap.size)) hW.agr (fun b hb e => by omega)
              have t0 := hW.new_ 0 _ rfl
              have t1 := hW.new_ 1 _ rfl
              have s0 := (hW.agr.cell (b := w.heap.size + 1) (by omega) (by omega) 0).trans r0
              have s1 := (hW.agr.cell (b := w.heap.size + 1) (by omega) (by omega) 1).trans r1
              have s2 := (hW.frozen ⟨w.heap.size + 1, 0, none⟩).trans r2
              have s3 := (hW.frozen ⟨w.heap.size + 1, 1, none⟩).trans r3
              have hss := hW.size
              clear hW
              go_wp2
              refine bodyPost_ret (v := .agg #[.slice A 4 c, .slice D 6 d]) (by simp [results, Try.results74, go_sem, t0, t1, s0, s1]) rfl ⟨rfl, ?_, ?_⟩
              · rw [h3.out]
                refine hO3.keep fun y _ h2 _ => ?_
                rw [Below.heap_setCell _ _ _ _ (by show y ≠ w.heap.size + 1; omega), Below.heap_setCell _ _ _ _ (by show y ≠ w.heap.size + 1; omega)]
              · exact (hA3.setCell (.inl (by show w.heap.size ≤ w.heap.size + 1; omega)) _).setCell (.inl (by show w.heap.size ≤ w.heap.size + 1; omega)) _
          · have h3 := h3n (by omega)
            have e0 : decide (0 ≤ cut) = false := by simpa using h0
            go_wp2_with fail
            refine (spec_l6In _ _ _ _).mono ?_
            rintro e w1 ⟨rfl, rfl⟩
            rw [e0, Bool.false_and]
            go_wp2
            refine bodyPost_ret (v := .agg #[.slice A 4 c, .slice D 6 d]) (by simp [results, Try.results74, go_sem, b0, b1, q0, q1]) rfl ⟨rfl, ?_, ?_⟩
            · rw [h3.out]
              have hbb : Below w.heap.size wr ((wr.setCell ⟨w.heap.size + 1, 0, none⟩ (.slice A 4 c)).setCell ⟨w.heap.size + 1, 1, none⟩ (.slice D 6 d)) := by (repeat (first | (with_reducible exact Below.refl _ _) | (with_reducible assumption) | (refine Below.setCell ?_ (by first | omega | exact hB.size | exact hb.size | (have h := hB.size; simp; omega) | (have h := hb.size; simp; omega) | (simp; omega) | simp) _) | (refine Below.alloc ?_ (by first | omega | exact hB.size | exact hb.size | (have h := hB.size; simp; omega) | (have h := hb.size; simp; omega) | (simp; omega) | simp) _) | (refine Below.drew ?_)))
              exact hOk.keep fun y _ h2 _ => hbb.block y (by omega)
            · exact (hA.setCell (.inl (by show w.heap.size ≤ w.heap.size + 1; omega)) _).setCell (.inl (by show w.heap.size ≤ w.heap.size + 1; omega)) _
        · have h3 := h3n (by omega)
          have e0 : (decide (0 ≤ cut) && decide (cut ≤ (xs.length : Int) - 1)) = false := by simp; omega
          go_wp2_with fail
          refine (spec_l6In _ _ _ _).mono ?_
          rintro e w1 ⟨rfl, rfl⟩
          rw [e0]
          go_wp2
          refine bodyPost_ret (v := .agg #[.slice A 4 c, .slice D 6 d]) (by simp [results, Try.results74, go_sem, b0, b1, q0, q1]) rfl ⟨rfl, ?_, ?_⟩
          · rw [h3.out]
            have hbb : Below w.heap.size wr ((wr.setCell ⟨w.heap.size + 1, 0, none⟩ (.slice A 4 c)).setCell ⟨w.heap.size + 1, 1, none⟩ (.slice D 6 d)) := by (repeat (first | (with_reducible exact Below.refl _ _) | (with_reducible assumption) | (refine Below.setCell ?_ (by first | omega | exact hB.size | exact hb.size | (have h := hB.size; simp; omega) | (have h := hb.size; simp; omega) | (simp; omega) | simp) _) | (refine Below.alloc ?_ (by first | omega | exact hB.size | exact hb.size | (have h := hB.size; simp; omega) | (have h := hb.size; simp; omega) | (simp; omega) | simp) _) | (refine Below.drew ?_)))
            exact hOk.keep fun y _ h2 _ => hbb.block y (by omega)
          · exact (hA.setCell (.inl (by show w.heap.size ≤ w.heap.size + 1; omega)) _).setCell (.inl (by show w.heap.size ≤ w.heap.size + 1; omega)) _
end Go.Proofs.Ytfkjhnfbajflaaa
namespace Go.Proofs.Ytfkjhnfbajflaaa
set_option linter.unusedVariables false
set_option linter.unusedSimpArgs false
open Go.RowKit Go.Maps
set_option maxHeartbeats 400000
def upto (s : St) : Nat → St
  | 0 => s
  | k + 1 => doFlush (upto s k) (k + 1)
theorem upto_six (s : St) : upto s 6 = doEvery s := by
  simp only [upto, doEvery, List.foldl_cons, List.foldl_nil]
  generalize doFlush = F
  rfl
theorem upto_fine {s : St} (h : stFine s) : ∀ k, stFine (upto s k)
  | 0 => h
  | k + 1 => doFlush_fine (upto_fine h k) _
theorem stFine_pages {s : St} (h : stFine s) : ∀ b ∈ s.flash, b.pages.length = 4 := fun b hb => (h.1.2 b hb).1
theorem flush_len {s : St} (h : stFine s) (a : Int) : (flush s a).length ≤ 7 := by
  have := wr_len h.1.1 (stFine_pages h) 2 a (readV s a)
  unfold flush
  split
  · simp
  · split
    · simp
    · simp only [List.length_cons]; omega
set_option maxHeartbeats 4000000 in
set_option maxRecDepth 100000 in
theorem spec_l21All (s : St) (A D : Option Addr) (c d lo hi : Nat) (w : World) (hs : stFine s) (hhi : hi ≤ w.heap.size) (hO : OSt w lo hi A s.flash D s.disk) :
    Calls Try.prog 73 #[.agg #[.slice A 4 c, .slice D 6 d]] w fun r w' =>
      r = .returned (.agg #[.slice A 4 c, .slice D 6 d]) ∧ OSt w' lo hi A (doEvery s).flash D (doEvery s).disk ∧ Agr (fun b => lo ≤ b ∧ b < hi) w w' := by
  have HS := Lib.hid hs
  clear hs
  go_enter Try.func73, Try.ntmps73
  go_wp2
  go_loopw [3] (fun i wr => ∃ k : Nat, k ≤ 6 ∧ i = .int .i64 (k + 1) ∧ OSt wr lo hi A (upto s k).flash D (upto s k).disk ∧ Agr (fun b => lo ≤ b ∧ b < hi) w wr ∧ w.heap.size + 1 < wr.heap.size ∧
    (wr.cell? ⟨w.heap.size, 0, none⟩ = some (.slice A 4 c) ∧ wr.cell? ⟨w.heap.size, 1, none⟩ = some (.slice D 6 d) ∧ wr.frozen? ⟨w.heap.size, 0, none⟩ = false ∧ wr.frozen? ⟨w.heap.size, 1, none⟩ = false) ∧
    (∃ u0 u1, wr.cell? ⟨w.heap.size + 1, 0, none⟩ = some u0 ∧ wr.cell? ⟨w.heap.size + 1, 1, none⟩ = some u1 ∧ wr.frozen? ⟨w.heap.size + 1, 0, none⟩ = false ∧ wr.frozen? ⟨w.heap.size + 1, 1, none⟩ = false)) (fun i _ => 7 - (intOf i).toNat)
  case atStart =>
    have hN := Row.new (w.alloc (.cells #[.slice A 4 c, .slice D 6 d] 39)) #[.slice none 0 0, .slice none 0 0] 39
    simp only [World.size_alloc] at hN
    have hM := (Row.new w #[.slice A 4 c, .slice D 6 d] 39).alloc (.cells #[.slice none 0 0, .slice none 0 0] 39)
    exact ⟨0, by omega, rfl, (hO.alloc' _).alloc' _, ((Agr.refl _ _).alloc _).alloc _, by simp, ⟨(hM.at0 (j := 0) rfl).1, (hM.at0 (j := 1) rfl).1, (hM.at0 (j := 0) rfl).2, (hM.at0 (j := 1) rfl).2⟩, ⟨_, _, (hN.at0 (j := 0) rfl).1, (hN.at0 (j := 1) rfl).1, (hN.at0 (j := 0) rfl).2, (hN.at0 (j := 1) rfl).2⟩⟩
  case round =>
    obtain ⟨k, hk, rfl, hOk, hA, hsz, ⟨b0, b1, b2, b3⟩, ⟨u0, u1, q0, q1, q2, q3⟩⟩ := hrel
    by_cases hlt : k < 6
    · have hst := Lib.hid (upto_fine HS.out k)
      have hk1 : (k : Int) + 1 ≤ 6 := by omega
      go_wp2_with fail
      refine (spec_l12Flush (upto s k) (k + 1) A D c d _ hst.out.1.1 (stFine_pages hst.out) (most_small hst.out.1) hst.out.2.1 hOk.ofl.fl hOk.disk).mono ?_
      rintro e w1 ⟨v, rfl, hOS, hb⟩
      obtain ⟨V, cs, rfl, hcs, hRow, hblk⟩ := hOS.shape
      have hff := Lib.hid (flush_fine hst.out (k + 1))
      have hfl := flush_len hst.out (k + 1)
      have hO1 := hOk.below hb (Nat.le_refl _)
      have hA1 := hA.trans (S' := fun _ => False) (Agr.of_below hb) (fun b hb e => absurd e id)
      have hs1 := hb.size
      obtain ⟨hc, hfz⟩ := bcell hb
      replace b0 := (hc _ _ (by omega)).trans b0
      replace b1 := (hc _ _ (by omega)).trans b1
      replace b2 := (hfz _ _ (by omega)).trans b2
      replace b3 := (hfz _ _ (by omega)).trans b3
      replace q0 := (hc _ _ (by omega)).trans q0
      replace q1 := (hc _ _ (by omega)).trans q1
      replace q2 := (hfz _ _ (by omega)).trans q2
      replace q3 := (hfz _ _ (by omega)).trans q3
      have hfin : Hid (doTo (upto s k) (flush (upto s k) (k + 1)) (flush (upto s k) (k + 1)).length false = upto s (k + 1)) := rfl
      generalize flush (upto s k) (k + 1) = xs at *
      clear hb hc hfz hOk hA hOS
      go_wp2_with fail
      have hsz0 := hA1.size
      refine (spec_l12To (upto s k) xs xs.length false A D V c d cs lo hi _ hst.out hff.out (by omega) (by omega) hO1 hRow (fun b hb => by have := hblk b hb; omega)).mono ?_
      rintro e w2 ⟨rfl, hO2, hA2⟩
      have hs2 := hA2.size
      replace b0 := (hA2.cell (by omega) (by omega) 0).trans b0
      replace b1 := (hA2.cell (by omega) (by omega) 1).trans b1
      replace b2 := (hA2.fz (by omega) (by omega) 0).trans b2
      replace b3 := (hA2.fz (by omega) (by omega) 1).trans b3
      replace q0 := (hA2.cell (by omega) (by omega) 0).trans q0
      replace q1 := (hA2.cell (by omega) (by omega) 1).trans q1
      replace q2 := (hA2.fz (by omega) (by omega) 0).trans q2
      replace q3 := (hA2.fz (by omega) (by omega) 1).trans q3
      have hA3 := hA1.trans hA2 (fun b _ hb => hb)
      rw [hfin.out] at hO2
      clear hO1 hA1 hA2 hRow
      have hW : Wrote w2 ((w2.setCell ⟨w.heap.size, 0, none⟩ (.slice A 4 c)).setCell ⟨w.heap.size, 1, none⟩ (.slice D 6 d)) w.heap.size 0 [.slice A 4 c, .slice D 6 d] := wrote_setRow w.heap.size [.slice A 4 c, .slice D 6 d] 0 w2 (fun j hj => by
        match j, hj with
        | 0, _ => exact ⟨_, b0⟩
        | 1, _ => exact ⟨_, b1⟩)
      have hO3 : OSt _ lo hi A (upto s (k + 1)).flash D (upto s (k + 1)).disk := hO2.keep fun b h1 h2 _ => hW.block b (by omega)
      have hA4 := hA3.trans (S' := (· = w.heap.size)) hW.agr (fun b hb e => by omega)
      have t0 := hW.new_ 0 _ rfl
      have t1 := hW.new_ 1 _ rfl
      have t2 := (hW.frozen ⟨w.heap.size, 0, none⟩).trans b2
      have t3 := (hW.frozen ⟨w.heap.size, 1, none⟩).trans b3
      have s0 := (hW.agr.cell (b := w.heap.size + 1) (by omega) (by omega) 0).trans q0
      have s1 := (hW.agr.cell (b := w.heap.size + 1) (by omega) (by omega) 1).trans q1
      have s2 := (hW.frozen ⟨w.heap.size + 1, 0, none⟩).trans q2
      have s3 := (hW.frozen ⟨w.heap.size + 1, 1, none⟩).trans q3
      have hss := hW.size
      have e1 : IntKind.i64.wrap ((k : Int) + 1 + 1) = (k : Int) + 1 + 1 := IntWalk.i64_in _ (by omega)
      clear hW
      go_wp2
      go_roundw
      (case rel => exact ⟨k + 1, by omega, by go_num, hO3, hA4, by omega, ⟨t0, t1, t2, t3⟩, ⟨u0, u1, s0, s1, s2, s3⟩⟩)
      (case measure => simp [intOf]; omega)
    · obtain rfl : k = 6 := by omega
      go_wp2
      refine bodyPost_ret (v := .agg #[.slice A 4 c, .slice D 6 d]) (by simp [results, Try.results73, go_sem, b0, b1, q0, q1]) rfl ⟨rfl, ?_, ?_⟩
      · rw [← upto_six]
        have hbb : Below w.heap.size wr ((wr.setCell ⟨w.heap.size + 1, 0, none⟩ (.slice A 4 c)).setCell ⟨w.heap.size + 1, 1, none⟩ (.slice D 6 d)) := by (repeat (first | (with_reducible exact Below.refl _ _) | (with_reducible assumption) | (refine Below.setCell ?_ (by first | omega | exact hB.size | exact hb.size | (have h := hB.size; simp; omega) | (have h := hb.size; simp; omega) | (simp; omega) | simp) _) | (refine Below.alloc ?_ (by first | omega | exact hB.size | exact hb.size | (have h := hB.size; simp; omega) | (have h := hb.size; simp; omega) | (simp; omega) | simp) _) | (refine Below.drew ?_)))
        exact hOk.keep fun y _ h2 _ => hbb.block y (by omega)
      · exact (hA.setCell (.inl (by show w.heap.size ≤ w.heap.size + 1; omega)) _).setCell (.inl (by show w.heap.size ≤ w.heap.size + 1; omega)) _
end Go.Proofs.Ytfkjhnfbajflaaa
