/- Walks: a law over steps: FnToSteps. -/
import Derived.Test.YtbekihiiildgmaaX8
import Derived.Test.YtbekihiiildgmaaX9
namespace Go.Proofs.Ytbekihiiildgmaa
set_option linter.unusedVariables false
set_option linter.unusedSimpArgs false
open Go.RowKit Go.Maps
set_option maxHeartbeats 400000
theorem Row.sps_take {w : World} {V : Option Addr} {xs : List Sp} (h : Row w V (sps xs)) (q : Nat) : Row w V (sps (xs.take q)) := by
  have e : sps xs = sps (xs.take q) ++ sps (xs.drop q) := by unfold sps; rw [← List.flatMap_append, List.take_append_drop]
  rw [e] at h
  exact h.part
theorem Row.sps_drop {w : World} {V V2 : Option Addr} {xs : List Sp} (h : Row w V (sps xs)) {q vc : Nat} (hq : q ≤ xs.length) (hc : xs.length ≤ vc) (hV : (if vc = q then V else Option.map (fun x => x.add (q * 8)) V) = V2) : Row w V2 (sps (xs.drop q)) := fun hn => by
  have hlt : q < xs.length := by
    by_cases h : q < xs.length
    · exact h
    · exact absurd (by rw [List.drop_eq_nil_of_le (by omega)]; rfl) hn
  have hne : sps xs ≠ [] := by intro e; have := sps_len xs; rw [e] at this; simp at this; omega
  obtain ⟨b, o, rfl, hc'⟩ := h hne
  rw [if_neg (by omega)] at hV
  refine ⟨b, o + q * 8, ?_, fun j u hj => ?_⟩
  · rw [← hV]
    have : (⟨b, o, none⟩ : Addr).add (q * 8) = ⟨b, o + q * 8, none⟩ := by
      unfold Addr.add
      split
      · rename_i h0; rw [h0]; rfl
      · rfl
    exact congrArg some this
  · have e : sps xs = sps (xs.take q) ++ sps (xs.drop q) := by unfold sps; rw [← List.flatMap_append, List.take_append_drop]
    have hl : (sps (xs.take q)).length = q * 8 := by rw [sps_len, List.length_take]; congr 1; omega
    have := hc' (q * 8 + j) u (by rw [e, List.getElem?_append_right (by omega), hl, show q * 8 + j - q * 8 = j by omega]; exact hj)
    rw [Nat.add_assoc]; exact this
set_option maxHeartbeats 8000000 in
set_option maxRecDepth 100000 in
theorem law_FnToSteps {w : World} (A : Option Addr) (bs : List Nat) (c : Nat) (hc : Code w A bs c) (A' : Option Addr) (bs' : List Nat) (c' : Nat) (hc' : Code w A' bs' c') :
    Calls Try.prog 7 #[.slice A bs.length c, .slice A' bs'.length c'] w fun e w' => e = .returned (.bool true) ∧ Below w.heap.size w w' := by
  by_cases hlen : (1048576 : Int) < bs.length
  · go_enter Try.func7, Try.ntmps7
    go_wp2
    go_ret
    exact ⟨rfl, Below.refl _ _⟩
  by_cases hlen' : (1048576 : Int) < bs'.length
  · go_enter Try.func7, Try.ntmps7
    go_wp2
    go_ret
    exact ⟨rfl, Below.refl _ _⟩
  go_enter Try.func7, Try.ntmps7
  go_wp2_with fail
  refine (spec_DrawStepsTo A bs c _ hc).mono ?_
  rintro e w1 ⟨A1, D1, c1, d1, s, V, vc, xs, cut, torn, rfl, hxl, hxc, hcut, hX, hVb, hsm, hO, hB1⟩
  have hs1 := hB1.size
  have HSM := Lib.hid hsm
  have HCUT := Lib.hid hcut
  clear hsm hcut
  have hHbx := Held.new w1 (c := c1) (d := d1) hO.ofl.fl hO.disk rfl rfl
  replace hX := hX.below ((Below.refl w1.heap.size w1).alloc (Nat.le_refl _) (.cells #[.slice A1 s.flash.length c1, .slice D1 s.disk.length d1] 26)) (Nat.le_refl _)
  have hBW1 := hB1.alloc hB1.size (.cells #[.slice A1 s.flash.length c1, .slice D1 s.disk.length d1] 26)
  have hzW1 : (w1.alloc (.cells #[.slice A1 s.flash.length c1, .slice D1 s.disk.length d1] 26)).heap.size = w1.heap.size + 1 := by simp
  obtain ⟨W1, hEW1⟩ : ∃ W, w1.alloc (.cells #[.slice A1 s.flash.length c1, .slice D1 s.disk.length d1] 26) = W := ⟨_, rfl⟩
  obtain ⟨bx, hEbx⟩ : ∃ b, w1.heap.size = b := ⟨_, rfl⟩
  rw [hEW1] at hHbx hBW1 hzW1 hX
  rw [hEbx] at hHbx hzW1
  have x0 := hHbx.x0
  have x1 := hHbx.x1
  clear hB1
  clear hO
  have HVB : Hid (∀ b, blk V b → b < W1.heap.size) := fun b hb => by have := hVb b hb; omega
  clear hVb
  by_cases hok : (toR s xs cut torn).2 = true
  · obtain ⟨hc0, hos, hst, htr⟩ := toR_true hok
    have HOK := Lib.hid hos
    have HST := Lib.hid hst
    have HC0 := Lib.hid hc0
    have HTF : Hid (stFine (doTo s xs cut torn)) := doTo_fine hos.fine (fun x hx => stepB_fine (hst x hx)) _ _
    have HTI : Hid (∀ d, d = (doTo s xs cut torn).disk → d = diskTo s.disk (xs.take cut.toNat)) := fun d hd => hd.trans (doTo_told s xs cut torn)
    have HSP : Hid (∀ k : Nat, (k : Int) ≤ cut → k ≤ xs.length → doTo (doTo s (xs.take k) k false) (xs.drop k) (cut - k) torn = doTo s xs cut torn) := fun k hk hx => doTo_split hk hx
    obtain ⟨t, htd⟩ : ∃ t, doTo s xs cut torn = t := ⟨_, rfl⟩
    rw [htd] at htr HTF HTI HSP
    have HTR := Lib.hid htr
    clear hok hos hst htr hc0 htd
    have HL4 : Hid (s.flash.length = 4) := flashOk_len HOK.out.flash
    have HL6 : Hid (s.disk.length = 6) := HOK.out.len
    rw [HL4.out, HL6.out] at hHbx
    replace x0 := hHbx.x0
    replace x1 := hHbx.x1
    go_wp2_with fail
    refine (spec_StepsTo_t HTR.out HTF.out (by omega) (small_fl HSM.out) A1 D1 V 4 6 c1 d1 vc _ _ hHbx.hn hHbx.hm rfl hHbx.fl hHbx.dk hX (fun b hb => by have := HVB.out b hb; omega)).mono ?_
    rintro e w2 ⟨A2, c2, D2, d2, rfl, hF2, hD2, _, hb⟩
    have hs2 := hb.size
    have hB2 := hBW1.trans (hb.mono hBW1.size)
    replace hHbx := hHbx.below hb (Nat.le_refl _)
    replace x0 := hHbx.x0
    replace x1 := hHbx.x1
    replace hX := hX.below hb (Nat.le_refl _)
    clear hb hBW1
    have hHbw := Held.fine HTF.out c2 d2 hF2.fl hD2
    replace hHbx := hHbx.below ((Below.refl w2.heap.size w2).alloc (Nat.le_refl _) (.cells #[.slice A2 4 c2, .slice D2 6 d2] 26)) (Nat.le_refl _)
    replace hX := hX.below ((Below.refl w2.heap.size w2).alloc (Nat.le_refl _) (.cells #[.slice A2 4 c2, .slice D2 6 d2] 26)) (Nat.le_refl _)
    have hBW2 := hB2.alloc hB2.size (.cells #[.slice A2 4 c2, .slice D2 6 d2] 26)
    have hzW2 : (w2.alloc (.cells #[.slice A2 4 c2, .slice D2 6 d2] 26)).heap.size = w2.heap.size + 1 := by simp
    obtain ⟨W2, hEW2⟩ : ∃ W, w2.alloc (.cells #[.slice A2 4 c2, .slice D2 6 d2] 26) = W := ⟨_, rfl⟩
    obtain ⟨bw, hEbw⟩ : ∃ b, w2.heap.size = b := ⟨_, rfl⟩
    rw [hEW2] at hHbw hBW2 hzW2 hHbx hX
    rw [hEbw] at hHbw hzW2
    have m0 := hHbw.x0
    have m1 := hHbw.x1
    replace x0 := hHbx.x0
    replace x1 := hHbx.x1
    clear hB2
    clear hF2 hD2
    go_wp2_with fail
    refine (impl_StepsTo_t HTR.out HTF.out (by omega) A1 D1 V 4 6 c1 d1 vc _ _ hHbx.hn hHbx.hm rfl hHbx.fl hHbx.dk hX).mono ?_
    rintro e w3 ⟨A3, c3, D3, d3, rfl, hF3, hD3, _, hb⟩
    have hs3 := hb.size
    have hB3 := hBW2.trans (hb.mono hBW2.size)
    replace hHbx := hHbx.below hb (Nat.le_refl _)
    replace x0 := hHbx.x0
    replace x1 := hHbx.x1
    replace hHbw := hHbw.below hb (Nat.le_refl _)
    replace m0 := hHbw.x0
    replace m1 := hHbw.x1
    replace hX := hX.below hb (Nat.le_refl _)
    clear hb hBW2
    have hHbt := Held.fine HTF.out c3 d3 hF3.fl hD3
    replace hHbx := hHbx.below ((Below.refl w3.heap.size w3).alloc (Nat.le_refl _) (.cells #[.slice A3 4 c3, .slice D3 6 d3] 26)) (Nat.le_refl _)
    replace hHbw := hHbw.below ((Below.refl w3.heap.size w3).alloc (Nat.le_refl _) (.cells #[.slice A3 4 c3, .slice D3 6 d3] 26)) (Nat.le_refl _)
    replace hX := hX.below ((Below.refl w3.heap.size w3).alloc (Nat.le_refl _) (.cells #[.slice A3 4 c3, .slice D3 6 d3] 26)) (Nat.le_refl _)
    have hBW3 := hB3.alloc hB3.size (.cells #[.slice A3 4 c3, .slice D3 6 d3] 26)
    have hzW3 : (w3.alloc (.cells #[.slice A3 4 c3, .slice D3 6 d3] 26)).heap.size = w3.heap.size + 1 := by simp
    obtain ⟨W3, hEW3⟩ : ∃ W, w3.alloc (.cells #[.slice A3 4 c3, .slice D3 6 d3] 26) = W := ⟨_, rfl⟩
    obtain ⟨bt, hEbt⟩ : ∃ b, w3.heap.size = b := ⟨_, rfl⟩
    rw [hEW3] at hHbt hBW3 hzW3 hHbx hHbw hX
    rw [hEbt] at hHbt hzW3
    have t0 := hHbt.x0
    have t1 := hHbt.x1
    replace x0 := hHbx.x0
    replace x1 := hHbx.x1
    replace m0 := hHbw.x0
    replace m1 := hHbw.x1
    clear hB3
    clear hF3 hD3
    go_wp2_with fail
    refine (laws_lqStore_fine HTF.out A3 D3 A2 D2 c3 d3 c2 d2 _ hHbt.fl hHbt.dk hHbw.fl hHbw.dk).mono ?_
    rintro e w4 ⟨rfl, hb⟩
    have hs4 := hb.size
    have hB4 := hBW3.trans (hb.mono hBW3.size)
    replace hHbx := hHbx.below hb (Nat.le_refl _)
    replace x0 := hHbx.x0
    replace x1 := hHbx.x1
    replace hHbt := hHbt.below hb (Nat.le_refl _)
    replace t0 := hHbt.x0
    replace t1 := hHbt.x1
    replace hX := hX.below hb (Nat.le_refl _)
    clear hb hBW3
    clear hHbw m0 m1
    have HT0 : Hid (toR s [] 3 true = (s, true)) := by rw [Hid, toR_yes (by decide) (storeOk_iff.2 HOK.out) rfl, doTo_nil]
    have HTM : Hid (toR s xs (-1) torn = (st0, false)) := toR_no (.inl (by decide))
    go_wp2_with fail
    refine (impl_StepsTo_t HT0.out HOK.out.fine (by simp) A1 D1 none 4 6 c1 d1 0 0 _ hHbx.hn hHbx.hm rfl hHbx.fl hHbx.dk (fun h => absurd rfl h)).mono ?_
    rintro e w5 ⟨A5, c5, D5, d5, rfl, hF5, hD5, _, hb⟩
    have hs5 := hb.size
    have hB5 := hB4.trans (hb.mono hB4.size)
    replace hHbx := hHbx.below hb (Nat.le_refl _)
    replace x0 := hHbx.x0
    replace x1 := hHbx.x1
    replace hHbt := hHbt.below hb (Nat.le_refl _)
    replace t0 := hHbt.x0
    replace t1 := hHbt.x1
    replace hX := hX.below hb (Nat.le_refl _)
    clear hb hB4
    have hHbn := Held.ok HOK.out c5 d5 hF5.fl hD5
    replace hHbx := hHbx.below ((Below.refl w5.heap.size w5).alloc (Nat.le_refl _) (.cells #[.slice A5 4 c5, .slice D5 6 d5] 26)) (Nat.le_refl _)
    replace hHbt := hHbt.below ((Below.refl w5.heap.size w5).alloc (Nat.le_refl _) (.cells #[.slice A5 4 c5, .slice D5 6 d5] 26)) (Nat.le_refl _)
    replace hX := hX.below ((Below.refl w5.heap.size w5).alloc (Nat.le_refl _) (.cells #[.slice A5 4 c5, .slice D5 6 d5] 26)) (Nat.le_refl _)
    have hBU5 := hB5.alloc hB5.size (.cells #[.slice A5 4 c5, .slice D5 6 d5] 26)
    have hzU5 : (w5.alloc (.cells #[.slice A5 4 c5, .slice D5 6 d5] 26)).heap.size = w5.heap.size + 1 := by simp
    obtain ⟨U5, hEU5⟩ : ∃ W, w5.alloc (.cells #[.slice A5 4 c5, .slice D5 6 d5] 26) = W := ⟨_, rfl⟩
    obtain ⟨bn, hEbn⟩ : ∃ b, w5.heap.size = b := ⟨_, rfl⟩
    rw [hEU5] at hHbn hBU5 hzU5 hHbx hHbt hX
    rw [hEbn] at hHbn hzU5
    have n0 := hHbn.x0
    have n1 := hHbn.x1
    replace x0 := hHbx.x0
    replace x1 := hHbx.x1
    replace t0 := hHbt.x0
    replace t1 := hHbt.x1
    clear hB5
    clear hF5 hD5
    go_wp2_with fail
    refine (impl_StepsTo_f HTM.out (by omega) A1 D1 V 4 6 c1 d1 vc _ _ hHbx.hn hHbx.hm rfl hHbx.fl hHbx.dk hX).mono ?_
    rintro e w6 ⟨A6, c6, D6, d6, rfl, hb⟩
    have hs6 := hb.size
    have hB6 := hBU5.trans (hb.mono hBU5.size)
    replace hHbx := hHbx.below hb (Nat.le_refl _)
    replace x0 := hHbx.x0
    replace x1 := hHbx.x1
    replace hHbt := hHbt.below hb (Nat.le_refl _)
    replace t0 := hHbt.x0
    replace t1 := hHbt.x1
    replace hHbn := hHbn.below hb (Nat.le_refl _)
    replace n0 := hHbn.x0
    replace n1 := hHbn.x1
    replace hX := hX.below hb (Nat.le_refl _)
    clear hb hBU5
    have hHbl := Held.no w6 A6 D6 c6 d6
    replace hHbx := hHbx.below ((Below.refl w6.heap.size w6).alloc (Nat.le_refl _) (.cells #[.slice A6 0 c6, .slice D6 0 d6] 26)) (Nat.le_refl _)
    replace hHbt := hHbt.below ((Below.refl w6.heap.size w6).alloc (Nat.le_refl _) (.cells #[.slice A6 0 c6, .slice D6 0 d6] 26)) (Nat.le_refl _)
    replace hHbn := hHbn.below ((Below.refl w6.heap.size w6).alloc (Nat.le_refl _) (.cells #[.slice A6 0 c6, .slice D6 0 d6] 26)) (Nat.le_refl _)
    replace hX := hX.below ((Below.refl w6.heap.size w6).alloc (Nat.le_refl _) (.cells #[.slice A6 0 c6, .slice D6 0 d6] 26)) (Nat.le_refl _)
    have hBU6 := hB6.alloc hB6.size (.cells #[.slice A6 0 c6, .slice D6 0 d6] 26)
    have hzU6 : (w6.alloc (.cells #[.slice A6 0 c6, .slice D6 0 d6] 26)).heap.size = w6.heap.size + 1 := by simp
    obtain ⟨U6, hEU6⟩ : ∃ W, w6.alloc (.cells #[.slice A6 0 c6, .slice D6 0 d6] 26) = W := ⟨_, rfl⟩
    obtain ⟨bl, hEbl⟩ : ∃ b, w6.heap.size = b := ⟨_, rfl⟩
    rw [hEU6] at hHbl hBU6 hzU6 hHbx hHbt hHbn hX
    rw [hEbl] at hHbl hzU6
    have l0 := hHbl.x0
    have l1 := hHbl.x1
    replace x0 := hHbx.x0
    replace x1 := hHbx.x1
    replace t0 := hHbt.x0
    replace t1 := hHbt.x1
    replace n0 := hHbn.x0
    replace n1 := hHbn.x1
    clear hB6
    clear hHbl l0 l1
    go_wp2_with fail
    refine (laws_lqStore_ok HOK.out A5 D5 A1 D1 c5 d5 c1 d1 _ hHbn.fl hHbn.dk hHbx.fl hHbx.dk).mono ?_
    rintro e w7 ⟨rfl, hb⟩
    have hs7 := hb.size
    have hB7 := hBU6.trans (hb.mono hBU6.size)
    replace hHbx := hHbx.below hb (Nat.le_refl _)
    replace x0 := hHbx.x0
    replace x1 := hHbx.x1
    replace hHbt := hHbt.below hb (Nat.le_refl _)
    replace t0 := hHbt.x0
    replace t1 := hHbt.x1
    replace hX := hX.below hb (Nat.le_refl _)
    clear hb hBU6
    clear hHbn n0 n1
    obtain ⟨E, hE⟩ : ∃ E : Int, E = if (xs.length : Int) < cut then (xs.length : Int) else cut := ⟨_, rfl⟩
    have hE1 : 0 ≤ E ∧ E ≤ cut ∧ E ≤ xs.length := by have := HC0.out; rw [hE]; split <;> omega
    have em : IntKind.i64.wrap (E + 1) = E + 1 := IntWalk.i64_in _ (by omega)
    have hpz : (E + 1 = 0) = False := eq_false (by omega)
    obtain ⟨q, hq⟩ : ∃ q : Nat, bs'.length % (E.toNat + 1) = q := ⟨_, rfl⟩
    have hql : q < E.toNat + 1 := by have := Nat.mod_lt bs'.length (show 0 < E.toNat + 1 by omega); omega
    have hee : (bs'.length : Int) % (E + 1) = (q : Int) := by rw [← hq, show E + 1 = ((E.toNat + 1 : Nat) : Int) by omega]; rfl
    have r1 : Int.tmod (bs'.length : Int) (E + 1) = (q : Int) := by rw [Int.tmod_eq_emod_of_nonneg (by omega)]; exact hee
    have r2 := hee
    clear hq hee
    have hqc : (q : Int) ≤ cut := by omega
    have hqx : q ≤ xs.length := by omega
    have hqv : (q : Int) ≤ (vc : Int) := by omega
    have hqx2 : (q : Int) ≤ (xs.length : Int) := by omega
    have hst : ∀ x ∈ xs.take q, stepB x = true := fun x hx => HST.out x (List.mem_of_mem_take hx)
    have hsd : ∀ x ∈ xs.drop q, stepB x = true := fun x hx => HST.out x (List.mem_of_mem_drop hx)
    have HYF : Hid (stFine (doTo s (xs.take q) (q : Int) false)) := doTo_fine HOK.out.fine (fun x hx => stepB_fine (hst x hx)) _ _
    have hsp := HSP.out q hqc hqx
    have htq : toR s (xs.take q) (q : Int) false = (doTo s (xs.take q) (q : Int) false, true) := toR_yes (by omega) (storeOk_iff.2 HOK.out) (allB_iff.2 hst)
    have HAD := Lib.hid (allB_iff.2 hsd)
    obtain ⟨y, hy⟩ : ∃ y, doTo s (xs.take q) (q : Int) false = y := ⟨_, rfl⟩
    rw [hy] at HYF htq hsp
    have HTY := Lib.hid htq
    have HZ := Lib.hid hsp
    have HTL : Hid ((xs.take q).length = q) := by rw [Hid, List.length_take]; omega
    clear hst hsd hsp htq hy HSP HTI
    have hvd : Below w.heap.size w w7.drew := hB7.drew
    have hs := Lib.hid (fun X (h : Below w7.drew.heap.size w7.drew X) => hHbx.drew.below h (Nat.le_refl _))
    have ht := Lib.hid (fun X (h : Below w7.drew.heap.size w7.drew X) => hHbt.drew.below h (Nat.le_refl _))
    have hvb : Below w7.drew.heap.size w7.drew w7.drew := Below.refl _ _
    have hXx := Lib.hid (fun X (h : Below w7.drew.heap.size w7.drew X) => hX.drew.below h (Nat.le_refl _))
    clear hHbx hHbt hX hB7 hE1
    by_cases hmin : (xs.length : Int) < cut
    · rw [if_pos hmin] at hE
      rw [hE] at r1 r2 em hpz
      clear hE
      go_wp2
      refine wp_region_held_drew (S := fun X => X.cell? ⟨bx, 0, none⟩ = some (.slice A1 4 c1) ∧ X.cell? ⟨bx, 1, none⟩ = some (.slice D1 6 d1)) (by kernel_rfl) ⟨(hs.out _ hvb).x0, (hs.out _ hvb).x1⟩ (fun hHeld0 => ?_)
      refine wpAnyH_take (i := 0) (v := ?va1) rfl (by kernel_rfl) (by kernel_rfl) (by kernel_rfl) (fun _ _ _ h => h) (Or.inl ⟨by kernel_rfl, ?ya1⟩) hHeld0 ?ra1
      case ya1 => (intro w' hS; (try dsimp only at hS); obtain ⟨s0, s1⟩ := hS; (try go_simp); (try with_reducible rfl))
      try simp only [Act.put, List.getElem_toArray, List.getElem_cons_zero, List.getElem_cons_succ, List.setIfInBounds_toArray, List.set_cons_zero, List.set_cons_succ]
      refine wpAnyH_take (i := 1) (v := ?va2) rfl (by kernel_rfl) (by kernel_rfl) (by kernel_rfl) (fun _ _ _ h => h) (Or.inl ⟨by kernel_rfl, ?ya2⟩) hHeld0 ?ra2
      case ya2 => (intro w' hS; (try dsimp only at hS); obtain ⟨s0, s1⟩ := hS; (try go_simp); (try with_reducible rfl))
      try simp only [Act.put, List.getElem_toArray, List.getElem_cons_zero, List.getElem_cons_succ, List.setIfInBounds_toArray, List.set_cons_zero, List.set_cons_succ]
      refine wpAnyH_take (i := 2) (v := ?va3) rfl (by kernel_rfl) (by kernel_rfl) (by kernel_rfl) (fun _ _ _ h => h) (Or.inl ⟨by kernel_rfl, ?ya3⟩) hHeld0 ?ra3
      case ya3 => (intro w' hS; (try dsimp only at hS); obtain ⟨s0, s1⟩ := hS; (try go_simp); (try with_reducible rfl))
      try simp only [Act.put, List.getElem_toArray, List.getElem_cons_zero, List.getElem_cons_succ, List.setIfInBounds_toArray, List.set_cons_zero, List.set_cons_succ]
      refine wpAnyH_take (i := 3) (v := ?va4) rfl (by kernel_rfl) (by kernel_rfl) (by kernel_rfl) (fun _ _ _ h => h) (Or.inl ⟨by kernel_rfl, ?ya4⟩) hHeld0 ?ra4
      case ya4 => (intro w' hS; (try dsimp only at hS); obtain ⟨s0, s1⟩ := hS; (try go_simp); (try with_reducible rfl))
      try simp only [Act.put, List.getElem_toArray, List.getElem_cons_zero, List.getElem_cons_succ, List.setIfInBounds_toArray, List.set_cons_zero, List.set_cons_succ]
      refine wpAnyH_take (i := 4) (v := ?va5) rfl (by kernel_rfl) (by kernel_rfl) (by kernel_rfl) (fun _ _ _ h => h) (Or.inl ⟨by kernel_rfl, ?ya5⟩) hHeld0 ?ra5
      case ya5 => (intro w' hS; (try dsimp only at hS); obtain ⟨s0, s1⟩ := hS; (try go_simp); (try with_reducible rfl))
      try simp only [Act.put, List.getElem_toArray, List.getElem_cons_zero, List.getElem_cons_succ, List.setIfInBounds_toArray, List.set_cons_zero, List.set_cons_succ]
      refine wpAnyH_ready (rs := [5, 9]) (by kernel_rfl) (by simp) ?_
      refine AllReadyH.cons rfl (fun K hK => ?_) (AllReadyH.cons rfl (fun K hK => ?_) AllReadyH.nil)
      · go_simp
        refine (impl_StepsTo_t HTY.out HYF.out (by rw [HTL.out]; omega) A1 D1 V 4 6 c1 d1 vc q _ (hs.out _ hvb).hn (hs.out _ hvb).hm HTL.out.symm (hs.out _ hvb).fl (hs.out _ hvb).dk ((hXx.out _ hvb).sps_take q)).mono ?_
        rintro e w4 ⟨A4, c4, D4, d4, rfl, hF4, hD4, hl4, hc⟩
        have hb4 := hvb.trans (hc.mono hvb.size)
        have hz4 := hc.size
        go_wp2_with fail
        refine hK.out _ _ (⟨(hs.out _ hb4).x0, (hs.out _ hb4).x1⟩) (fun hHa1 => ?_)
        clear hK K
        try simp only [Act.put, List.getElem_toArray, List.getElem_cons_zero, List.getElem_cons_succ, List.setIfInBounds_toArray, List.set_cons_zero, List.set_cons_succ]
        refine wpAnyH_take (i := 6) (v := ?va6) rfl (by kernel_rfl) (by kernel_rfl) (by kernel_rfl) (fun _ _ _ h => h) (Or.inl ⟨by kernel_rfl, ?ya6⟩) hHa1 ?ra6
        case ya6 => (intro w' hS; (try dsimp only at hS); obtain ⟨s0, s1⟩ := hS; (try go_simp); (try with_reducible rfl))
        try simp only [Act.put, List.getElem_toArray, List.getElem_cons_zero, List.getElem_cons_succ, List.setIfInBounds_toArray, List.set_cons_zero, List.set_cons_succ]
        refine wpAnyH_take (i := 7) (v := ?va7) rfl (by kernel_rfl) (by kernel_rfl) (by kernel_rfl) (fun _ _ _ h => h) (Or.inl ⟨by kernel_rfl, ?ya7⟩) hHa1 ?ra7
        case ya7 => (intro w' hS; (try dsimp only at hS); obtain ⟨s0, s1⟩ := hS; (try go_simp); (try with_reducible rfl))
        try simp only [Act.put, List.getElem_toArray, List.getElem_cons_zero, List.getElem_cons_succ, List.setIfInBounds_toArray, List.set_cons_zero, List.set_cons_succ]
        refine wpAnyH_take (i := 8) (v := ?va8) rfl (by kernel_rfl) (by kernel_rfl) (by kernel_rfl) (fun _ _ _ h => h) (Or.inl ⟨by kernel_rfl, ?ya8⟩) hHa1 ?ra8
        case ya8 => (intro w' hS; (try dsimp only at hS); obtain ⟨s0, s1⟩ := hS; (try go_simp); (try with_reducible rfl))
        try simp only [Act.put, List.getElem_toArray, List.getElem_cons_zero, List.getElem_cons_succ, List.setIfInBounds_toArray, List.set_cons_zero, List.set_cons_succ]
        refine wpAnyH_ready (rs := [9]) (by kernel_rfl) (by simp) ?_
        refine AllReadyH.cons rfl (fun K hK => ?_) AllReadyH.nil
        go_simp
        obtain ⟨bz, hbz⟩ : ∃ b, w4.heap.size = b := ⟨_, rfl⟩
        have hbz' : w4.heap.size = bz := hbz
        have hq := Row.new w4 #[.slice none 0 0, .slice none 0 0] 26
        have hb3 := hb4.alloc hb4.size (.cells #[.slice none 0 0, .slice none 0 0] 26)
        rw [hbz'] at hq
        (try simp only [hbz])
        obtain ⟨z0, z2⟩ := hq.at0 (j := 0) rfl
        obtain ⟨z1, z3⟩ := hq.at0 (j := 1) rfl
        have hzs : (w4.alloc (.cells #[.slice none 0 0, .slice none 0 0] 26)).heap.size = bz + 1 := by rw [← hbz']; simp
        refine hK.out _ _ (⟨(hs.out _ hb3).x0, (hs.out _ hb3).x1⟩) (fun hHa2 => ?_)
        clear hK K
        try simp only [Act.put, List.getElem_toArray, List.getElem_cons_zero, List.getElem_cons_succ, List.setIfInBounds_toArray, List.set_cons_zero, List.set_cons_succ]
        refine wpAnyH_ready (rs := [10]) (by kernel_rfl) (by simp) ?_
        refine AllReadyH.cons rfl (fun K hK => ?_) AllReadyH.nil
        go_simp
        have hb8 := hb4.alloc hb4.size (.cells #[.slice A4 4 c4, .slice D4 6 d4] 26)
        have hq8 := Row.new w4 #[.slice A4 4 c4, .slice D4 6 d4] 26
        rw [hbz] at hq8
        obtain ⟨r0, _⟩ := hq8.at0 (j := 0) rfl
        obtain ⟨r1, _⟩ := hq8.at0 (j := 1) rfl
        have hF6 := hF4.fl.alloc (.cells #[.slice A4 4 c4, .slice D4 6 d4] 26)
        have hD6 := hD4.alloc (.cells #[.slice A4 4 c4, .slice D4 6 d4] 26)
        refine hK.out _ _ (⟨(hs.out _ hb8).x0, (hs.out _ hb8).x1⟩) (fun hHa3 => ?_)
        clear hK K
        try simp only [Act.put, List.getElem_toArray, List.getElem_cons_zero, List.getElem_cons_succ, List.setIfInBounds_toArray, List.set_cons_zero, List.set_cons_succ]
        refine wpAnyH_take (i := 11) (v := ?va9) rfl (by kernel_rfl) (by kernel_rfl) (by kernel_rfl) (fun _ _ _ h => h) (Or.inl ⟨by kernel_rfl, ?ya9⟩) hHa3 ?ra9
        case ya9 => (intro w' hS; (try dsimp only at hS); obtain ⟨s0, s1⟩ := hS; (try go_simp); (try with_reducible rfl))
        try simp only [Act.put, List.getElem_toArray, List.getElem_cons_zero, List.getElem_cons_succ, List.setIfInBounds_toArray, List.set_cons_zero, List.set_cons_succ]
        refine wpAnyH_done (by kernel_rfl) ?_ _
        have hHs := hs.out _ hb8
        have hHt : Held (w4.alloc (.cells #[.slice A4 4 c4, .slice D4 6 d4] 26)) bz A4 D4 4 c4 6 d4 y := ⟨hF6, hD6, r0, r1, HYF.out.1.1.symm, HYF.out.2.1.symm⟩
        have hB5 := hvd.trans (hb8.mono (by have h := hvd.size; exact h))
        have hX5 := hXx.out _ hb8
        have hT5 := ht.out _ hb8
        obtain ⟨W5, hW5⟩ : ∃ W, (w4.alloc (.cells #[.slice A4 4 c4, .slice D4 6 d4] 26)) = W := ⟨_, rfl⟩
        rw [hW5] at hHs hHt hB5 hX5 hT5
        (try rw [hW5])
        clear hW5 hb8 hb4 r0 r1 hF6 hD6 hF4 hD4 hl4
        clear hs hXx ht hvd hvb
        replace x0 := hHs.x0
        replace x1 := hHs.x1
        have y0 := hHt.x0
        have y1 := hHt.x1
        replace t0 := hT5.x0
        replace t1 := hT5.x1
        go_wp2_with fail
        refine (impl_StoreOk y A4 D4 _ _ c4 d4 _ hHt.hn hHt.hm hHt.fl hHt.dk).mono ?_
        rintro e w8 ⟨rfl, hb⟩
        have hs8 := hb.size
        have hB8 := hB5.trans (hb.mono hB5.size)
        replace hHs := hHs.below hb (Nat.le_refl _)
        replace x0 := hHs.x0
        replace x1 := hHs.x1
        replace hHt := hHt.below hb (Nat.le_refl _)
        replace y0 := hHt.x0
        replace y1 := hHt.x1
        replace hT5 := hT5.below hb (Nat.le_refl _)
        replace t0 := hT5.x0
        replace t1 := hT5.x1
        replace hX5 := hX5.below hb (Nat.le_refl _)
        clear hb hB5
        by_cases hoy : storeOk y = true
        · have HOY := Lib.hid (storeOk_iff.1 hoy)
          have HTZ : Hid (toR y (xs.drop q) (cut - q) torn = (t, true)) := by rw [Hid, toR_yes (by omega) (storeOk_iff.2 HOY.out) HAD.out, HZ.out]
          have HCC := HCUT.out
          have ec : IntKind.i64.wrap (cut - (q : Int)) = cut - (q : Int) := IntWalk.i64_in _ (by omega)
          rw [hoy]
          clear hoy HCC
          obtain ⟨V2, hV2⟩ : ∃ V2, (if vc = q then V else Option.map (fun x => x.add (q * 8)) V) = V2 := ⟨_, rfl⟩
          have hX8 := hX5.sps_drop hqx hxc hV2
          have hvd : Below w.heap.size w w8.drew := hB8.drew
          have hs := Lib.hid (fun X (h : Below w8.drew.heap.size w8.drew X) => hHt.drew.below h (Nat.le_refl _))
          have ht := Lib.hid (fun X (h : Below w8.drew.heap.size w8.drew X) => hT5.drew.below h (Nat.le_refl _))
          have hvb : Below w8.drew.heap.size w8.drew w8.drew := Below.refl _ _
          have hXx := Lib.hid (fun X (h : Below w8.drew.heap.size w8.drew X) => hX8.drew.below h (Nat.le_refl _))
          clear hHs hHt hT5 hX5 hX8 hB8
          go_wp2
          refine wp_region_held_drew (S := fun X => X.cell? ⟨bz, 0, none⟩ = some (.slice A4 4 c4) ∧ X.cell? ⟨bz, 1, none⟩ = some (.slice D4 6 d4)) (by kernel_rfl) ⟨(hs.out _ hvb).x0, (hs.out _ hvb).x1⟩ (fun hHeld0 => ?_)
          refine wpAnyH_take (i := 0) (v := ?vaxz1) rfl (by kernel_rfl) (by kernel_rfl) (by kernel_rfl) (fun _ _ _ h => h) (Or.inl ⟨by kernel_rfl, ?yaxz1⟩) hHeld0 ?raxz1
          case yaxz1 => (intro w' hS; (try dsimp only at hS); obtain ⟨s0, s1⟩ := hS; (try go_simp); (try with_reducible rfl))
          try simp only [Act.put, List.getElem_toArray, List.getElem_cons_zero, List.getElem_cons_succ, List.setIfInBounds_toArray, List.set_cons_zero, List.set_cons_succ]
          refine wpAnyH_take (i := 1) (v := ?vaxz2) rfl (by kernel_rfl) (by kernel_rfl) (by kernel_rfl) (fun _ _ _ h => h) (Or.inl ⟨by kernel_rfl, ?yaxz2⟩) hHeld0 ?raxz2
          case yaxz2 => (intro w' hS; (try dsimp only at hS); obtain ⟨s0, s1⟩ := hS; (try go_simp); (try with_reducible rfl))
          try simp only [Act.put, List.getElem_toArray, List.getElem_cons_zero, List.getElem_cons_succ, List.setIfInBounds_toArray, List.set_cons_zero, List.set_cons_succ]
          refine wpAnyH_take (i := 2) (v := ?vaxz3) rfl (by kernel_rfl) (by kernel_rfl) (by kernel_rfl) (fun _ _ _ h => h) (Or.inl ⟨by kernel_rfl, ?yaxz3⟩) hHeld0 ?raxz3
          case yaxz3 => (intro w' hS; (try dsimp only at hS); obtain ⟨s0, s1⟩ := hS; (try go_simp); (try with_reducible rfl))
          try simp only [Act.put, List.getElem_toArray, List.getElem_cons_zero, List.getElem_cons_succ, List.setIfInBounds_toArray, List.set_cons_zero, List.set_cons_succ]
          refine wpAnyH_take (i := 3) (v := ?vaxz4) rfl (by kernel_rfl) (by kernel_rfl) (by kernel_rfl) (fun _ _ _ h => h) (Or.inl ⟨by kernel_rfl, ?yaxz4⟩) hHeld0 ?raxz4
          case yaxz4 => (intro w' hS; (try dsimp only at hS); obtain ⟨s0, s1⟩ := hS; (try go_simp); (try with_reducible rfl))
          try simp only [Act.put, List.getElem_toArray, List.getElem_cons_zero, List.getElem_cons_succ, List.setIfInBounds_toArray, List.set_cons_zero, List.set_cons_succ]
          refine wpAnyH_take (i := 4) (v := ?vaxz5) rfl (by kernel_rfl) (by kernel_rfl) (by kernel_rfl) (fun _ _ _ h => h) (Or.inl ⟨by kernel_rfl, ?yaxz5⟩) hHeld0 ?raxz5
          case yaxz5 => (intro w' hS; (try dsimp only at hS); obtain ⟨s0, s1⟩ := hS; (try go_simp); (try with_reducible rfl))
          try simp only [Act.put, List.getElem_toArray, List.getElem_cons_zero, List.getElem_cons_succ, List.setIfInBounds_toArray, List.set_cons_zero, List.set_cons_succ]
          refine wpAnyH_take (i := 5) (v := ?vaxz6) rfl (by kernel_rfl) (by kernel_rfl) (by kernel_rfl) (fun _ _ _ h => h) (Or.inl ⟨by kernel_rfl, ?yaxz6⟩) hHeld0 ?raxz6
          case yaxz6 => (intro w' hS; (try dsimp only at hS); obtain ⟨s0, s1⟩ := hS; (try go_simp); (try with_reducible rfl))
          try simp only [Act.put, List.getElem_toArray, List.getElem_cons_zero, List.getElem_cons_succ, List.setIfInBounds_toArray, List.set_cons_zero, List.set_cons_succ]
          refine wpAnyH_take (i := 6) (v := ?vaxz7) rfl (by kernel_rfl) (by kernel_rfl) (by kernel_rfl) (fun _ _ _ h => h) (Or.inl ⟨by kernel_rfl, ?yaxz7⟩) hHeld0 ?raxz7
          case yaxz7 => (intro w' hS; (try dsimp only at hS); obtain ⟨s0, s1⟩ := hS; (try go_simp); (try with_reducible rfl))
          try simp only [Act.put, List.getElem_toArray, List.getElem_cons_zero, List.getElem_cons_succ, List.setIfInBounds_toArray, List.set_cons_zero, List.set_cons_succ]
          refine wpAnyH_take (i := 7) (v := ?vaxz8) rfl (by kernel_rfl) (by kernel_rfl) (by kernel_rfl) (fun _ _ _ h => h) (Or.inl ⟨by kernel_rfl, ?yaxz8⟩) hHeld0 ?raxz8
          case yaxz8 => (intro w' hS; (try dsimp only at hS); obtain ⟨s0, s1⟩ := hS; (try go_simp); (try with_reducible rfl))
          try simp only [Act.put, List.getElem_toArray, List.getElem_cons_zero, List.getElem_cons_succ, List.setIfInBounds_toArray, List.set_cons_zero, List.set_cons_succ]
          refine wpAnyH_ready (rs := [8, 12]) (by kernel_rfl) (by simp) ?_
          refine AllReadyH.cons rfl (fun K hK => ?_) (AllReadyH.cons rfl (fun K hK => ?_) AllReadyH.nil)
          · go_simp
            refine (impl_StepsTo_t HTZ.out HTF.out (by rw [List.length_drop]; omega) A4 D4 V2 4 6 c4 d4 (vc - q) (xs.length - q) _ (hs.out _ hvb).hn (hs.out _ hvb).hm (by rw [List.length_drop]) (hs.out _ hvb).fl (hs.out _ hvb).dk (hXx.out _ hvb)).mono ?_
            rintro e w9 ⟨A9, c9, D9, d9, rfl, hF9, hD9, hl9, hc⟩
            have hb4 := hvb.trans (hc.mono hvb.size)
            have hz4 := hc.size
            go_wp2_with fail
            refine hK.out _ _ (⟨(hs.out _ hb4).x0, (hs.out _ hb4).x1⟩) (fun hHaxz1 => ?_)
            clear hK K
            try simp only [Act.put, List.getElem_toArray, List.getElem_cons_zero, List.getElem_cons_succ, List.setIfInBounds_toArray, List.set_cons_zero, List.set_cons_succ]
            refine wpAnyH_take (i := 9) (v := ?vaxz9) rfl (by kernel_rfl) (by kernel_rfl) (by kernel_rfl) (fun _ _ _ h => h) (Or.inl ⟨by kernel_rfl, ?yaxz9⟩) hHaxz1 ?raxz9
            case yaxz9 => (intro w' hS; (try dsimp only at hS); obtain ⟨s0, s1⟩ := hS; (try go_simp); (try with_reducible rfl))
            try simp only [Act.put, List.getElem_toArray, List.getElem_cons_zero, List.getElem_cons_succ, List.setIfInBounds_toArray, List.set_cons_zero, List.set_cons_succ]
            refine wpAnyH_take (i := 10) (v := ?vaxz10) rfl (by kernel_rfl) (by kernel_rfl) (by kernel_rfl) (fun _ _ _ h => h) (Or.inl ⟨by kernel_rfl, ?yaxz10⟩) hHaxz1 ?raxz10
            case yaxz10 => (intro w' hS; (try dsimp only at hS); obtain ⟨s0, s1⟩ := hS; (try go_simp); (try with_reducible rfl))
            try simp only [Act.put, List.getElem_toArray, List.getElem_cons_zero, List.getElem_cons_succ, List.setIfInBounds_toArray, List.set_cons_zero, List.set_cons_succ]
            refine wpAnyH_take (i := 11) (v := ?vaxz11) rfl (by kernel_rfl) (by kernel_rfl) (by kernel_rfl) (fun _ _ _ h => h) (Or.inl ⟨by kernel_rfl, ?yaxz11⟩) hHaxz1 ?raxz11
            case yaxz11 => (intro w' hS; (try dsimp only at hS); obtain ⟨s0, s1⟩ := hS; (try go_simp); (try with_reducible rfl))
            try simp only [Act.put, List.getElem_toArray, List.getElem_cons_zero, List.getElem_cons_succ, List.setIfInBounds_toArray, List.set_cons_zero, List.set_cons_succ]
            refine wpAnyH_ready (rs := [12]) (by kernel_rfl) (by simp) ?_
            refine AllReadyH.cons rfl (fun K hK => ?_) AllReadyH.nil
            go_simp
            obtain ⟨bv, hbz⟩ : ∃ b, w9.heap.size = b := ⟨_, rfl⟩
            have hbz' : w9.heap.size = bv := hbz
            have hq := Row.new w9 #[.slice none 0 0, .slice none 0 0] 26
            have hb3 := hb4.alloc hb4.size (.cells #[.slice none 0 0, .slice none 0 0] 26)
            rw [hbz'] at hq
            (try simp only [hbz])
            obtain ⟨z0, z2⟩ := hq.at0 (j := 0) rfl
            obtain ⟨z1, z3⟩ := hq.at0 (j := 1) rfl
            have hzs : (w9.alloc (.cells #[.slice none 0 0, .slice none 0 0] 26)).heap.size = bv + 1 := by rw [← hbz']; simp
            refine hK.out _ _ (⟨(hs.out _ hb3).x0, (hs.out _ hb3).x1⟩) (fun hHaxz2 => ?_)
            clear hK K
            try simp only [Act.put, List.getElem_toArray, List.getElem_cons_zero, List.getElem_cons_succ, List.setIfInBounds_toArray, List.set_cons_zero, List.set_cons_succ]
            refine wpAnyH_ready (rs := [13]) (by kernel_rfl) (by simp) ?_
            refine AllReadyH.cons rfl (fun K hK => ?_) AllReadyH.nil
            go_simp
            have hb8 := hb4.alloc hb4.size (.cells #[.slice A9 4 c9, .slice D9 6 d9] 26)
            have hq8 := Row.new w9 #[.slice A9 4 c9, .slice D9 6 d9] 26
            rw [hbz] at hq8
            obtain ⟨r0, _⟩ := hq8.at0 (j := 0) rfl
            obtain ⟨r1, _⟩ := hq8.at0 (j := 1) rfl
            have hF6 := hF9.fl.alloc (.cells #[.slice A9 4 c9, .slice D9 6 d9] 26)
            have hD6 := hD9.alloc (.cells #[.slice A9 4 c9, .slice D9 6 d9] 26)
            refine hK.out _ _ (⟨(hs.out _ hb8).x0, (hs.out _ hb8).x1⟩) (fun hHaxz3 => ?_)
            clear hK K
            try simp only [Act.put, List.getElem_toArray, List.getElem_cons_zero, List.getElem_cons_succ, List.setIfInBounds_toArray, List.set_cons_zero, List.set_cons_succ]
            refine wpAnyH_take (i := 14) (v := ?vaxz12) rfl (by kernel_rfl) (by kernel_rfl) (by kernel_rfl) (fun _ _ _ h => h) (Or.inl ⟨by kernel_rfl, ?yaxz12⟩) hHaxz3 ?raxz12
            case yaxz12 => (intro w' hS; (try dsimp only at hS); obtain ⟨s0, s1⟩ := hS; (try go_simp); (try with_reducible rfl))
            try simp only [Act.put, List.getElem_toArray, List.getElem_cons_zero, List.getElem_cons_succ, List.setIfInBounds_toArray, List.set_cons_zero, List.set_cons_succ]
            refine wpAnyH_done (by kernel_rfl) ?_ _
            have hHs := hs.out _ hb8
            have hHz : Held (w9.alloc (.cells #[.slice A9 4 c9, .slice D9 6 d9] 26)) bv A9 D9 4 c9 6 d9 t := ⟨hF6, hD6, r0, r1, HTF.out.1.1.symm, HTF.out.2.1.symm⟩
            have hB6 := hvd.trans (hb8.mono (by have h := hvd.size; exact h))
            have hT6 := ht.out _ hb8
            obtain ⟨W6, hW5⟩ : ∃ W, (w9.alloc (.cells #[.slice A9 4 c9, .slice D9 6 d9] 26)) = W := ⟨_, rfl⟩
            rw [hW5] at hHs hHz hB6 hT6
            (try rw [hW5])
            clear hW5 hb8 hb4 r0 r1 hF6 hD6 hF9 hD9 hl9
            replace t0 := hT6.x0
            replace t1 := hT6.x1
            have z0 := hHz.x0
            have z1 := hHz.x1
            go_wp2_with fail
            refine (laws_lqStore_fine HTF.out A9 D9 A3 D3 c9 d9 c3 d3 _ hHz.fl hHz.dk hT6.fl hT6.dk).mono ?_
            rintro e wf ⟨rfl, hb⟩
            have hBf := hB6.trans (hb.mono hB6.size)
            go_wp2
            go_ret
            exact ⟨rfl, hBf⟩
          · go_simp
            obtain ⟨bv, hbz⟩ : ∃ b, w8.heap.size = b := ⟨_, rfl⟩
            have hbz' : w8.drew.heap.size = bv := hbz
            have hq := Row.new w8.drew #[.slice none 0 0, .slice none 0 0] 26
            have hb3 := hvb.alloc hvb.size (.cells #[.slice none 0 0, .slice none 0 0] 26)
            rw [hbz'] at hq
            (try simp only [hbz])
            obtain ⟨z0, z2⟩ := hq.at0 (j := 0) rfl
            obtain ⟨z1, z3⟩ := hq.at0 (j := 1) rfl
            have hzs : (w8.drew.alloc (.cells #[.slice none 0 0, .slice none 0 0] 26)).heap.size = bv + 1 := by rw [← hbz']; simp
            have hzs2 : (w8.alloc (.cells #[.slice none 0 0, .slice none 0 0] 26)).drew.heap.size = bv + 1 := hzs
            refine hK.out _ _ (⟨(hs.out _ hb3).x0, (hs.out _ hb3).x1⟩) (fun hHaxz4 => ?_)
            clear hK K
            try simp only [Act.put, List.getElem_toArray, List.getElem_cons_zero, List.getElem_cons_succ, List.setIfInBounds_toArray, List.set_cons_zero, List.set_cons_succ]
            refine wpAnyH_ready (rs := [8]) (by kernel_rfl) (by simp) ?_
            refine AllReadyH.cons rfl (fun K hK => ?_) AllReadyH.nil
            go_simp
            refine (impl_StepsTo_t HTZ.out HTF.out (by rw [List.length_drop]; omega) A4 D4 V2 4 6 c4 d4 (vc - q) (xs.length - q) _ (hs.out _ hb3).hn (hs.out _ hb3).hm (by rw [List.length_drop]) (hs.out _ hb3).fl (hs.out _ hb3).dk (hXx.out _ hb3)).mono ?_
            rintro e w9 ⟨A9, c9, D9, d9, rfl, hF9, hD9, hl9, hc⟩
            have hb4 := hb3.trans (hc.mono hb3.size)
            have hz4 := hc.size
            have y0 := (hc.cell (p := ⟨bv, 0, none⟩) (by show bv < _; omega)).trans z0
            have y1 := (hc.cell (p := ⟨bv, 1, none⟩) (by show bv < _; omega)).trans z1
            have y2 := (hc.frozen (p := ⟨bv, 0, none⟩) (by show bv < _; omega)).trans z2
            have y3 := (hc.frozen (p := ⟨bv, 1, none⟩) (by show bv < _; omega)).trans z3
            go_wp2_with fail
            refine hK.out _ _ (⟨(hs.out _ hb4).x0, (hs.out _ hb4).x1⟩) (fun hHaxz5 => ?_)
            clear hK K
            try simp only [Act.put, List.getElem_toArray, List.getElem_cons_zero, List.getElem_cons_succ, List.setIfInBounds_toArray, List.set_cons_zero, List.set_cons_succ]
            refine wpAnyH_take (i := 9) (v := ?vaxz13) rfl (by kernel_rfl) (by kernel_rfl) (by kernel_rfl) (fun _ _ _ h => h) (Or.inl ⟨by kernel_rfl, ?yaxz13⟩) hHaxz5 ?raxz13
            case yaxz13 => (intro w' hS; (try dsimp only at hS); obtain ⟨s0, s1⟩ := hS; (try go_simp); (try with_reducible rfl))
            try simp only [Act.put, List.getElem_toArray, List.getElem_cons_zero, List.getElem_cons_succ, List.setIfInBounds_toArray, List.set_cons_zero, List.set_cons_succ]
            refine wpAnyH_take (i := 10) (v := ?vaxz14) rfl (by kernel_rfl) (by kernel_rfl) (by kernel_rfl) (fun _ _ _ h => h) (Or.inl ⟨by kernel_rfl, ?yaxz14⟩) hHaxz5 ?raxz14
            case yaxz14 => (intro w' hS; (try dsimp only at hS); obtain ⟨s0, s1⟩ := hS; (try go_simp); (try with_reducible rfl))
            try simp only [Act.put, List.getElem_toArray, List.getElem_cons_zero, List.getElem_cons_succ, List.setIfInBounds_toArray, List.set_cons_zero, List.set_cons_succ]
            refine wpAnyH_take (i := 11) (v := ?vaxz15) rfl (by kernel_rfl) (by kernel_rfl) (by kernel_rfl) (fun _ _ _ h => h) (Or.inl ⟨by kernel_rfl, ?yaxz15⟩) hHaxz5 ?raxz15
            case yaxz15 => (intro w' hS; (try dsimp only at hS); obtain ⟨s0, s1⟩ := hS; (try go_simp); (try with_reducible rfl))
            try simp only [Act.put, List.getElem_toArray, List.getElem_cons_zero, List.getElem_cons_succ, List.setIfInBounds_toArray, List.set_cons_zero, List.set_cons_succ]
            refine wpAnyH_ready (rs := [13]) (by kernel_rfl) (by simp) ?_
            refine AllReadyH.cons rfl (fun K hK => ?_) AllReadyH.nil
            go_simp
            have hWs := laid_cells y0 y1 (.slice A9 4 c9) (.slice D9 6 d9)
            have hsz0 := hb4.size
            have hb8 := hb4.trans (hWs.agr.below (B := w8.drew.heap.size) hsz0 (fun i hi => by show w8.heap.size ≤ i; omega))
            have r0 := hWs.new_ 0 _ rfl
            have r1 := hWs.new_ 1 _ rfl
            rw [Nat.add_zero] at r0
            have hF6 := (hF9.keep (w' := ((w9.setCell ⟨bv, 0, none⟩ (.slice A9 4 c9)).setCell ⟨bv, 1, none⟩ (.slice D9 6 d9))) fun b hb hl => hWs.block b (by omega)).fl
            have hD6 := hD9.keep (w' := ((w9.setCell ⟨bv, 0, none⟩ (.slice A9 4 c9)).setCell ⟨bv, 1, none⟩ (.slice D9 6 d9))) fun b hb hl => hWs.block b (by have := hl9 b hb; omega)
            refine hK.out _ _ (⟨(hs.out _ hb8).x0, (hs.out _ hb8).x1⟩) (fun hHaxz6 => ?_)
            clear hK K
            try simp only [Act.put, List.getElem_toArray, List.getElem_cons_zero, List.getElem_cons_succ, List.setIfInBounds_toArray, List.set_cons_zero, List.set_cons_succ]
            refine wpAnyH_take (i := 14) (v := ?vaxz16) rfl (by kernel_rfl) (by kernel_rfl) (by kernel_rfl) (fun _ _ _ h => h) (Or.inl ⟨by kernel_rfl, ?yaxz16⟩) hHaxz6 ?raxz16
            case yaxz16 => (intro w' hS; (try dsimp only at hS); obtain ⟨s0, s1⟩ := hS; (try go_simp); (try with_reducible rfl))
            try simp only [Act.put, List.getElem_toArray, List.getElem_cons_zero, List.getElem_cons_succ, List.setIfInBounds_toArray, List.set_cons_zero, List.set_cons_succ]
            refine wpAnyH_done (by kernel_rfl) ?_ _
            have hHs := hs.out _ hb8
            have hHz : Held ((w9.setCell ⟨bv, 0, none⟩ (.slice A9 4 c9)).setCell ⟨bv, 1, none⟩ (.slice D9 6 d9)) bv A9 D9 4 c9 6 d9 t := ⟨hF6, hD6, r0, r1, HTF.out.1.1.symm, HTF.out.2.1.symm⟩
            have hB6 := hvd.trans (hb8.mono (by have h := hvd.size; exact h))
            have hT6 := ht.out _ hb8
            obtain ⟨W6, hW5⟩ : ∃ W, ((w9.setCell ⟨bv, 0, none⟩ (.slice A9 4 c9)).setCell ⟨bv, 1, none⟩ (.slice D9 6 d9)) = W := ⟨_, rfl⟩
            rw [hW5] at hHs hHz hB6 hT6
            (try rw [hW5])
            clear hW5 hb8 hb4 r0 r1 hF6 hD6 hF9 hD9 hl9
            replace t0 := hT6.x0
            replace t1 := hT6.x1
            have z0 := hHz.x0
            have z1 := hHz.x1
            go_wp2_with fail
            refine (laws_lqStore_fine HTF.out A9 D9 A3 D3 c9 d9 c3 d3 _ hHz.fl hHz.dk hT6.fl hT6.dk).mono ?_
            rintro e wf ⟨rfl, hb⟩
            have hBf := hB6.trans (hb.mono hB6.size)
            go_wp2
            go_ret
            exact ⟨rfl, hBf⟩
        · rw [show storeOk y = false from by simpa using hoy]
          clear hoy
          go_wp2
          go_ret
          exact ⟨rfl, hB8⟩
      · go_simp
        obtain ⟨bz, hbz⟩ : ∃ b, w7.heap.size = b := ⟨_, rfl⟩
        have hbz' : w7.drew.heap.size = bz := hbz
        have hq := Row.new w7.drew #[.slice none 0 0, .slice none 0 0] 26
        have hb3 := hvb.alloc hvb.size (.cells #[.slice none 0 0, .slice none 0 0] 26)
        rw [hbz'] at hq
        (try simp only [hbz])
        obtain ⟨z0, z2⟩ := hq.at0 (j := 0) rfl
        obtain ⟨z1, z3⟩ := hq.at0 (j := 1) rfl
        have hzs : (w7.drew.alloc (.cells #[.slice none 0 0, .slice none 0 0] 26)).heap.size = bz + 1 := by rw [← hbz']; simp
        have hzs2 : (w7.alloc (.cells #[.slice none 0 0, .slice none 0 0] 26)).drew.heap.size = bz + 1 := hzs
        refine hK.out _ _ (⟨(hs.out _ hb3).x0, (hs.out _ hb3).x1⟩) (fun hHa4 => ?_)
        clear hK K
        try simp only [Act.put, List.getElem_toArray, List.getElem_cons_zero, List.getElem_cons_succ, List.setIfInBounds_toArray, List.set_cons_zero, List.set_cons_succ]
        refine wpAnyH_ready (rs := [5]) (by kernel_rfl) (by simp) ?_
        refine AllReadyH.cons rfl (fun K hK => ?_) AllReadyH.nil
        go_simp
        refine (impl_StepsTo_t HTY.out HYF.out (by rw [HTL.out]; omega) A1 D1 V 4 6 c1 d1 vc q _ (hs.out _ hb3).hn (hs.out _ hb3).hm HTL.out.symm (hs.out _ hb3).fl (hs.out _ hb3).dk ((hXx.out _ hb3).sps_take q)).mono ?_
        rintro e w4 ⟨A4, c4, D4, d4, rfl, hF4, hD4, hl4, hc⟩
        have hb4 := hb3.trans (hc.mono hb3.size)
        have hz4 := hc.size
        have y0 := (hc.cell (p := ⟨bz, 0, none⟩) (by show bz < _; omega)).trans z0
        have y1 := (hc.cell (p := ⟨bz, 1, none⟩) (by show bz < _; omega)).trans z1
        have y2 := (hc.frozen (p := ⟨bz, 0, none⟩) (by show bz < _; omega)).trans z2
        have y3 := (hc.frozen (p := ⟨bz, 1, none⟩) (by show bz < _; omega)).trans z3
        go_wp2_with fail
        refine hK.out _ _ (⟨(hs.out _ hb4).x0, (hs.out _ hb4).x1⟩) (fun hHa5 => ?_)
        clear hK K
        try simp only [Act.put, List.getElem_toArray, List.getElem_cons_zero, List.getElem_cons_succ, List.setIfInBounds_toArray, List.set_cons_zero, List.set_cons_succ]
        refine wpAnyH_take (i := 6) (v := ?va10) rfl (by kernel_rfl) (by kernel_rfl) (by kernel_rfl) (fun _ _ _ h => h) (Or.inl ⟨by kernel_rfl, ?ya10⟩) hHa5 ?ra10
        case ya10 => (intro w' hS; (try dsimp only at hS); obtain ⟨s0, s1⟩ := hS; (try go_simp); (try with_reducible rfl))
        try simp only [Act.put, List.getElem_toArray, List.getElem_cons_zero, List.getElem_cons_succ, List.setIfInBounds_toArray, List.set_cons_zero, List.set_cons_succ]
        refine wpAnyH_take (i := 7) (v := ?va11) rfl (by kernel_rfl) (by kernel_rfl) (by kernel_rfl) (fun _ _ _ h => h) (Or.inl ⟨by kernel_rfl, ?ya11⟩) hHa5 ?ra11
        case ya11 => (intro w' hS; (try dsimp only at hS); obtain ⟨s0, s1⟩ := hS; (try go_simp); (try with_reducible rfl))
        try simp only [Act.put, List.getElem_toArray, List.getElem_cons_zero, List.getElem_cons_succ, List.setIfInBounds_toArray, List.set_cons_zero, List.set_cons_succ]
        refine wpAnyH_take (i := 8) (v := ?va12) rfl (by kernel_rfl) (by kernel_rfl) (by kernel_rfl) (fun _ _ _ h => h) (Or.inl ⟨by kernel_rfl, ?ya12⟩) hHa5 ?ra12
        case ya12 => (intro w' hS; (try dsimp only at hS); obtain ⟨s0, s1⟩ := hS; (try go_simp); (try with_reducible rfl))
        try simp only [Act.put, List.getElem_toArray, List.getElem_cons_zero, List.getElem_cons_succ, List.setIfInBounds_toArray, List.set_cons_zero, List.set_cons_succ]
        refine wpAnyH_ready (rs := [10]) (by kernel_rfl) (by simp) ?_
        refine AllReadyH.cons rfl (fun K hK => ?_) AllReadyH.nil
        go_simp
        have hWs := laid_cells y0 y1 (.slice A4 4 c4) (.slice D4 6 d4)
        have hsz0 := hb4.size
        have hb8 := hb4.trans (hWs.agr.below (B := w7.drew.heap.size) hsz0 (fun i hi => by show w7.heap.size ≤ i; omega))
        have r0 := hWs.new_ 0 _ rfl
        have r1 := hWs.new_ 1 _ rfl
        rw [Nat.add_zero] at r0
        have hF6 := (hF4.keep (w' := ((w4.setCell ⟨bz, 0, none⟩ (.slice A4 4 c4)).setCell ⟨bz, 1, none⟩ (.slice D4 6 d4))) fun b hb hl => hWs.block b (by omega)).fl
        have hD6 := hD4.keep (w' := ((w4.setCell ⟨bz, 0, none⟩ (.slice A4 4 c4)).setCell ⟨bz, 1, none⟩ (.slice D4 6 d4))) fun b hb hl => hWs.block b (by have := hl4 b hb; omega)
        refine hK.out _ _ (⟨(hs.out _ hb8).x0, (hs.out _ hb8).x1⟩) (fun hHa6 => ?_)
        clear hK K
        try simp only [Act.put, List.getElem_toArray, List.getElem_cons_zero, List.getElem_cons_succ, List.setIfInBounds_toArray, List.set_cons_zero, List.set_cons_succ]
        refine wpAnyH_take (i := 11) (v := ?va13) rfl (by kernel_rfl) (by kernel_rfl) (by kernel_rfl) (fun _ _ _ h => h) (Or.inl ⟨by kernel_rfl, ?ya13⟩) hHa6 ?ra13
        case ya13 => (intro w' hS; (try dsimp only at hS); obtain ⟨s0, s1⟩ := hS; (try go_simp); (try with_reducible rfl))
        try simp only [Act.put, List.getElem_toArray, List.getElem_cons_zero, List.getElem_cons_succ, List.setIfInBounds_toArray, List.set_cons_zero, List.set_cons_succ]
        refine wpAnyH_done (by kernel_rfl) ?_ _
        have hHs := hs.out _ hb8
        have hHt : Held ((w4.setCell ⟨bz, 0, none⟩ (.slice A4 4 c4)).setCell ⟨bz, 1, none⟩ (.slice D4 6 d4)) bz A4 D4 4 c4 6 d4 y := ⟨hF6, hD6, r0, r1, HYF.out.1.1.symm, HYF.out.2.1.symm⟩
        have hB5 := hvd.trans (hb8.mono (by have h := hvd.size; exact h))
        have hX5 := hXx.out _ hb8
        have hT5 := ht.out _ hb8
        obtain ⟨W5, hW5⟩ : ∃ W, ((w4.setCell ⟨bz, 0, none⟩ (.slice A4 4 c4)).setCell ⟨bz, 1, none⟩ (.slice D4 6 d4)) = W := ⟨_, rfl⟩
        rw [hW5] at hHs hHt hB5 hX5 hT5
        (try rw [hW5])
        clear hW5 hb8 hb4 r0 r1 hF6 hD6 hF4 hD4 hl4
        clear hs hXx ht hvd hvb
        replace x0 := hHs.x0
        replace x1 := hHs.x1
        have y0 := hHt.x0
        have y1 := hHt.x1
        replace t0 := hT5.x0
        replace t1 := hT5.x1
        go_wp2_with fail
        refine (impl_StoreOk y A4 D4 _ _ c4 d4 _ hHt.hn hHt.hm hHt.fl hHt.dk).mono ?_
        rintro e w8 ⟨rfl, hb⟩
        have hs8 := hb.size
        have hB8 := hB5.trans (hb.mono hB5.size)
        replace hHs := hHs.below hb (Nat.le_refl _)
        replace x0 := hHs.x0
        replace x1 := hHs.x1
        replace hHt := hHt.below hb (Nat.le_refl _)
        replace y0 := hHt.x0
        replace y1 := hHt.x1
        replace hT5 := hT5.below hb (Nat.le_refl _)
        replace t0 := hT5.x0
        replace t1 := hT5.x1
        replace hX5 := hX5.below hb (Nat.le_refl _)
        clear hb hB5
        by_cases hoy : storeOk y = true
        · have HOY := Lib.hid (storeOk_iff.1 hoy)
          have HTZ : Hid (toR y (xs.drop q) (cut - q) torn = (t, true)) := by rw [Hid, toR_yes (by omega) (storeOk_iff.2 HOY.out) HAD.out, HZ.out]
          have HCC := HCUT.out
          have ec : IntKind.i64.wrap (cut - (q : Int)) = cut - (q : Int) := IntWalk.i64_in _ (by omega)
          rw [hoy]
          clear hoy HCC
          obtain ⟨V2, hV2⟩ : ∃ V2, (if vc = q then V else Option.map (fun x => x.add (q * 8)) V) = V2 := ⟨_, rfl⟩
          have hX8 := hX5.sps_drop hqx hxc hV2
          have hvd : Below w.heap.size w w8.drew := hB8.drew
          have hs := Lib.hid (fun X (h : Below w8.drew.heap.size w8.drew X) => hHt.drew.below h (Nat.le_refl _))
          have ht := Lib.hid (fun X (h : Below w8.drew.heap.size w8.drew X) => hT5.drew.below h (Nat.le_refl _))
          have hvb : Below w8.drew.heap.size w8.drew w8.drew := Below.refl _ _
          have hXx := Lib.hid (fun X (h : Below w8.drew.heap.size w8.drew X) => hX8.drew.below h (Nat.le_refl _))
          clear hHs hHt hT5 hX5 hX8 hB8
          go_wp2
          refine wp_region_held_drew (S := fun X => X.cell? ⟨bz, 0, none⟩ = some (.slice A4 4 c4) ∧ X.cell? ⟨bz, 1, none⟩ = some (.slice D4 6 d4)) (by kernel_rfl) ⟨(hs.out _ hvb).x0, (hs.out _ hvb).x1⟩ (fun hHeld0 => ?_)
          refine wpAnyH_take (i := 0) (v := ?vayz1) rfl (by kernel_rfl) (by kernel_rfl) (by kernel_rfl) (fun _ _ _ h => h) (Or.inl ⟨by kernel_rfl, ?yayz1⟩) hHeld0 ?rayz1
          case yayz1 => (intro w' hS; (try dsimp only at hS); obtain ⟨s0, s1⟩ := hS; (try go_simp); (try with_reducible rfl))
          try simp only [Act.put, List.getElem_toArray, List.getElem_cons_zero, List.getElem_cons_succ, List.setIfInBounds_toArray, List.set_cons_zero, List.set_cons_succ]
          refine wpAnyH_take (i := 1) (v := ?vayz2) rfl (by kernel_rfl) (by kernel_rfl) (by kernel_rfl) (fun _ _ _ h => h) (Or.inl ⟨by kernel_rfl, ?yayz2⟩) hHeld0 ?rayz2
          case yayz2 => (intro w' hS; (try dsimp only at hS); obtain ⟨s0, s1⟩ := hS; (try go_simp); (try with_reducible rfl))
          try simp only [Act.put, List.getElem_toArray, List.getElem_cons_zero, List.getElem_cons_succ, List.setIfInBounds_toArray, List.set_cons_zero, List.set_cons_succ]
          refine wpAnyH_take (i := 2) (v := ?vayz3) rfl (by kernel_rfl) (by kernel_rfl) (by kernel_rfl) (fun _ _ _ h => h) (Or.inl ⟨by kernel_rfl, ?yayz3⟩) hHeld0 ?rayz3
          case yayz3 => (intro w' hS; (try dsimp only at hS); obtain ⟨s0, s1⟩ := hS; (try go_simp); (try with_reducible rfl))
          try simp only [Act.put, List.getElem_toArray, List.getElem_cons_zero, List.getElem_cons_succ, List.setIfInBounds_toArray, List.set_cons_zero, List.set_cons_succ]
          refine wpAnyH_take (i := 3) (v := ?vayz4) rfl (by kernel_rfl) (by kernel_rfl) (by kernel_rfl) (fun _ _ _ h => h) (Or.inl ⟨by kernel_rfl, ?yayz4⟩) hHeld0 ?rayz4
          case yayz4 => (intro w' hS; (try dsimp only at hS); obtain ⟨s0, s1⟩ := hS; (try go_simp); (try with_reducible rfl))
          try simp only [Act.put, List.getElem_toArray, List.getElem_cons_zero, List.getElem_cons_succ, List.setIfInBounds_toArray, List.set_cons_zero, List.set_cons_succ]
          refine wpAnyH_take (i := 4) (v := ?vayz5) rfl (by kernel_rfl) (by kernel_rfl) (by kernel_rfl) (fun _ _ _ h => h) (Or.inl ⟨by kernel_rfl, ?yayz5⟩) hHeld0 ?rayz5
          case yayz5 => (intro w' hS; (try dsimp only at hS); obtain ⟨s0, s1⟩ := hS; (try go_simp); (try with_reducible rfl))
          try simp only [Act.put, List.getElem_toArray, List.getElem_cons_zero, List.getElem_cons_succ, List.setIfInBounds_toArray, List.set_cons_zero, List.set_cons_succ]
          refine wpAnyH_take (i := 5) (v := ?vayz6) rfl (by kernel_rfl) (by kernel_rfl) (by kernel_rfl) (fun _ _ _ h => h) (Or.inl ⟨by kernel_rfl, ?yayz6⟩) hHeld0 ?rayz6
          case yayz6 => (intro w' hS; (try dsimp only at hS); obtain ⟨s0, s1⟩ := hS; (try go_simp); (try with_reducible rfl))
          try simp only [Act.put, List.getElem_toArray, List.getElem_cons_zero, List.getElem_cons_succ, List.setIfInBounds_toArray, List.set_cons_zero, List.set_cons_succ]
          refine wpAnyH_take (i := 6) (v := ?vayz7) rfl (by kernel_rfl) (by kernel_rfl) (by kernel_rfl) (fun _ _ _ h => h) (Or.inl ⟨by kernel_rfl, ?yayz7⟩) hHeld0 ?rayz7
          case yayz7 => (intro w' hS; (try dsimp only at hS); obtain ⟨s0, s1⟩ := hS; (try go_simp); (try with_reducible rfl))
          try simp only [Act.put, List.getElem_toArray, List.getElem_cons_zero, List.getElem_cons_succ, List.setIfInBounds_toArray, List.set_cons_zero, List.set_cons_succ]
          refine wpAnyH_take (i := 7) (v := ?vayz8) rfl (by kernel_rfl) (by kernel_rfl) (by kernel_rfl) (fun _ _ _ h => h) (Or.inl ⟨by kernel_rfl, ?yayz8⟩) hHeld0 ?rayz8
          case yayz8 => (intro w' hS; (try dsimp only at hS); obtain ⟨s0, s1⟩ := hS; (try go_simp); (try with_reducible rfl))
          try simp only [Act.put, List.getElem_toArray, List.getElem_cons_zero, List.getElem_cons_succ, List.setIfInBounds_toArray, List.set_cons_zero, List.set_cons_succ]
          refine wpAnyH_ready (rs := [8, 12]) (by kernel_rfl) (by simp) ?_
          refine AllReadyH.cons rfl (fun K hK => ?_) (AllReadyH.cons rfl (fun K hK => ?_) AllReadyH.nil)
          · go_simp
            refine (impl_StepsTo_t HTZ.out HTF.out (by rw [List.length_drop]; omega) A4 D4 V2 4 6 c4 d4 (vc - q) (xs.length - q) _ (hs.out _ hvb).hn (hs.out _ hvb).hm (by rw [List.length_drop]) (hs.out _ hvb).fl (hs.out _ hvb).dk (hXx.out _ hvb)).mono ?_
            rintro e w9 ⟨A9, c9, D9, d9, rfl, hF9, hD9, hl9, hc⟩
            have hb4 := hvb.trans (hc.mono hvb.size)
            have hz4 := hc.size
            go_wp2_with fail
            refine hK.out _ _ (⟨(hs.out _ hb4).x0, (hs.out _ hb4).x1⟩) (fun hHayz1 => ?_)
            clear hK K
            try simp only [Act.put, List.getElem_toArray, List.getElem_cons_zero, List.getElem_cons_succ, List.setIfInBounds_toArray, List.set_cons_zero, List.set_cons_succ]
            refine wpAnyH_take (i := 9) (v := ?vayz9) rfl (by kernel_rfl) (by kernel_rfl) (by kernel_rfl) (fun _ _ _ h => h) (Or.inl ⟨by kernel_rfl, ?yayz9⟩) hHayz1 ?rayz9
            case yayz9 => (intro w' hS; (try dsimp only at hS); obtain ⟨s0, s1⟩ := hS; (try go_simp); (try with_reducible rfl))
            try simp only [Act.put, List.getElem_toArray, List.getElem_cons_zero, List.getElem_cons_succ, List.setIfInBounds_toArray, List.set_cons_zero, List.set_cons_succ]
            refine wpAnyH_take (i := 10) (v := ?vayz10) rfl (by kernel_rfl) (by kernel_rfl) (by kernel_rfl) (fun _ _ _ h => h) (Or.inl ⟨by kernel_rfl, ?yayz10⟩) hHayz1 ?rayz10
            case yayz10 => (intro w' hS; (try dsimp only at hS); obtain ⟨s0, s1⟩ := hS; (try go_simp); (try with_reducible rfl))
            try simp only [Act.put, List.getElem_toArray, List.getElem_cons_zero, List.getElem_cons_succ, List.setIfInBounds_toArray, List.set_cons_zero, List.set_cons_succ]
            refine wpAnyH_take (i := 11) (v := ?vayz11) rfl (by kernel_rfl) (by kernel_rfl) (by kernel_rfl) (fun _ _ _ h => h) (Or.inl ⟨by kernel_rfl, ?yayz11⟩) hHayz1 ?rayz11
            case yayz11 => (intro w' hS; (try dsimp only at hS); obtain ⟨s0, s1⟩ := hS; (try go_simp); (try with_reducible rfl))
            try simp only [Act.put, List.getElem_toArray, List.getElem_cons_zero, List.getElem_cons_succ, List.setIfInBounds_toArray, List.set_cons_zero, List.set_cons_succ]
            refine wpAnyH_ready (rs := [12]) (by kernel_rfl) (by simp) ?_
            refine AllReadyH.cons rfl (fun K hK => ?_) AllReadyH.nil
            go_simp
            obtain ⟨bv, hbz⟩ : ∃ b, w9.heap.size = b := ⟨_, rfl⟩
            have hbz' : w9.heap.size = bv := hbz
            have hq := Row.new w9 #[.slice none 0 0, .slice none 0 0] 26
            have hb3 := hb4.alloc hb4.size (.cells #[.slice none 0 0, .slice none 0 0] 26)
            rw [hbz'] at hq
            (try simp only [hbz])
            obtain ⟨z0, z2⟩ := hq.at0 (j := 0) rfl
            obtain ⟨z1, z3⟩ := hq.at0 (j := 1) rfl
            have hzs : (w9.alloc (.cells #[.slice none 0 0, .slice none 0 0] 26)).heap.size = bv + 1 := by rw [← hbz']; simp
            refine hK.out _ _ (⟨(hs.out _ hb3).x0, (hs.out _ hb3).x1⟩) (fun hHayz2 => ?_)
            clear hK K
            try simp only [Act.put, List.getElem_toArray, List.getElem_cons_zero, List.getElem_cons_succ, List.setIfInBounds_toArray, List.set_cons_zero, List.set_cons_succ]
            refine wpAnyH_ready (rs := [13]) (by kernel_rfl) (by simp) ?_
            refine AllReadyH.cons rfl (fun K hK => ?_) AllReadyH.nil
            go_simp
            have hb8 := hb4.alloc hb4.size (.cells #[.slice A9 4 c9, .slice D9 6 d9] 26)
            have hq8 := Row.new w9 #[.slice A9 4 c9, .slice D9 6 d9] 26
            rw [hbz] at hq8
            obtain ⟨r0, _⟩ := hq8.at0 (j := 0) rfl
            obtain ⟨r1, _⟩ := hq8.at0 (j := 1) rfl
            have hF6 := hF9.fl.alloc (.cells #[.slice A9 4 c9, .slice D9 6 d9] 26)
            have hD6 := hD9.alloc (.cells #[.slice A9 4 c9, .slice D9 6 d9] 26)
            refine hK.out _ _ (⟨(hs.out _ hb8).x0, (hs.out _ hb8).x1⟩) (fun hHayz3 => ?_)
            clear hK K
            try simp only [Act.put, List.getElem_toArray, List.getElem_cons_zero, List.getElem_cons_succ, List.setIfInBounds_toArray, List.set_cons_zero, List.set_cons_succ]
            refine wpAnyH_take (i := 14) (v := ?vayz12) rfl (by kernel_rfl) (by kernel_rfl) (by kernel_rfl) (fun _ _ _ h => h) (Or.inl ⟨by kernel_rfl, ?yayz12⟩) hHayz3 ?rayz12
            case yayz12 => (intro w' hS; (try dsimp only at hS); obtain ⟨s0, s1⟩ := hS; (try go_simp); (try with_reducible rfl))
            try simp only [Act.put, List.getElem_toArray, List.getElem_cons_zero, List.getElem_cons_succ, List.setIfInBounds_toArray, List.set_cons_zero, List.set_cons_succ]
            refine wpAnyH_done (by kernel_rfl) ?_ _
            have hHs := hs.out _ hb8
            have hHz : Held (w9.alloc (.cells #[.slice A9 4 c9, .slice D9 6 d9] 26)) bv A9 D9 4 c9 6 d9 t := ⟨hF6, hD6, r0, r1, HTF.out.1.1.symm, HTF.out.2.1.symm⟩
            have hB6 := hvd.trans (hb8.mono (by have h := hvd.size; exact h))
            have hT6 := ht.out _ hb8
            obtain ⟨W6, hW5⟩ : ∃ W, (w9.alloc (.cells #[.slice A9 4 c9, .slice D9 6 d9] 26)) = W := ⟨_, rfl⟩
            rw [hW5] at hHs hHz hB6 hT6
            (try rw [hW5])
            clear hW5 hb8 hb4 r0 r1 hF6 hD6 hF9 hD9 hl9
            replace t0 := hT6.x0
            replace t1 := hT6.x1
            have z0 := hHz.x0
            have z1 := hHz.x1
            go_wp2_with fail
            refine (laws_lqStore_fine HTF.out A9 D9 A3 D3 c9 d9 c3 d3 _ hHz.fl hHz.dk hT6.fl hT6.dk).mono ?_
            rintro e wf ⟨rfl, hb⟩
            have hBf := hB6.trans (hb.mono hB6.size)
            go_wp2
            go_ret
            exact ⟨rfl, hBf⟩
          · go_simp
            obtain ⟨bv, hbz⟩ : ∃ b, w8.heap.size = b := ⟨_, rfl⟩
            have hbz' : w8.drew.heap.size = bv := hbz
            have hq := Row.new w8.drew #[.slice none 0 0, .slice none 0 0] 26
            have hb3 := hvb.alloc hvb.size (.cells #[.slice none 0 0, .slice none 0 0] 26)
            rw [hbz'] at hq
            (try simp only [hbz])
            obtain ⟨z0, z2⟩ := hq.at0 (j := 0) rfl
            obtain ⟨z1, z3⟩ := hq.at0 (j := 1) rfl
            have hzs : (w8.drew.alloc (.cells #[.slice none 0 0, .slice none 0 0] 26)).heap.size = bv + 1 := by rw [← hbz']; simp
            have hzs2 : (w8.alloc (.cells #[.slice none 0 0, .slice none 0 0] 26)).drew.heap.size = bv + 1 := hzs
            refine hK.out _ _ (⟨(hs.out _ hb3).x0, (hs.out _ hb3).x1⟩) (fun hHayz4 => ?_)
            clear hK K
            try simp only [Act.put, List.getElem_toArray, List.getElem_cons_zero, List.getElem_cons_succ, List.setIfInBounds_toArray, List.set_cons_zero, List.set_cons_succ]
            refine wpAnyH_ready (rs := [8]) (by kernel_rfl) (by simp) ?_
            refine AllReadyH.cons rfl (fun K hK => ?_) AllReadyH.nil
            go_simp
            refine (impl_StepsTo_t HTZ.out HTF.out (by rw [List.length_drop]; omega) A4 D4 V2 4 6 c4 d4 (vc - q) (xs.length - q) _ (hs.out _ hb3).hn (hs.out _ hb3).hm (by rw [List.length_drop]) (hs.out _ hb3).fl (hs.out _ hb3).dk (hXx.out _ hb3)).mono ?_
            rintro e w9 ⟨A9, c9, D9, d9, rfl, hF9, hD9, hl9, hc⟩
            have hb4 := hb3.trans (hc.mono hb3.size)
            have hz4 := hc.size
            have y0 := (hc.cell (p := ⟨bv, 0, none⟩) (by show bv < _; omega)).trans z0
            have y1 := (hc.cell (p := ⟨bv, 1, none⟩) (by show bv < _; omega)).trans z1
            have y2 := (hc.frozen (p := ⟨bv, 0, none⟩) (by show bv < _; omega)).trans z2
            have y3 := (hc.frozen (p := ⟨bv, 1, none⟩) (by show bv < _; omega)).trans z3
            go_wp2_with fail
            refine hK.out _ _ (⟨(hs.out _ hb4).x0, (hs.out _ hb4).x1⟩) (fun hHayz5 => ?_)
            clear hK K
            try simp only [Act.put, List.getElem_toArray, List.getElem_cons_zero, List.getElem_cons_succ, List.setIfInBounds_toArray, List.set_cons_zero, List.set_cons_succ]
            refine wpAnyH_take (i := 9) (v := ?vayz13) rfl (by kernel_rfl) (by kernel_rfl) (by kernel_rfl) (fun _ _ _ h => h) (Or.inl ⟨by kernel_rfl, ?yayz13⟩) hHayz5 ?rayz13
            case yayz13 => (intro w' hS; (try dsimp only at hS); obtain ⟨s0, s1⟩ := hS; (try go_simp); (try with_reducible rfl))
            try simp only [Act.put, List.getElem_toArray, List.getElem_cons_zero, List.getElem_cons_succ, List.setIfInBounds_toArray, List.set_cons_zero, List.set_cons_succ]
            refine wpAnyH_take (i := 10) (v := ?vayz14) rfl (by kernel_rfl) (by kernel_rfl) (by kernel_rfl) (fun _ _ _ h => h) (Or.inl ⟨by kernel_rfl, ?yayz14⟩) hHayz5 ?rayz14
            case yayz14 => (intro w' hS; (try dsimp only at hS); obtain ⟨s0, s1⟩ := hS; (try go_simp); (try with_reducible rfl))
            try simp only [Act.put, List.getElem_toArray, List.getElem_cons_zero, List.getElem_cons_succ, List.setIfInBounds_toArray, List.set_cons_zero, List.set_cons_succ]
            refine wpAnyH_take (i := 11) (v := ?vayz15) rfl (by kernel_rfl) (by kernel_rfl) (by kernel_rfl) (fun _ _ _ h => h) (Or.inl ⟨by kernel_rfl, ?yayz15⟩) hHayz5 ?rayz15
            case yayz15 => (intro w' hS; (try dsimp only at hS); obtain ⟨s0, s1⟩ := hS; (try go_simp); (try with_reducible rfl))
            try simp only [Act.put, List.getElem_toArray, List.getElem_cons_zero, List.getElem_cons_succ, List.setIfInBounds_toArray, List.set_cons_zero, List.set_cons_succ]
            refine wpAnyH_ready (rs := [13]) (by kernel_rfl) (by simp) ?_
            refine AllReadyH.cons rfl (fun K hK => ?_) AllReadyH.nil
            go_simp
            have hWs := laid_cells y0 y1 (.slice A9 4 c9) (.slice D9 6 d9)
            have hsz0 := hb4.size
            have hb8 := hb4.trans (hWs.agr.below (B := w8.drew.heap.size) hsz0 (fun i hi => by show w8.heap.size ≤ i; omega))
            have r0 := hWs.new_ 0 _ rfl
            have r1 := hWs.new_ 1 _ rfl
            rw [Nat.add_zero] at r0
            have hF6 := (hF9.keep (w' := ((w9.setCell ⟨bv, 0, none⟩ (.slice A9 4 c9)).setCell ⟨bv, 1, none⟩ (.slice D9 6 d9))) fun b hb hl => hWs.block b (by omega)).fl
            have hD6 := hD9.keep (w' := ((w9.setCell ⟨bv, 0, none⟩ (.slice A9 4 c9)).setCell ⟨bv, 1, none⟩ (.slice D9 6 d9))) fun b hb hl => hWs.block b (by have := hl9 b hb; omega)
            refine hK.out _ _ (⟨(hs.out _ hb8).x0, (hs.out _ hb8).x1⟩) (fun hHayz6 => ?_)
            clear hK K
            try simp only [Act.put, List.getElem_toArray, List.getElem_cons_zero, List.getElem_cons_succ, List.setIfInBounds_toArray, List.set_cons_zero, List.set_cons_succ]
            refine wpAnyH_take (i := 14) (v := ?vayz16) rfl (by kernel_rfl) (by kernel_rfl) (by kernel_rfl) (fun _ _ _ h => h) (Or.inl ⟨by kernel_rfl, ?yayz16⟩) hHayz6 ?rayz16
            case yayz16 => (intro w' hS; (try dsimp only at hS); obtain ⟨s0, s1⟩ := hS; (try go_simp); (try with_reducible rfl))
            try simp only [Act.put, List.getElem_toArray, List.getElem_cons_zero, List.getElem_cons_succ, List.setIfInBounds_toArray, List.set_cons_zero, List.set_cons_succ]
            refine wpAnyH_done (by kernel_rfl) ?_ _
            have hHs := hs.out _ hb8
            have hHz : Held ((w9.setCell ⟨bv, 0, none⟩ (.slice A9 4 c9)).setCell ⟨bv, 1, none⟩ (.slice D9 6 d9)) bv A9 D9 4 c9 6 d9 t := ⟨hF6, hD6, r0, r1, HTF.out.1.1.symm, HTF.out.2.1.symm⟩
            have hB6 := hvd.trans (hb8.mono (by have h := hvd.size; exact h))
            have hT6 := ht.out _ hb8
            obtain ⟨W6, hW5⟩ : ∃ W, ((w9.setCell ⟨bv, 0, none⟩ (.slice A9 4 c9)).setCell ⟨bv, 1, none⟩ (.slice D9 6 d9)) = W := ⟨_, rfl⟩
            rw [hW5] at hHs hHz hB6 hT6
            (try rw [hW5])
            clear hW5 hb8 hb4 r0 r1 hF6 hD6 hF9 hD9 hl9
            replace t0 := hT6.x0
            replace t1 := hT6.x1
            have z0 := hHz.x0
            have z1 := hHz.x1
            go_wp2_with fail
            refine (laws_lqStore_fine HTF.out A9 D9 A3 D3 c9 d9 c3 d3 _ hHz.fl hHz.dk hT6.fl hT6.dk).mono ?_
            rintro e wf ⟨rfl, hb⟩
            have hBf := hB6.trans (hb.mono hB6.size)
            go_wp2
            go_ret
            exact ⟨rfl, hBf⟩
        · rw [show storeOk y = false from by simpa using hoy]
          clear hoy
          go_wp2
          go_ret
          exact ⟨rfl, hB8⟩
    · rw [if_neg hmin] at hE
      rw [hE] at r1 r2 em hpz
      clear hE
      go_wp2
      refine wp_region_held_drew (S := fun X => X.cell? ⟨bx, 0, none⟩ = some (.slice A1 4 c1) ∧ X.cell? ⟨bx, 1, none⟩ = some (.slice D1 6 d1)) (by kernel_rfl) ⟨(hs.out _ hvb).x0, (hs.out _ hvb).x1⟩ (fun hHeld0 => ?_)
      refine wpAnyH_take (i := 0) (v := ?vb1) rfl (by kernel_rfl) (by kernel_rfl) (by kernel_rfl) (fun _ _ _ h => h) (Or.inl ⟨by kernel_rfl, ?yb1⟩) hHeld0 ?rb1
      case yb1 => (intro w' hS; (try dsimp only at hS); obtain ⟨s0, s1⟩ := hS; (try go_simp); (try with_reducible rfl))
      try simp only [Act.put, List.getElem_toArray, List.getElem_cons_zero, List.getElem_cons_succ, List.setIfInBounds_toArray, List.set_cons_zero, List.set_cons_succ]
      refine wpAnyH_take (i := 1) (v := ?vb2) rfl (by kernel_rfl) (by kernel_rfl) (by kernel_rfl) (fun _ _ _ h => h) (Or.inl ⟨by kernel_rfl, ?yb2⟩) hHeld0 ?rb2
      case yb2 => (intro w' hS; (try dsimp only at hS); obtain ⟨s0, s1⟩ := hS; (try go_simp); (try with_reducible rfl))
      try simp only [Act.put, List.getElem_toArray, List.getElem_cons_zero, List.getElem_cons_succ, List.setIfInBounds_toArray, List.set_cons_zero, List.set_cons_succ]
      refine wpAnyH_take (i := 2) (v := ?vb3) rfl (by kernel_rfl) (by kernel_rfl) (by kernel_rfl) (fun _ _ _ h => h) (Or.inl ⟨by kernel_rfl, ?yb3⟩) hHeld0 ?rb3
      case yb3 => (intro w' hS; (try dsimp only at hS); obtain ⟨s0, s1⟩ := hS; (try go_simp); (try with_reducible rfl))
      try simp only [Act.put, List.getElem_toArray, List.getElem_cons_zero, List.getElem_cons_succ, List.setIfInBounds_toArray, List.set_cons_zero, List.set_cons_succ]
      refine wpAnyH_take (i := 3) (v := ?vb4) rfl (by kernel_rfl) (by kernel_rfl) (by kernel_rfl) (fun _ _ _ h => h) (Or.inl ⟨by kernel_rfl, ?yb4⟩) hHeld0 ?rb4
      case yb4 => (intro w' hS; (try dsimp only at hS); obtain ⟨s0, s1⟩ := hS; (try go_simp); (try with_reducible rfl))
      try simp only [Act.put, List.getElem_toArray, List.getElem_cons_zero, List.getElem_cons_succ, List.setIfInBounds_toArray, List.set_cons_zero, List.set_cons_succ]
      refine wpAnyH_take (i := 4) (v := ?vb5) rfl (by kernel_rfl) (by kernel_rfl) (by kernel_rfl) (fun _ _ _ h => h) (Or.inl ⟨by kernel_rfl, ?yb5⟩) hHeld0 ?rb5
      case yb5 => (intro w' hS; (try dsimp only at hS); obtain ⟨s0, s1⟩ := hS; (try go_simp); (try with_reducible rfl))
      try simp only [Act.put, List.getElem_toArray, List.getElem_cons_zero, List.getElem_cons_succ, List.setIfInBounds_toArray, List.set_cons_zero, List.set_cons_succ]
      refine wpAnyH_ready (rs := [5, 9]) (by kernel_rfl) (by simp) ?_
      refine AllReadyH.cons rfl (fun K hK => ?_) (AllReadyH.cons rfl (fun K hK => ?_) AllReadyH.nil)
      · go_simp
        refine (impl_StepsTo_t HTY.out HYF.out (by rw [HTL.out]; omega) A1 D1 V 4 6 c1 d1 vc q _ (hs.out _ hvb).hn (hs.out _ hvb).hm HTL.out.symm (hs.out _ hvb).fl (hs.out _ hvb).dk ((hXx.out _ hvb).sps_take q)).mono ?_
        rintro e w4 ⟨A4, c4, D4, d4, rfl, hF4, hD4, hl4, hc⟩
        have hb4 := hvb.trans (hc.mono hvb.size)
        have hz4 := hc.size
        go_wp2_with fail
        refine hK.out _ _ (⟨(hs.out _ hb4).x0, (hs.out _ hb4).x1⟩) (fun hHb1 => ?_)
        clear hK K
        try simp only [Act.put, List.getElem_toArray, List.getElem_cons_zero, List.getElem_cons_succ, List.setIfInBounds_toArray, List.set_cons_zero, List.set_cons_succ]
        refine wpAnyH_take (i := 6) (v := ?vb6) rfl (by kernel_rfl) (by kernel_rfl) (by kernel_rfl) (fun _ _ _ h => h) (Or.inl ⟨by kernel_rfl, ?yb6⟩) hHb1 ?rb6
        case yb6 => (intro w' hS; (try dsimp only at hS); obtain ⟨s0, s1⟩ := hS; (try go_simp); (try with_reducible rfl))
        try simp only [Act.put, List.getElem_toArray, List.getElem_cons_zero, List.getElem_cons_succ, List.setIfInBounds_toArray, List.set_cons_zero, List.set_cons_succ]
        refine wpAnyH_take (i := 7) (v := ?vb7) rfl (by kernel_rfl) (by kernel_rfl) (by kernel_rfl) (fun _ _ _ h => h) (Or.inl ⟨by kernel_rfl, ?yb7⟩) hHb1 ?rb7
        case yb7 => (intro w' hS; (try dsimp only at hS); obtain ⟨s0, s1⟩ := hS; (try go_simp); (try with_reducible rfl))
        try simp only [Act.put, List.getElem_toArray, List.getElem_cons_zero, List.getElem_cons_succ, List.setIfInBounds_toArray, List.set_cons_zero, List.set_cons_succ]
        refine wpAnyH_take (i := 8) (v := ?vb8) rfl (by kernel_rfl) (by kernel_rfl) (by kernel_rfl) (fun _ _ _ h => h) (Or.inl ⟨by kernel_rfl, ?yb8⟩) hHb1 ?rb8
        case yb8 => (intro w' hS; (try dsimp only at hS); obtain ⟨s0, s1⟩ := hS; (try go_simp); (try with_reducible rfl))
        try simp only [Act.put, List.getElem_toArray, List.getElem_cons_zero, List.getElem_cons_succ, List.setIfInBounds_toArray, List.set_cons_zero, List.set_cons_succ]
        refine wpAnyH_ready (rs := [9]) (by kernel_rfl) (by simp) ?_
        refine AllReadyH.cons rfl (fun K hK => ?_) AllReadyH.nil
        go_simp
        obtain ⟨bz, hbz⟩ : ∃ b, w4.heap.size = b := ⟨_, rfl⟩
        have hbz' : w4.heap.size = bz := hbz
        have hq := Row.new w4 #[.slice none 0 0, .slice none 0 0] 26
        have hb3 := hb4.alloc hb4.size (.cells #[.slice none 0 0, .slice none 0 0] 26)
        rw [hbz'] at hq
        (try simp only [hbz])
        obtain ⟨z0, z2⟩ := hq.at0 (j := 0) rfl
        obtain ⟨z1, z3⟩ := hq.at0 (j := 1) rfl
        have hzs : (w4.alloc (.cells #[.slice none 0 0, .slice none 0 0] 26)).heap.size = bz + 1 := by rw [← hbz']; simp
        refine hK.out _ _ (⟨(hs.out _ hb3).x0, (hs.out _ hb3).x1⟩) (fun hHb2 => ?_)
        clear hK K
        try simp only [Act.put, List.getElem_toArray, List.getElem_cons_zero, List.getElem_cons_succ, List.setIfInBounds_toArray, List.set_cons_zero, List.set_cons_succ]
        refine wpAnyH_ready (rs := [10]) (by kernel_rfl) (by simp) ?_
        refine AllReadyH.cons rfl (fun K hK => ?_) AllReadyH.nil
        go_simp
        have hb8 := hb4.alloc hb4.size (.cells #[.slice A4 4 c4, .slice D4 6 d4] 26)
        have hq8 := Row.new w4 #[.slice A4 4 c4, .slice D4 6 d4] 26
        rw [hbz] at hq8
        obtain ⟨r0, _⟩ := hq8.at0 (j := 0) rfl
        obtain ⟨r1, _⟩ := hq8.at0 (j := 1) rfl
        have hF6 := hF4.fl.alloc (.cells #[.slice A4 4 c4, .slice D4 6 d4] 26)
        have hD6 := hD4.alloc (.cells #[.slice A4 4 c4, .slice D4 6 d4] 26)
        refine hK.out _ _ (⟨(hs.out _ hb8).x0, (hs.out _ hb8).x1⟩) (fun hHb3 => ?_)
        clear hK K
        try simp only [Act.put, List.getElem_toArray, List.getElem_cons_zero, List.getElem_cons_succ, List.setIfInBounds_toArray, List.set_cons_zero, List.set_cons_succ]
        refine wpAnyH_take (i := 11) (v := ?vb9) rfl (by kernel_rfl) (by kernel_rfl) (by kernel_rfl) (fun _ _ _ h => h) (Or.inl ⟨by kernel_rfl, ?yb9⟩) hHb3 ?rb9
        case yb9 => (intro w' hS; (try dsimp only at hS); obtain ⟨s0, s1⟩ := hS; (try go_simp); (try with_reducible rfl))
        try simp only [Act.put, List.getElem_toArray, List.getElem_cons_zero, List.getElem_cons_succ, List.setIfInBounds_toArray, List.set_cons_zero, List.set_cons_succ]
        refine wpAnyH_done (by kernel_rfl) ?_ _
        have hHs := hs.out _ hb8
        have hHt : Held (w4.alloc (.cells #[.slice A4 4 c4, .slice D4 6 d4] 26)) bz A4 D4 4 c4 6 d4 y := ⟨hF6, hD6, r0, r1, HYF.out.1.1.symm, HYF.out.2.1.symm⟩
        have hB5 := hvd.trans (hb8.mono (by have h := hvd.size; exact h))
        have hX5 := hXx.out _ hb8
        have hT5 := ht.out _ hb8
        obtain ⟨W5, hW5⟩ : ∃ W, (w4.alloc (.cells #[.slice A4 4 c4, .slice D4 6 d4] 26)) = W := ⟨_, rfl⟩
        rw [hW5] at hHs hHt hB5 hX5 hT5
        (try rw [hW5])
        clear hW5 hb8 hb4 r0 r1 hF6 hD6 hF4 hD4 hl4
        clear hs hXx ht hvd hvb
        replace x0 := hHs.x0
        replace x1 := hHs.x1
        have y0 := hHt.x0
        have y1 := hHt.x1
        replace t0 := hT5.x0
        replace t1 := hT5.x1
        go_wp2_with fail
        refine (impl_StoreOk y A4 D4 _ _ c4 d4 _ hHt.hn hHt.hm hHt.fl hHt.dk).mono ?_
        rintro e w8 ⟨rfl, hb⟩
        have hs8 := hb.size
        have hB8 := hB5.trans (hb.mono hB5.size)
        replace hHs := hHs.below hb (Nat.le_refl _)
        replace x0 := hHs.x0
        replace x1 := hHs.x1
        replace hHt := hHt.below hb (Nat.le_refl _)
        replace y0 := hHt.x0
        replace y1 := hHt.x1
        replace hT5 := hT5.below hb (Nat.le_refl _)
        replace t0 := hT5.x0
        replace t1 := hT5.x1
        replace hX5 := hX5.below hb (Nat.le_refl _)
        clear hb hB5
        by_cases hoy : storeOk y = true
        · have HOY := Lib.hid (storeOk_iff.1 hoy)
          have HTZ : Hid (toR y (xs.drop q) (cut - q) torn = (t, true)) := by rw [Hid, toR_yes (by omega) (storeOk_iff.2 HOY.out) HAD.out, HZ.out]
          have HCC := HCUT.out
          have ec : IntKind.i64.wrap (cut - (q : Int)) = cut - (q : Int) := IntWalk.i64_in _ (by omega)
          rw [hoy]
          clear hoy HCC
          obtain ⟨V2, hV2⟩ : ∃ V2, (if vc = q then V else Option.map (fun x => x.add (q * 8)) V) = V2 := ⟨_, rfl⟩
          have hX8 := hX5.sps_drop hqx hxc hV2
          have hvd : Below w.heap.size w w8.drew := hB8.drew
          have hs := Lib.hid (fun X (h : Below w8.drew.heap.size w8.drew X) => hHt.drew.below h (Nat.le_refl _))
          have ht := Lib.hid (fun X (h : Below w8.drew.heap.size w8.drew X) => hT5.drew.below h (Nat.le_refl _))
          have hvb : Below w8.drew.heap.size w8.drew w8.drew := Below.refl _ _
          have hXx := Lib.hid (fun X (h : Below w8.drew.heap.size w8.drew X) => hX8.drew.below h (Nat.le_refl _))
          clear hHs hHt hT5 hX5 hX8 hB8
          go_wp2
          refine wp_region_held_drew (S := fun X => X.cell? ⟨bz, 0, none⟩ = some (.slice A4 4 c4) ∧ X.cell? ⟨bz, 1, none⟩ = some (.slice D4 6 d4)) (by kernel_rfl) ⟨(hs.out _ hvb).x0, (hs.out _ hvb).x1⟩ (fun hHeld0 => ?_)
          refine wpAnyH_take (i := 0) (v := ?vbxz1) rfl (by kernel_rfl) (by kernel_rfl) (by kernel_rfl) (fun _ _ _ h => h) (Or.inl ⟨by kernel_rfl, ?ybxz1⟩) hHeld0 ?rbxz1
          case ybxz1 => (intro w' hS; (try dsimp only at hS); obtain ⟨s0, s1⟩ := hS; (try go_simp); (try with_reducible rfl))
          try simp only [Act.put, List.getElem_toArray, List.getElem_cons_zero, List.getElem_cons_succ, List.setIfInBounds_toArray, List.set_cons_zero, List.set_cons_succ]
          refine wpAnyH_take (i := 1) (v := ?vbxz2) rfl (by kernel_rfl) (by kernel_rfl) (by kernel_rfl) (fun _ _ _ h => h) (Or.inl ⟨by kernel_rfl, ?ybxz2⟩) hHeld0 ?rbxz2
          case ybxz2 => (intro w' hS; (try dsimp only at hS); obtain ⟨s0, s1⟩ := hS; (try go_simp); (try with_reducible rfl))
          try simp only [Act.put, List.getElem_toArray, List.getElem_cons_zero, List.getElem_cons_succ, List.setIfInBounds_toArray, List.set_cons_zero, List.set_cons_succ]
          refine wpAnyH_take (i := 2) (v := ?vbxz3) rfl (by kernel_rfl) (by kernel_rfl) (by kernel_rfl) (fun _ _ _ h => h) (Or.inl ⟨by kernel_rfl, ?ybxz3⟩) hHeld0 ?rbxz3
          case ybxz3 => (intro w' hS; (try dsimp only at hS); obtain ⟨s0, s1⟩ := hS; (try go_simp); (try with_reducible rfl))
          try simp only [Act.put, List.getElem_toArray, List.getElem_cons_zero, List.getElem_cons_succ, List.setIfInBounds_toArray, List.set_cons_zero, List.set_cons_succ]
          refine wpAnyH_take (i := 3) (v := ?vbxz4) rfl (by kernel_rfl) (by kernel_rfl) (by kernel_rfl) (fun _ _ _ h => h) (Or.inl ⟨by kernel_rfl, ?ybxz4⟩) hHeld0 ?rbxz4
          case ybxz4 => (intro w' hS; (try dsimp only at hS); obtain ⟨s0, s1⟩ := hS; (try go_simp); (try with_reducible rfl))
          try simp only [Act.put, List.getElem_toArray, List.getElem_cons_zero, List.getElem_cons_succ, List.setIfInBounds_toArray, List.set_cons_zero, List.set_cons_succ]
          refine wpAnyH_take (i := 4) (v := ?vbxz5) rfl (by kernel_rfl) (by kernel_rfl) (by kernel_rfl) (fun _ _ _ h => h) (Or.inl ⟨by kernel_rfl, ?ybxz5⟩) hHeld0 ?rbxz5
          case ybxz5 => (intro w' hS; (try dsimp only at hS); obtain ⟨s0, s1⟩ := hS; (try go_simp); (try with_reducible rfl))
          try simp only [Act.put, List.getElem_toArray, List.getElem_cons_zero, List.getElem_cons_succ, List.setIfInBounds_toArray, List.set_cons_zero, List.set_cons_succ]
          refine wpAnyH_take (i := 5) (v := ?vbxz6) rfl (by kernel_rfl) (by kernel_rfl) (by kernel_rfl) (fun _ _ _ h => h) (Or.inl ⟨by kernel_rfl, ?ybxz6⟩) hHeld0 ?rbxz6
          case ybxz6 => (intro w' hS; (try dsimp only at hS); obtain ⟨s0, s1⟩ := hS; (try go_simp); (try with_reducible rfl))
          try simp only [Act.put, List.getElem_toArray, List.getElem_cons_zero, List.getElem_cons_succ, List.setIfInBounds_toArray, List.set_cons_zero, List.set_cons_succ]
          refine wpAnyH_take (i := 6) (v := ?vbxz7) rfl (by kernel_rfl) (by kernel_rfl) (by kernel_rfl) (fun _ _ _ h => h) (Or.inl ⟨by kernel_rfl, ?ybxz7⟩) hHeld0 ?rbxz7
          case ybxz7 => (intro w' hS; (try dsimp only at hS); obtain ⟨s0, s1⟩ := hS; (try go_simp); (try with_reducible rfl))
          try simp only [Act.put, List.getElem_toArray, List.getElem_cons_zero, List.getElem_cons_succ, List.setIfInBounds_toArray, List.set_cons_zero, List.set_cons_succ]
          refine wpAnyH_take (i := 7) (v := ?vbxz8) rfl (by kernel_rfl) (by kernel_rfl) (by kernel_rfl) (fun _ _ _ h => h) (Or.inl ⟨by kernel_rfl, ?ybxz8⟩) hHeld0 ?rbxz8
          case ybxz8 => (intro w' hS; (try dsimp only at hS); obtain ⟨s0, s1⟩ := hS; (try go_simp); (try with_reducible rfl))
          try simp only [Act.put, List.getElem_toArray, List.getElem_cons_zero, List.getElem_cons_succ, List.setIfInBounds_toArray, List.set_cons_zero, List.set_cons_succ]
          refine wpAnyH_ready (rs := [8, 12]) (by kernel_rfl) (by simp) ?_
          refine AllReadyH.cons rfl (fun K hK => ?_) (AllReadyH.cons rfl (fun K hK => ?_) AllReadyH.nil)
          · go_simp
            refine (impl_StepsTo_t HTZ.out HTF.out (by rw [List.length_drop]; omega) A4 D4 V2 4 6 c4 d4 (vc - q) (xs.length - q) _ (hs.out _ hvb).hn (hs.out _ hvb).hm (by rw [List.length_drop]) (hs.out _ hvb).fl (hs.out _ hvb).dk (hXx.out _ hvb)).mono ?_
            rintro e w9 ⟨A9, c9, D9, d9, rfl, hF9, hD9, hl9, hc⟩
            have hb4 := hvb.trans (hc.mono hvb.size)
            have hz4 := hc.size
            go_wp2_with fail
            refine hK.out _ _ (⟨(hs.out _ hb4).x0, (hs.out _ hb4).x1⟩) (fun hHbxz1 => ?_)
            clear hK K
            try simp only [Act.put, List.getElem_toArray, List.getElem_cons_zero, List.getElem_cons_succ, List.setIfInBounds_toArray, List.set_cons_zero, List.set_cons_succ]
            refine wpAnyH_take (i := 9) (v := ?vbxz9) rfl (by kernel_rfl) (by kernel_rfl) (by kernel_rfl) (fun _ _ _ h => h) (Or.inl ⟨by kernel_rfl, ?ybxz9⟩) hHbxz1 ?rbxz9
            case ybxz9 => (intro w' hS; (try dsimp only at hS); obtain ⟨s0, s1⟩ := hS; (try go_simp); (try with_reducible rfl))
            try simp only [Act.put, List.getElem_toArray, List.getElem_cons_zero, List.getElem_cons_succ, List.setIfInBounds_toArray, List.set_cons_zero, List.set_cons_succ]
            refine wpAnyH_take (i := 10) (v := ?vbxz10) rfl (by kernel_rfl) (by kernel_rfl) (by kernel_rfl) (fun _ _ _ h => h) (Or.inl ⟨by kernel_rfl, ?ybxz10⟩) hHbxz1 ?rbxz10
            case ybxz10 => (intro w' hS; (try dsimp only at hS); obtain ⟨s0, s1⟩ := hS; (try go_simp); (try with_reducible rfl))
            try simp only [Act.put, List.getElem_toArray, List.getElem_cons_zero, List.getElem_cons_succ, List.setIfInBounds_toArray, List.set_cons_zero, List.set_cons_succ]
            refine wpAnyH_take (i := 11) (v := ?vbxz11) rfl (by kernel_rfl) (by kernel_rfl) (by kernel_rfl) (fun _ _ _ h => h) (Or.inl ⟨by kernel_rfl, ?ybxz11⟩) hHbxz1 ?rbxz11
            case ybxz11 => (intro w' hS; (try dsimp only at hS); obtain ⟨s0, s1⟩ := hS; (try go_simp); (try with_reducible rfl))
            try simp only [Act.put, List.getElem_toArray, List.getElem_cons_zero, List.getElem_cons_succ, List.setIfInBounds_toArray, List.set_cons_zero, List.set_cons_succ]
            refine wpAnyH_ready (rs := [12]) (by kernel_rfl) (by simp) ?_
            refine AllReadyH.cons rfl (fun K hK => ?_) AllReadyH.nil
            go_simp
            obtain ⟨bv, hbz⟩ : ∃ b, w9.heap.size = b := ⟨_, rfl⟩
            have hbz' : w9.heap.size = bv := hbz
            have hq := Row.new w9 #[.slice none 0 0, .slice none 0 0] 26
            have hb3 := hb4.alloc hb4.size (.cells #[.slice none 0 0, .slice none 0 0] 26)
            rw [hbz'] at hq
            (try simp only [hbz])
            obtain ⟨z0, z2⟩ := hq.at0 (j := 0) rfl
            obtain ⟨z1, z3⟩ := hq.at0 (j := 1) rfl
            have hzs : (w9.alloc (.cells #[.slice none 0 0, .slice none 0 0] 26)).heap.size = bv + 1 := by rw [← hbz']; simp
            refine hK.out _ _ (⟨(hs.out _ hb3).x0, (hs.out _ hb3).x1⟩) (fun hHbxz2 => ?_)
            clear hK K
            try simp only [Act.put, List.getElem_toArray, List.getElem_cons_zero, List.getElem_cons_succ, List.setIfInBounds_toArray, List.set_cons_zero, List.set_cons_succ]
            refine wpAnyH_ready (rs := [13]) (by kernel_rfl) (by simp) ?_
            refine AllReadyH.cons rfl (fun K hK => ?_) AllReadyH.nil
            go_simp
            have hb8 := hb4.alloc hb4.size (.cells #[.slice A9 4 c9, .slice D9 6 d9] 26)
            have hq8 := Row.new w9 #[.slice A9 4 c9, .slice D9 6 d9] 26
            rw [hbz] at hq8
            obtain ⟨r0, _⟩ := hq8.at0 (j := 0) rfl
            obtain ⟨r1, _⟩ := hq8.at0 (j := 1) rfl
            have hF6 := hF9.fl.alloc (.cells #[.slice A9 4 c9, .slice D9 6 d9] 26)
            have hD6 := hD9.alloc (.cells #[.slice A9 4 c9, .slice D9 6 d9] 26)
            refine hK.out _ _ (⟨(hs.out _ hb8).x0, (hs.out _ hb8).x1⟩) (fun hHbxz3 => ?_)
            clear hK K
            try simp only [Act.put, List.getElem_toArray, List.getElem_cons_zero, List.getElem_cons_succ, List.setIfInBounds_toArray, List.set_cons_zero, List.set_cons_succ]
            refine wpAnyH_take (i := 14) (v := ?vbxz12) rfl (by kernel_rfl) (by kernel_rfl) (by kernel_rfl) (fun _ _ _ h => h) (Or.inl ⟨by kernel_rfl, ?ybxz12⟩) hHbxz3 ?rbxz12
            case ybxz12 => (intro w' hS; (try dsimp only at hS); obtain ⟨s0, s1⟩ := hS; (try go_simp); (try with_reducible rfl))
            try simp only [Act.put, List.getElem_toArray, List.getElem_cons_zero, List.getElem_cons_succ, List.setIfInBounds_toArray, List.set_cons_zero, List.set_cons_succ]
            refine wpAnyH_done (by kernel_rfl) ?_ _
            have hHs := hs.out _ hb8
            have hHz : Held (w9.alloc (.cells #[.slice A9 4 c9, .slice D9 6 d9] 26)) bv A9 D9 4 c9 6 d9 t := ⟨hF6, hD6, r0, r1, HTF.out.1.1.symm, HTF.out.2.1.symm⟩
            have hB6 := hvd.trans (hb8.mono (by have h := hvd.size; exact h))
            have hT6 := ht.out _ hb8
            obtain ⟨W6, hW5⟩ : ∃ W, (w9.alloc (.cells #[.slice A9 4 c9, .slice D9 6 d9] 26)) = W := ⟨_, rfl⟩
            rw [hW5] at hHs hHz hB6 hT6
            (try rw [hW5])
            clear hW5 hb8 hb4 r0 r1 hF6 hD6 hF9 hD9 hl9
            replace t0 := hT6.x0
            replace t1 := hT6.x1
            have z0 := hHz.x0
            have z1 := hHz.x1
            go_wp2_with fail
            refine (laws_lqStore_fine HTF.out A9 D9 A3 D3 c9 d9 c3 d3 _ hHz.fl hHz.dk hT6.fl hT6.dk).mono ?_
            rintro e wf ⟨rfl, hb⟩
            have hBf := hB6.trans (hb.mono hB6.size)
            go_wp2
            go_ret
            exact ⟨rfl, hBf⟩
          · go_simp
            obtain ⟨bv, hbz⟩ : ∃ b, w8.heap.size = b := ⟨_, rfl⟩
            have hbz' : w8.drew.heap.size = bv := hbz
            have hq := Row.new w8.drew #[.slice none 0 0, .slice none 0 0] 26
            have hb3 := hvb.alloc hvb.size (.cells #[.slice none 0 0, .slice none 0 0] 26)
            rw [hbz'] at hq
            (try simp only [hbz])
            obtain ⟨z0, z2⟩ := hq.at0 (j := 0) rfl
            obtain ⟨z1, z3⟩ := hq.at0 (j := 1) rfl
            have hzs : (w8.drew.alloc (.cells #[.slice none 0 0, .slice none 0 0] 26)).heap.size = bv + 1 := by rw [← hbz']; simp
            have hzs2 : (w8.alloc (.cells #[.slice none 0 0, .slice none 0 0] 26)).drew.heap.size = bv + 1 := hzs
            refine hK.out _ _ (⟨(hs.out _ hb3).x0, (hs.out _ hb3).x1⟩) (fun hHbxz4 => ?_)
            clear hK K
            try simp only [Act.put, List.getElem_toArray, List.getElem_cons_zero, List.getElem_cons_succ, List.setIfInBounds_toArray, List.set_cons_zero, List.set_cons_succ]
            refine wpAnyH_ready (rs := [8]) (by kernel_rfl) (by simp) ?_
            refine AllReadyH.cons rfl (fun K hK => ?_) AllReadyH.nil
            go_simp
            refine (impl_StepsTo_t HTZ.out HTF.out (by rw [List.length_drop]; omega) A4 D4 V2 4 6 c4 d4 (vc - q) (xs.length - q) _ (hs.out _ hb3).hn (hs.out _ hb3).hm (by rw [List.length_drop]) (hs.out _ hb3).fl (hs.out _ hb3).dk (hXx.out _ hb3)).mono ?_
            rintro e w9 ⟨A9, c9, D9, d9, rfl, hF9, hD9, hl9, hc⟩
            have hb4 := hb3.trans (hc.mono hb3.size)
            have hz4 := hc.size
            have y0 := (hc.cell (p := ⟨bv, 0, none⟩) (by show bv < _; omega)).trans z0
            have y1 := (hc.cell (p := ⟨bv, 1, none⟩) (by show bv < _; omega)).trans z1
            have y2 := (hc.frozen (p := ⟨bv, 0, none⟩) (by show bv < _; omega)).trans z2
            have y3 := (hc.frozen (p := ⟨bv, 1, none⟩) (by show bv < _; omega)).trans z3
            go_wp2_with fail
            refine hK.out _ _ (⟨(hs.out _ hb4).x0, (hs.out _ hb4).x1⟩) (fun hHbxz5 => ?_)
            clear hK K
            try simp only [Act.put, List.getElem_toArray, List.getElem_cons_zero, List.getElem_cons_succ, List.setIfInBounds_toArray, List.set_cons_zero, List.set_cons_succ]
            refine wpAnyH_take (i := 9) (v := ?vbxz13) rfl (by kernel_rfl) (by kernel_rfl) (by kernel_rfl) (fun _ _ _ h => h) (Or.inl ⟨by kernel_rfl, ?ybxz13⟩) hHbxz5 ?rbxz13
            case ybxz13 => (intro w' hS; (try dsimp only at hS); obtain ⟨s0, s1⟩ := hS; (try go_simp); (try with_reducible rfl))
            try simp only [Act.put, List.getElem_toArray, List.getElem_cons_zero, List.getElem_cons_succ, List.setIfInBounds_toArray, List.set_cons_zero, List.set_cons_succ]
            refine wpAnyH_take (i := 10) (v := ?vbxz14) rfl (by kernel_rfl) (by kernel_rfl) (by kernel_rfl) (fun _ _ _ h => h) (Or.inl ⟨by kernel_rfl, ?ybxz14⟩) hHbxz5 ?rbxz14
            case ybxz14 => (intro w' hS; (try dsimp only at hS); obtain ⟨s0, s1⟩ := hS; (try go_simp); (try with_reducible rfl))
            try simp only [Act.put, List.getElem_toArray, List.getElem_cons_zero, List.getElem_cons_succ, List.setIfInBounds_toArray, List.set_cons_zero, List.set_cons_succ]
            refine wpAnyH_take (i := 11) (v := ?vbxz15) rfl (by kernel_rfl) (by kernel_rfl) (by kernel_rfl) (fun _ _ _ h => h) (Or.inl ⟨by kernel_rfl, ?ybxz15⟩) hHbxz5 ?rbxz15
            case ybxz15 => (intro w' hS; (try dsimp only at hS); obtain ⟨s0, s1⟩ := hS; (try go_simp); (try with_reducible rfl))
            try simp only [Act.put, List.getElem_toArray, List.getElem_cons_zero, List.getElem_cons_succ, List.setIfInBounds_toArray, List.set_cons_zero, List.set_cons_succ]
            refine wpAnyH_ready (rs := [13]) (by kernel_rfl) (by simp) ?_
            refine AllReadyH.cons rfl (fun K hK => ?_) AllReadyH.nil
            go_simp
            have hWs := laid_cells y0 y1 (.slice A9 4 c9) (.slice D9 6 d9)
            have hsz0 := hb4.size
            have hb8 := hb4.trans (hWs.agr.below (B := w8.drew.heap.size) hsz0 (fun i hi => by show w8.heap.size ≤ i; omega))
            have r0 := hWs.new_ 0 _ rfl
            have r1 := hWs.new_ 1 _ rfl
            rw [Nat.add_zero] at r0
            have hF6 := (hF9.keep (w' := ((w9.setCell ⟨bv, 0, none⟩ (.slice A9 4 c9)).setCell ⟨bv, 1, none⟩ (.slice D9 6 d9))) fun b hb hl => hWs.block b (by omega)).fl
            have hD6 := hD9.keep (w' := ((w9.setCell ⟨bv, 0, none⟩ (.slice A9 4 c9)).setCell ⟨bv, 1, none⟩ (.slice D9 6 d9))) fun b hb hl => hWs.block b (by have := hl9 b hb; omega)
            refine hK.out _ _ (⟨(hs.out _ hb8).x0, (hs.out _ hb8).x1⟩) (fun hHbxz6 => ?_)
            clear hK K
            try simp only [Act.put, List.getElem_toArray, List.getElem_cons_zero, List.getElem_cons_succ, List.setIfInBounds_toArray, List.set_cons_zero, List.set_cons_succ]
            refine wpAnyH_take (i := 14) (v := ?vbxz16) rfl (by kernel_rfl) (by kernel_rfl) (by kernel_rfl) (fun _ _ _ h => h) (Or.inl ⟨by kernel_rfl, ?ybxz16⟩) hHbxz6 ?rbxz16
            case ybxz16 => (intro w' hS; (try dsimp only at hS); obtain ⟨s0, s1⟩ := hS; (try go_simp); (try with_reducible rfl))
            try simp only [Act.put, List.getElem_toArray, List.getElem_cons_zero, List.getElem_cons_succ, List.setIfInBounds_toArray, List.set_cons_zero, List.set_cons_succ]
            refine wpAnyH_done (by kernel_rfl) ?_ _
            have hHs := hs.out _ hb8
            have hHz : Held ((w9.setCell ⟨bv, 0, none⟩ (.slice A9 4 c9)).setCell ⟨bv, 1, none⟩ (.slice D9 6 d9)) bv A9 D9 4 c9 6 d9 t := ⟨hF6, hD6, r0, r1, HTF.out.1.1.symm, HTF.out.2.1.symm⟩
            have hB6 := hvd.trans (hb8.mono (by have h := hvd.size; exact h))
            have hT6 := ht.out _ hb8
            obtain ⟨W6, hW5⟩ : ∃ W, ((w9.setCell ⟨bv, 0, none⟩ (.slice A9 4 c9)).setCell ⟨bv, 1, none⟩ (.slice D9 6 d9)) = W := ⟨_, rfl⟩
            rw [hW5] at hHs hHz hB6 hT6
            (try rw [hW5])
            clear hW5 hb8 hb4 r0 r1 hF6 hD6 hF9 hD9 hl9
            replace t0 := hT6.x0
            replace t1 := hT6.x1
            have z0 := hHz.x0
            have z1 := hHz.x1
            go_wp2_with fail
            refine (laws_lqStore_fine HTF.out A9 D9 A3 D3 c9 d9 c3 d3 _ hHz.fl hHz.dk hT6.fl hT6.dk).mono ?_
            rintro e wf ⟨rfl, hb⟩
            have hBf := hB6.trans (hb.mono hB6.size)
            go_wp2
            go_ret
            exact ⟨rfl, hBf⟩
        · rw [show storeOk y = false from by simpa using hoy]
          clear hoy
          go_wp2
          go_ret
          exact ⟨rfl, hB8⟩
      · go_simp
        obtain ⟨bz, hbz⟩ : ∃ b, w7.heap.size = b := ⟨_, rfl⟩
        have hbz' : w7.drew.heap.size = bz := hbz
        have hq := Row.new w7.drew #[.slice none 0 0, .slice none 0 0] 26
        have hb3 := hvb.alloc hvb.size (.cells #[.slice none 0 0, .slice none 0 0] 26)
        rw [hbz'] at hq
        (try simp only [hbz])
        obtain ⟨z0, z2⟩ := hq.at0 (j := 0) rfl
        obtain ⟨z1, z3⟩ := hq.at0 (j := 1) rfl
        have hzs : (w7.drew.alloc (.cells #[.slice none 0 0, .slice none 0 0] 26)).heap.size = bz + 1 := by rw [← hbz']; simp
        have hzs2 : (w7.alloc (.cells #[.slice none 0 0, .slice none 0 0] 26)).drew.heap.size = bz + 1 := hzs
        refine hK.out _ _ (⟨(hs.out _ hb3).x0, (hs.out _ hb3).x1⟩) (fun hHb4 => ?_)
        clear hK K
        try simp only [Act.put, List.getElem_toArray, List.getElem_cons_zero, List.getElem_cons_succ, List.setIfInBounds_toArray, List.set_cons_zero, List.set_cons_succ]
        refine wpAnyH_ready (rs := [5]) (by kernel_rfl) (by simp) ?_
        refine AllReadyH.cons rfl (fun K hK => ?_) AllReadyH.nil
        go_simp
        refine (impl_StepsTo_t HTY.out HYF.out (by rw [HTL.out]; omega) A1 D1 V 4 6 c1 d1 vc q _ (hs.out _ hb3).hn (hs.out _ hb3).hm HTL.out.symm (hs.out _ hb3).fl (hs.out _ hb3).dk ((hXx.out _ hb3).sps_take q)).mono ?_
        rintro e w4 ⟨A4, c4, D4, d4, rfl, hF4, hD4, hl4, hc⟩
        have hb4 := hb3.trans (hc.mono hb3.size)
        have hz4 := hc.size
        have y0 := (hc.cell (p := ⟨bz, 0, none⟩) (by show bz < _; omega)).trans z0
        have y1 := (hc.cell (p := ⟨bz, 1, none⟩) (by show bz < _; omega)).trans z1
        have y2 := (hc.frozen (p := ⟨bz, 0, none⟩) (by show bz < _; omega)).trans z2
        have y3 := (hc.frozen (p := ⟨bz, 1, none⟩) (by show bz < _; omega)).trans z3
        go_wp2_with fail
        refine hK.out _ _ (⟨(hs.out _ hb4).x0, (hs.out _ hb4).x1⟩) (fun hHb5 => ?_)
        clear hK K
        try simp only [Act.put, List.getElem_toArray, List.getElem_cons_zero, List.getElem_cons_succ, List.setIfInBounds_toArray, List.set_cons_zero, List.set_cons_succ]
        refine wpAnyH_take (i := 6) (v := ?vb10) rfl (by kernel_rfl) (by kernel_rfl) (by kernel_rfl) (fun _ _ _ h => h) (Or.inl ⟨by kernel_rfl, ?yb10⟩) hHb5 ?rb10
        case yb10 => (intro w' hS; (try dsimp only at hS); obtain ⟨s0, s1⟩ := hS; (try go_simp); (try with_reducible rfl))
        try simp only [Act.put, List.getElem_toArray, List.getElem_cons_zero, List.getElem_cons_succ, List.setIfInBounds_toArray, List.set_cons_zero, List.set_cons_succ]
        refine wpAnyH_take (i := 7) (v := ?vb11) rfl (by kernel_rfl) (by kernel_rfl) (by kernel_rfl) (fun _ _ _ h => h) (Or.inl ⟨by kernel_rfl, ?yb11⟩) hHb5 ?rb11
        case yb11 => (intro w' hS; (try dsimp only at hS); obtain ⟨s0, s1⟩ := hS; (try go_simp); (try with_reducible rfl))
        try simp only [Act.put, List.getElem_toArray, List.getElem_cons_zero, List.getElem_cons_succ, List.setIfInBounds_toArray, List.set_cons_zero, List.set_cons_succ]
        refine wpAnyH_take (i := 8) (v := ?vb12) rfl (by kernel_rfl) (by kernel_rfl) (by kernel_rfl) (fun _ _ _ h => h) (Or.inl ⟨by kernel_rfl, ?yb12⟩) hHb5 ?rb12
        case yb12 => (intro w' hS; (try dsimp only at hS); obtain ⟨s0, s1⟩ := hS; (try go_simp); (try with_reducible rfl))
        try simp only [Act.put, List.getElem_toArray, List.getElem_cons_zero, List.getElem_cons_succ, List.setIfInBounds_toArray, List.set_cons_zero, List.set_cons_succ]
        refine wpAnyH_ready (rs := [10]) (by kernel_rfl) (by simp) ?_
        refine AllReadyH.cons rfl (fun K hK => ?_) AllReadyH.nil
        go_simp
        have hWs := laid_cells y0 y1 (.slice A4 4 c4) (.slice D4 6 d4)
        have hsz0 := hb4.size
        have hb8 := hb4.trans (hWs.agr.below (B := w7.drew.heap.size) hsz0 (fun i hi => by show w7.heap.size ≤ i; omega))
        have r0 := hWs.new_ 0 _ rfl
        have r1 := hWs.new_ 1 _ rfl
        rw [Nat.add_zero] at r0
        have hF6 := (hF4.keep (w' := ((w4.setCell ⟨bz, 0, none⟩ (.slice A4 4 c4)).setCell ⟨bz, 1, none⟩ (.slice D4 6 d4))) fun b hb hl => hWs.block b (by omega)).fl
        have hD6 := hD4.keep (w' := ((w4.setCell ⟨bz, 0, none⟩ (.slice A4 4 c4)).setCell ⟨bz, 1, none⟩ (.slice D4 6 d4))) fun b hb hl => hWs.block b (by have := hl4 b hb; omega)
        refine hK.out _ _ (⟨(hs.out _ hb8).x0, (hs.out _ hb8).x1⟩) (fun hHb6 => ?_)
        clear hK K
        try simp only [Act.put, List.getElem_toArray, List.getElem_cons_zero, List.getElem_cons_succ, List.setIfInBounds_toArray, List.set_cons_zero, List.set_cons_succ]
        refine wpAnyH_take (i := 11) (v := ?vb13) rfl (by kernel_rfl) (by kernel_rfl) (by kernel_rfl) (fun _ _ _ h => h) (Or.inl ⟨by kernel_rfl, ?yb13⟩) hHb6 ?rb13
        case yb13 => (intro w' hS; (try dsimp only at hS); obtain ⟨s0, s1⟩ := hS; (try go_simp); (try with_reducible rfl))
        try simp only [Act.put, List.getElem_toArray, List.getElem_cons_zero, List.getElem_cons_succ, List.setIfInBounds_toArray, List.set_cons_zero, List.set_cons_succ]
        refine wpAnyH_done (by kernel_rfl) ?_ _
        have hHs := hs.out _ hb8
        have hHt : Held ((w4.setCell ⟨bz, 0, none⟩ (.slice A4 4 c4)).setCell ⟨bz, 1, none⟩ (.slice D4 6 d4)) bz A4 D4 4 c4 6 d4 y := ⟨hF6, hD6, r0, r1, HYF.out.1.1.symm, HYF.out.2.1.symm⟩
        have hB5 := hvd.trans (hb8.mono (by have h := hvd.size; exact h))
        have hX5 := hXx.out _ hb8
        have hT5 := ht.out _ hb8
        obtain ⟨W5, hW5⟩ : ∃ W, ((w4.setCell ⟨bz, 0, none⟩ (.slice A4 4 c4)).setCell ⟨bz, 1, none⟩ (.slice D4 6 d4)) = W := ⟨_, rfl⟩
        rw [hW5] at hHs hHt hB5 hX5 hT5
        (try rw [hW5])
        clear hW5 hb8 hb4 r0 r1 hF6 hD6 hF4 hD4 hl4
        clear hs hXx ht hvd hvb
        replace x0 := hHs.x0
        replace x1 := hHs.x1
        have y0 := hHt.x0
        have y1 := hHt.x1
        replace t0 := hT5.x0
        replace t1 := hT5.x1
        go_wp2_with fail
        refine (impl_StoreOk y A4 D4 _ _ c4 d4 _ hHt.hn hHt.hm hHt.fl hHt.dk).mono ?_
        rintro e w8 ⟨rfl, hb⟩
        have hs8 := hb.size
        have hB8 := hB5.trans (hb.mono hB5.size)
        replace hHs := hHs.below hb (Nat.le_refl _)
        replace x0 := hHs.x0
        replace x1 := hHs.x1
        replace hHt := hHt.below hb (Nat.le_refl _)
        replace y0 := hHt.x0
        replace y1 := hHt.x1
        replace hT5 := hT5.below hb (Nat.le_refl _)
        replace t0 := hT5.x0
        replace t1 := hT5.x1
        replace hX5 := hX5.below hb (Nat.le_refl _)
        clear hb hB5
        by_cases hoy : storeOk y = true
        · have HOY := Lib.hid (storeOk_iff.1 hoy)
          have HTZ : Hid (toR y (xs.drop q) (cut - q) torn = (t, true)) := by rw [Hid, toR_yes (by omega) (storeOk_iff.2 HOY.out) HAD.out, HZ.out]
          have HCC := HCUT.out
          have ec : IntKind.i64.wrap (cut - (q : Int)) = cut - (q : Int) := IntWalk.i64_in _ (by omega)
          rw [hoy]
          clear hoy HCC
          obtain ⟨V2, hV2⟩ : ∃ V2, (if vc = q then V else Option.map (fun x => x.add (q * 8)) V) = V2 := ⟨_, rfl⟩
          have hX8 := hX5.sps_drop hqx hxc hV2
          have hvd : Below w.heap.size w w8.drew := hB8.drew
          have hs := Lib.hid (fun X (h : Below w8.drew.heap.size w8.drew X) => hHt.drew.below h (Nat.le_refl _))
          have ht := Lib.hid (fun X (h : Below w8.drew.heap.size w8.drew X) => hT5.drew.below h (Nat.le_refl _))
          have hvb : Below w8.drew.heap.size w8.drew w8.drew := Below.refl _ _
          have hXx := Lib.hid (fun X (h : Below w8.drew.heap.size w8.drew X) => hX8.drew.below h (Nat.le_refl _))
          clear hHs hHt hT5 hX5 hX8 hB8
          go_wp2
          refine wp_region_held_drew (S := fun X => X.cell? ⟨bz, 0, none⟩ = some (.slice A4 4 c4) ∧ X.cell? ⟨bz, 1, none⟩ = some (.slice D4 6 d4)) (by kernel_rfl) ⟨(hs.out _ hvb).x0, (hs.out _ hvb).x1⟩ (fun hHeld0 => ?_)
          refine wpAnyH_take (i := 0) (v := ?vbyz1) rfl (by kernel_rfl) (by kernel_rfl) (by kernel_rfl) (fun _ _ _ h => h) (Or.inl ⟨by kernel_rfl, ?ybyz1⟩) hHeld0 ?rbyz1
          case ybyz1 => (intro w' hS; (try dsimp only at hS); obtain ⟨s0, s1⟩ := hS; (try go_simp); (try with_reducible rfl))
          try simp only [Act.put, List.getElem_toArray, List.getElem_cons_zero, List.getElem_cons_succ, List.setIfInBounds_toArray, List.set_cons_zero, List.set_cons_succ]
          refine wpAnyH_take (i := 1) (v := ?vbyz2) rfl (by kernel_rfl) (by kernel_rfl) (by kernel_rfl) (fun _ _ _ h => h) (Or.inl ⟨by kernel_rfl, ?ybyz2⟩) hHeld0 ?rbyz2
          case ybyz2 => (intro w' hS; (try dsimp only at hS); obtain ⟨s0, s1⟩ := hS; (try go_simp); (try with_reducible rfl))
          try simp only [Act.put, List.getElem_toArray, List.getElem_cons_zero, List.getElem_cons_succ, List.setIfInBounds_toArray, List.set_cons_zero, List.set_cons_succ]
          refine wpAnyH_take (i := 2) (v := ?vbyz3) rfl (by kernel_rfl) (by kernel_rfl) (by kernel_rfl) (fun _ _ _ h => h) (Or.inl ⟨by kernel_rfl, ?ybyz3⟩) hHeld0 ?rbyz3
          case ybyz3 => (intro w' hS; (try dsimp only at hS); obtain ⟨s0, s1⟩ := hS; (try go_simp); (try with_reducible rfl))
          try simp only [Act.put, List.getElem_toArray, List.getElem_cons_zero, List.getElem_cons_succ, List.setIfInBounds_toArray, List.set_cons_zero, List.set_cons_succ]
          refine wpAnyH_take (i := 3) (v := ?vbyz4) rfl (by kernel_rfl) (by kernel_rfl) (by kernel_rfl) (fun _ _ _ h => h) (Or.inl ⟨by kernel_rfl, ?ybyz4⟩) hHeld0 ?rbyz4
          case ybyz4 => (intro w' hS; (try dsimp only at hS); obtain ⟨s0, s1⟩ := hS; (try go_simp); (try with_reducible rfl))
          try simp only [Act.put, List.getElem_toArray, List.getElem_cons_zero, List.getElem_cons_succ, List.setIfInBounds_toArray, List.set_cons_zero, List.set_cons_succ]
          refine wpAnyH_take (i := 4) (v := ?vbyz5) rfl (by kernel_rfl) (by kernel_rfl) (by kernel_rfl) (fun _ _ _ h => h) (Or.inl ⟨by kernel_rfl, ?ybyz5⟩) hHeld0 ?rbyz5
          case ybyz5 => (intro w' hS; (try dsimp only at hS); obtain ⟨s0, s1⟩ := hS; (try go_simp); (try with_reducible rfl))
          try simp only [Act.put, List.getElem_toArray, List.getElem_cons_zero, List.getElem_cons_succ, List.setIfInBounds_toArray, List.set_cons_zero, List.set_cons_succ]
          refine wpAnyH_take (i := 5) (v := ?vbyz6) rfl (by kernel_rfl) (by kernel_rfl) (by kernel_rfl) (fun _ _ _ h => h) (Or.inl ⟨by kernel_rfl, ?ybyz6⟩) hHeld0 ?rbyz6
          case ybyz6 => (intro w' hS; (try dsimp only at hS); obtain ⟨s0, s1⟩ := hS; (try go_simp); (try with_reducible rfl))
          try simp only [Act.put, List.getElem_toArray, List.getElem_cons_zero, List.getElem_cons_succ, List.setIfInBounds_toArray, List.set_cons_zero, List.set_cons_succ]
          refine wpAnyH_take (i := 6) (v := ?vbyz7) rfl (by kernel_rfl) (by kernel_rfl) (by kernel_rfl) (fun _ _ _ h => h) (Or.inl ⟨by kernel_rfl, ?ybyz7⟩) hHeld0 ?rbyz7
          case ybyz7 => (intro w' hS; (try dsimp only at hS); obtain ⟨s0, s1⟩ := hS; (try go_simp); (try with_reducible rfl))
          try simp only [Act.put, List.getElem_toArray, List.getElem_cons_zero, List.getElem_cons_succ, List.setIfInBounds_toArray, List.set_cons_zero, List.set_cons_succ]
          refine wpAnyH_take (i := 7) (v := ?vbyz8) rfl (by kernel_rfl) (by kernel_rfl) (by kernel_rfl) (fun _ _ _ h => h) (Or.inl ⟨by kernel_rfl, ?ybyz8⟩) hHeld0 ?rbyz8
          case ybyz8 => (intro w' hS; (try dsimp only at hS); obtain ⟨s0, s1⟩ := hS; (try go_simp); (try with_reducible rfl))
          try simp only [Act.put, List.getElem_toArray, List.getElem_cons_zero, List.getElem_cons_succ, List.setIfInBounds_toArray, List.set_cons_zero, List.set_cons_succ]
          refine wpAnyH_ready (rs := [8, 12]) (by kernel_rfl) (by simp) ?_
          refine AllReadyH.cons rfl (fun K hK => ?_) (AllReadyH.cons rfl (fun K hK => ?_) AllReadyH.nil)
          · go_simp
            refine (impl_StepsTo_t HTZ.out HTF.out (by rw [List.length_drop]; omega) A4 D4 V2 4 6 c4 d4 (vc - q) (xs.length - q) _ (hs.out _ hvb).hn (hs.out _ hvb).hm (by rw [List.length_drop]) (hs.out _ hvb).fl (hs.out _ hvb).dk (hXx.out _ hvb)).mono ?_
            rintro e w9 ⟨A9, c9, D9, d9, rfl, hF9, hD9, hl9, hc⟩
            have hb4 := hvb.trans (hc.mono hvb.size)
            have hz4 := hc.size
            go_wp2_with fail
            refine hK.out _ _ (⟨(hs.out _ hb4).x0, (hs.out _ hb4).x1⟩) (fun hHbyz1 => ?_)
            clear hK K
            try simp only [Act.put, List.getElem_toArray, List.getElem_cons_zero, List.getElem_cons_succ, List.setIfInBounds_toArray, List.set_cons_zero, List.set_cons_succ]
            refine wpAnyH_take (i := 9) (v := ?vbyz9) rfl (by kernel_rfl) (by kernel_rfl) (by kernel_rfl) (fun _ _ _ h => h) (Or.inl ⟨by kernel_rfl, ?ybyz9⟩) hHbyz1 ?rbyz9
            case ybyz9 => (intro w' hS; (try dsimp only at hS); obtain ⟨s0, s1⟩ := hS; (try go_simp); (try with_reducible rfl))
            try simp only [Act.put, List.getElem_toArray, List.getElem_cons_zero, List.getElem_cons_succ, List.setIfInBounds_toArray, List.set_cons_zero, List.set_cons_succ]
            refine wpAnyH_take (i := 10) (v := ?vbyz10) rfl (by kernel_rfl) (by kernel_rfl) (by kernel_rfl) (fun _ _ _ h => h) (Or.inl ⟨by kernel_rfl, ?ybyz10⟩) hHbyz1 ?rbyz10
            case ybyz10 => (intro w' hS; (try dsimp only at hS); obtain ⟨s0, s1⟩ := hS; (try go_simp); (try with_reducible rfl))
            try simp only [Act.put, List.getElem_toArray, List.getElem_cons_zero, List.getElem_cons_succ, List.setIfInBounds_toArray, List.set_cons_zero, List.set_cons_succ]
            refine wpAnyH_take (i := 11) (v := ?vbyz11) rfl (by kernel_rfl) (by kernel_rfl) (by kernel_rfl) (fun _ _ _ h => h) (Or.inl ⟨by kernel_rfl, ?ybyz11⟩) hHbyz1 ?rbyz11
            case ybyz11 => (intro w' hS; (try dsimp only at hS); obtain ⟨s0, s1⟩ := hS; (try go_simp); (try with_reducible rfl))
            try simp only [Act.put, List.getElem_toArray, List.getElem_cons_zero, List.getElem_cons_succ, List.setIfInBounds_toArray, List.set_cons_zero, List.set_cons_succ]
            refine wpAnyH_ready (rs := [12]) (by kernel_rfl) (by simp) ?_
            refine AllReadyH.cons rfl (fun K hK => ?_) AllReadyH.nil
            go_simp
            obtain ⟨bv, hbz⟩ : ∃ b, w9.heap.size = b := ⟨_, rfl⟩
            have hbz' : w9.heap.size = bv := hbz
            have hq := Row.new w9 #[.slice none 0 0, .slice none 0 0] 26
            have hb3 := hb4.alloc hb4.size (.cells #[.slice none 0 0, .slice none 0 0] 26)
            rw [hbz'] at hq
            (try simp only [hbz])
            obtain ⟨z0, z2⟩ := hq.at0 (j := 0) rfl
            obtain ⟨z1, z3⟩ := hq.at0 (j := 1) rfl
            have hzs : (w9.alloc (.cells #[.slice none 0 0, .slice none 0 0] 26)).heap.size = bv + 1 := by rw [← hbz']; simp
            refine hK.out _ _ (⟨(hs.out _ hb3).x0, (hs.out _ hb3).x1⟩) (fun hHbyz2 => ?_)
            clear hK K
            try simp only [Act.put, List.getElem_toArray, List.getElem_cons_zero, List.getElem_cons_succ, List.setIfInBounds_toArray, List.set_cons_zero, List.set_cons_succ]
            refine wpAnyH_ready (rs := [13]) (by kernel_rfl) (by simp) ?_
            refine AllReadyH.cons rfl (fun K hK => ?_) AllReadyH.nil
            go_simp
            have hb8 := hb4.alloc hb4.size (.cells #[.slice A9 4 c9, .slice D9 6 d9] 26)
            have hq8 := Row.new w9 #[.slice A9 4 c9, .slice D9 6 d9] 26
            rw [hbz] at hq8
            obtain ⟨r0, _⟩ := hq8.at0 (j := 0) rfl
            obtain ⟨r1, _⟩ := hq8.at0 (j := 1) rfl
            have hF6 := hF9.fl.alloc (.cells #[.slice A9 4 c9, .slice D9 6 d9] 26)
            have hD6 := hD9.alloc (.cells #[.slice A9 4 c9, .slice D9 6 d9] 26)
            refine hK.out _ _ (⟨(hs.out _ hb8).x0, (hs.out _ hb8).x1⟩) (fun hHbyz3 => ?_)
            clear hK K
            try simp only [Act.put, List.getElem_toArray, List.getElem_cons_zero, List.getElem_cons_succ, List.setIfInBounds_toArray, List.set_cons_zero, List.set_cons_succ]
            refine wpAnyH_take (i := 14) (v := ?vbyz12) rfl (by kernel_rfl) (by kernel_rfl) (by kernel_rfl) (fun _ _ _ h => h) (Or.inl ⟨by kernel_rfl, ?ybyz12⟩) hHbyz3 ?rbyz12
            case ybyz12 => (intro w' hS; (try dsimp only at hS); obtain ⟨s0, s1⟩ := hS; (try go_simp); (try with_reducible rfl))
            try simp only [Act.put, List.getElem_toArray, List.getElem_cons_zero, List.getElem_cons_succ, List.setIfInBounds_toArray, List.set_cons_zero, List.set_cons_succ]
            refine wpAnyH_done (by kernel_rfl) ?_ _
            have hHs := hs.out _ hb8
            have hHz : Held (w9.alloc (.cells #[.slice A9 4 c9, .slice D9 6 d9] 26)) bv A9 D9 4 c9 6 d9 t := ⟨hF6, hD6, r0, r1, HTF.out.1.1.symm, HTF.out.2.1.symm⟩
            have hB6 := hvd.trans (hb8.mono (by have h := hvd.size; exact h))
            have hT6 := ht.out _ hb8
            obtain ⟨W6, hW5⟩ : ∃ W, (w9.alloc (.cells #[.slice A9 4 c9, .slice D9 6 d9] 26)) = W := ⟨_, rfl⟩
            rw [hW5] at hHs hHz hB6 hT6
            (try rw [hW5])
            clear hW5 hb8 hb4 r0 r1 hF6 hD6 hF9 hD9 hl9
            replace t0 := hT6.x0
            replace t1 := hT6.x1
            have z0 := hHz.x0
            have z1 := hHz.x1
            go_wp2_with fail
            refine (laws_lqStore_fine HTF.out A9 D9 A3 D3 c9 d9 c3 d3 _ hHz.fl hHz.dk hT6.fl hT6.dk).mono ?_
            rintro e wf ⟨rfl, hb⟩
            have hBf := hB6.trans (hb.mono hB6.size)
            go_wp2
            go_ret
            exact ⟨rfl, hBf⟩
          · go_simp
            obtain ⟨bv, hbz⟩ : ∃ b, w8.heap.size = b := ⟨_, rfl⟩
            have hbz' : w8.drew.heap.size = bv := hbz
            have hq := Row.new w8.drew #[.slice none 0 0, .slice none 0 0] 26
            have hb3 := hvb.alloc hvb.size (.cells #[.slice none 0 0, .slice none 0 0] 26)
            rw [hbz'] at hq
            (try simp only [hbz])
            obtain ⟨z0, z2⟩ := hq.at0 (j := 0) rfl
            obtain ⟨z1, z3⟩ := hq.at0 (j := 1) rfl
            have hzs : (w8.drew.alloc (.cells #[.slice none 0 0, .slice none 0 0] 26)).heap.size = bv + 1 := by rw [← hbz']; simp
            have hzs2 : (w8.alloc (.cells #[.slice none 0 0, .slice none 0 0] 26)).drew.heap.size = bv + 1 := hzs
            refine hK.out _ _ (⟨(hs.out _ hb3).x0, (hs.out _ hb3).x1⟩) (fun hHbyz4 => ?_)
            clear hK K
            try simp only [Act.put, List.getElem_toArray, List.getElem_cons_zero, List.getElem_cons_succ, List.setIfInBounds_toArray, List.set_cons_zero, List.set_cons_succ]
            refine wpAnyH_ready (rs := [8]) (by kernel_rfl) (by simp) ?_
            refine AllReadyH.cons rfl (fun K hK => ?_) AllReadyH.nil
            go_simp
            refine (impl_StepsTo_t HTZ.out HTF.out (by rw [List.length_drop]; omega) A4 D4 V2 4 6 c4 d4 (vc - q) (xs.length - q) _ (hs.out _ hb3).hn (hs.out _ hb3).hm (by rw [List.length_drop]) (hs.out _ hb3).fl (hs.out _ hb3).dk (hXx.out _ hb3)).mono ?_
            rintro e w9 ⟨A9, c9, D9, d9, rfl, hF9, hD9, hl9, hc⟩
            have hb4 := hb3.trans (hc.mono hb3.size)
            have hz4 := hc.size
            have y0 := (hc.cell (p := ⟨bv, 0, none⟩) (by show bv < _; omega)).trans z0
            have y1 := (hc.cell (p := ⟨bv, 1, none⟩) (by show bv < _; omega)).trans z1
            have y2 := (hc.frozen (p := ⟨bv, 0, none⟩) (by show bv < _; omega)).trans z2
            have y3 := (hc.frozen (p := ⟨bv, 1, none⟩) (by show bv < _; omega)).trans z3
            go_wp2_with fail
            refine hK.out _ _ (⟨(hs.out _ hb4).x0, (hs.out _ hb4).x1⟩) (fun hHbyz5 => ?_)
            clear hK K
            try simp only [Act.put, List.getElem_toArray, List.getElem_cons_zero, List.getElem_cons_succ, List.setIfInBounds_toArray, List.set_cons_zero, List.set_cons_succ]
            refine wpAnyH_take (i := 9) (v := ?vbyz13) rfl (by kernel_rfl) (by kernel_rfl) (by kernel_rfl) (fun _ _ _ h => h) (Or.inl ⟨by kernel_rfl, ?ybyz13⟩) hHbyz5 ?rbyz13
            case ybyz13 => (intro w' hS; (try dsimp only at hS); obtain ⟨s0, s1⟩ := hS; (try go_simp); (try with_reducible rfl))
            try simp only [Act.put, List.getElem_toArray, List.getElem_cons_zero, List.getElem_cons_succ, List.setIfInBounds_toArray, List.set_cons_zero, List.set_cons_succ]
            refine wpAnyH_take (i := 10) (v := ?vbyz14) rfl (by kernel_rfl) (by kernel_rfl) (by kernel_rfl) (fun _ _ _ h => h) (Or.inl ⟨by kernel_rfl, ?ybyz14⟩) hHbyz5 ?rbyz14
            case ybyz14 => (intro w' hS; (try dsimp only at hS); obtain ⟨s0, s1⟩ := hS; (try go_simp); (try with_reducible rfl))
            try simp only [Act.put, List.getElem_toArray, List.getElem_cons_zero, List.getElem_cons_succ, List.setIfInBounds_toArray, List.set_cons_zero, List.set_cons_succ]
            refine wpAnyH_take (i := 11) (v := ?vbyz15) rfl (by kernel_rfl) (by kernel_rfl) (by kernel_rfl) (fun _ _ _ h => h) (Or.inl ⟨by kernel_rfl, ?ybyz15⟩) hHbyz5 ?rbyz15
            case ybyz15 => (intro w' hS; (try dsimp only at hS); obtain ⟨s0, s1⟩ := hS; (try go_simp); (try with_reducible rfl))
            try simp only [Act.put, List.getElem_toArray, List.getElem_cons_zero, List.getElem_cons_succ, List.setIfInBounds_toArray, List.set_cons_zero, List.set_cons_succ]
            refine wpAnyH_ready (rs := [13]) (by kernel_rfl) (by simp) ?_
            refine AllReadyH.cons rfl (fun K hK => ?_) AllReadyH.nil
            go_simp
            have hWs := laid_cells y0 y1 (.slice A9 4 c9) (.slice D9 6 d9)
            have hsz0 := hb4.size
            have hb8 := hb4.trans (hWs.agr.below (B := w8.drew.heap.size) hsz0 (fun i hi => by show w8.heap.size ≤ i; omega))
            have r0 := hWs.new_ 0 _ rfl
            have r1 := hWs.new_ 1 _ rfl
            rw [Nat.add_zero] at r0
            have hF6 := (hF9.keep (w' := ((w9.setCell ⟨bv, 0, none⟩ (.slice A9 4 c9)).setCell ⟨bv, 1, none⟩ (.slice D9 6 d9))) fun b hb hl => hWs.block b (by omega)).fl
            have hD6 := hD9.keep (w' := ((w9.setCell ⟨bv, 0, none⟩ (.slice A9 4 c9)).setCell ⟨bv, 1, none⟩ (.slice D9 6 d9))) fun b hb hl => hWs.block b (by have := hl9 b hb; omega)
            refine hK.out _ _ (⟨(hs.out _ hb8).x0, (hs.out _ hb8).x1⟩) (fun hHbyz6 => ?_)
            clear hK K
            try simp only [Act.put, List.getElem_toArray, List.getElem_cons_zero, List.getElem_cons_succ, List.setIfInBounds_toArray, List.set_cons_zero, List.set_cons_succ]
            refine wpAnyH_take (i := 14) (v := ?vbyz16) rfl (by kernel_rfl) (by kernel_rfl) (by kernel_rfl) (fun _ _ _ h => h) (Or.inl ⟨by kernel_rfl, ?ybyz16⟩) hHbyz6 ?rbyz16
            case ybyz16 => (intro w' hS; (try dsimp only at hS); obtain ⟨s0, s1⟩ := hS; (try go_simp); (try with_reducible rfl))
            try simp only [Act.put, List.getElem_toArray, List.getElem_cons_zero, List.getElem_cons_succ, List.setIfInBounds_toArray, List.set_cons_zero, List.set_cons_succ]
            refine wpAnyH_done (by kernel_rfl) ?_ _
            have hHs := hs.out _ hb8
            have hHz : Held ((w9.setCell ⟨bv, 0, none⟩ (.slice A9 4 c9)).setCell ⟨bv, 1, none⟩ (.slice D9 6 d9)) bv A9 D9 4 c9 6 d9 t := ⟨hF6, hD6, r0, r1, HTF.out.1.1.symm, HTF.out.2.1.symm⟩
            have hB6 := hvd.trans (hb8.mono (by have h := hvd.size; exact h))
            have hT6 := ht.out _ hb8
            obtain ⟨W6, hW5⟩ : ∃ W, ((w9.setCell ⟨bv, 0, none⟩ (.slice A9 4 c9)).setCell ⟨bv, 1, none⟩ (.slice D9 6 d9)) = W := ⟨_, rfl⟩
            rw [hW5] at hHs hHz hB6 hT6
            (try rw [hW5])
            clear hW5 hb8 hb4 r0 r1 hF6 hD6 hF9 hD9 hl9
            replace t0 := hT6.x0
            replace t1 := hT6.x1
            have z0 := hHz.x0
            have z1 := hHz.x1
            go_wp2_with fail
            refine (laws_lqStore_fine HTF.out A9 D9 A3 D3 c9 d9 c3 d3 _ hHz.fl hHz.dk hT6.fl hT6.dk).mono ?_
            rintro e wf ⟨rfl, hb⟩
            have hBf := hB6.trans (hb.mono hB6.size)
            go_wp2
            go_ret
            exact ⟨rfl, hBf⟩
        · rw [show storeOk y = false from by simpa using hoy]
          clear hoy
          go_wp2
          go_ret
          exact ⟨rfl, hB8⟩
  · have HTN := Lib.hid (toR_false hok)
    clear hok
    go_wp2_with fail
    refine (spec_StepsTo_f HTN.out (by omega) (small_fl HSM.out) A1 D1 V _ _ c1 d1 vc _ _ hHbx.hn hHbx.hm rfl hHbx.fl hHbx.dk hX (fun b hb => by have := HVB.out b hb; omega)).mono ?_
    rintro e w2 ⟨A2, c2, D2, d2, rfl, hb⟩
    have hs2 := hb.size
    have hB2 := hBW1.trans (hb.mono hBW1.size)
    replace hHbx := hHbx.below hb (Nat.le_refl _)
    replace x0 := hHbx.x0
    replace x1 := hHbx.x1
    replace hX := hX.below hb (Nat.le_refl _)
    clear hb hBW1
    have hHbw := Held.no w2 A2 D2 c2 d2
    replace hHbx := hHbx.below ((Below.refl w2.heap.size w2).alloc (Nat.le_refl _) (.cells #[.slice A2 0 c2, .slice D2 0 d2] 26)) (Nat.le_refl _)
    replace hX := hX.below ((Below.refl w2.heap.size w2).alloc (Nat.le_refl _) (.cells #[.slice A2 0 c2, .slice D2 0 d2] 26)) (Nat.le_refl _)
    have hBW2 := hB2.alloc hB2.size (.cells #[.slice A2 0 c2, .slice D2 0 d2] 26)
    have hzW2 : (w2.alloc (.cells #[.slice A2 0 c2, .slice D2 0 d2] 26)).heap.size = w2.heap.size + 1 := by simp
    obtain ⟨W2, hEW2⟩ : ∃ W, w2.alloc (.cells #[.slice A2 0 c2, .slice D2 0 d2] 26) = W := ⟨_, rfl⟩
    obtain ⟨bw, hEbw⟩ : ∃ b, w2.heap.size = b := ⟨_, rfl⟩
    rw [hEW2] at hHbw hBW2 hzW2 hHbx hX
    rw [hEbw] at hHbw hzW2
    have m0 := hHbw.x0
    have m1 := hHbw.x1
    replace x0 := hHbx.x0
    replace x1 := hHbx.x1
    clear hB2
    go_wp2_with fail
    refine (impl_StepsTo_f HTN.out (by omega) A1 D1 V _ _ c1 d1 vc _ _ hHbx.hn hHbx.hm rfl hHbx.fl hHbx.dk hX).mono ?_
    rintro e w3 ⟨A3, c3, D3, d3, rfl, hb⟩
    have hs3 := hb.size
    have hB3 := hBW2.trans (hb.mono hBW2.size)
    replace hHbx := hHbx.below hb (Nat.le_refl _)
    replace x0 := hHbx.x0
    replace x1 := hHbx.x1
    replace hHbw := hHbw.below hb (Nat.le_refl _)
    replace m0 := hHbw.x0
    replace m1 := hHbw.x1
    replace hX := hX.below hb (Nat.le_refl _)
    clear hb hBW2
    have hHbt := Held.no w3 A3 D3 c3 d3
    replace hHbx := hHbx.below ((Below.refl w3.heap.size w3).alloc (Nat.le_refl _) (.cells #[.slice A3 0 c3, .slice D3 0 d3] 26)) (Nat.le_refl _)
    replace hHbw := hHbw.below ((Below.refl w3.heap.size w3).alloc (Nat.le_refl _) (.cells #[.slice A3 0 c3, .slice D3 0 d3] 26)) (Nat.le_refl _)
    replace hX := hX.below ((Below.refl w3.heap.size w3).alloc (Nat.le_refl _) (.cells #[.slice A3 0 c3, .slice D3 0 d3] 26)) (Nat.le_refl _)
    have hBW3 := hB3.alloc hB3.size (.cells #[.slice A3 0 c3, .slice D3 0 d3] 26)
    have hzW3 : (w3.alloc (.cells #[.slice A3 0 c3, .slice D3 0 d3] 26)).heap.size = w3.heap.size + 1 := by simp
    obtain ⟨W3, hEW3⟩ : ∃ W, w3.alloc (.cells #[.slice A3 0 c3, .slice D3 0 d3] 26) = W := ⟨_, rfl⟩
    obtain ⟨bt, hEbt⟩ : ∃ b, w3.heap.size = b := ⟨_, rfl⟩
    rw [hEW3] at hHbt hBW3 hzW3 hHbx hHbw hX
    rw [hEbt] at hHbt hzW3
    have t0 := hHbt.x0
    have t1 := hHbt.x1
    replace x0 := hHbx.x0
    replace x1 := hHbx.x1
    replace m0 := hHbw.x0
    replace m1 := hHbw.x1
    clear hB3
    go_wp2_with fail
    refine (laws_lqStore_no A3 D3 A2 D2 c3 d3 c2 d2 _).mono ?_
    rintro e w4 ⟨rfl, hb⟩
    have hs4 := hb.size
    have hB4 := hBW3.trans (hb.mono hBW3.size)
    replace hHbx := hHbx.below hb (Nat.le_refl _)
    replace x0 := hHbx.x0
    replace x1 := hHbx.x1
    replace hHbw := hHbw.below hb (Nat.le_refl _)
    replace m0 := hHbw.x0
    replace m1 := hHbw.x1
    replace hHbt := hHbt.below hb (Nat.le_refl _)
    replace t0 := hHbt.x0
    replace t1 := hHbt.x1
    clear hb hBW3
    go_wp2_with fail
    refine (laws_lqStore_no A3 D3 A2 D2 c3 d3 c2 d2 _).mono ?_
    rintro e w5 ⟨rfl, hb⟩
    have hs5 := hb.size
    have hB5 := hB4.trans (hb.mono hB4.size)
    clear hb hB4
    go_wp2
    go_ret
    exact ⟨rfl, hB5⟩
end Go.Proofs.Ytbekihiiildgmaa
