/- Walks: FnWornMax. -/
import Derived.Test.YtlchlhjjoddocaaQ6
import Derived.Test.YtlchlhjjoddocaaH3
import Derived.Test.YtlchlhjjoddocaaH4
namespace Go.Proofs.Ytlchlhjjoddocaa
set_option linter.unusedVariables false
set_option linter.unusedSimpArgs false
open Go.RowKit Go.Maps
set_option maxHeartbeats 400000
theorem hdrs_one : ∀ (f : List Bk) (hs : List (Option Addr × Nat)), ∀ v ∈ hdrs f hs, v.oneCell' = true
  | [], _ => by simp [hdrs]
  | _ :: _, [] => by simp [hdrs]
  | b :: f, x :: hs => by
    intro v hv
    simp only [hdrs, List.mem_cons] at hv
    rcases hv with rfl | rfl | hv
    · rfl
    · rfl
    · exact hdrs_one f hs v hv
theorem Apt.other {lo hi hi' g2 : Nat} {A : Option Addr} {hs : List (Option Addr × Nat)} (h : Apt lo hi A hs) (h1 : hi ≤ g2) (h2 : g2 < hi') (h3 : lo ≤ g2) : Apt lo hi' (some ⟨g2, 0, none⟩) hs :=
  ⟨fun b hb => by rw [blk_some] at hb; omega, fun i x b hx hb => by
    have := h.in_ i x b hx hb
    exact ⟨this.1, by omega, fun e => by rw [blk_some] at e; omega⟩, h.two⟩
theorem worn_ok {f : List Bk} (h : flashOk f = true) {i : Nat} {b : Bk} (hb : f[i]? = some b) : flashOk (f.set i { b with worn := 200 }) = true := by
  rw [flashOk_iff] at h ⊢
  obtain ⟨h1, h2, h3⟩ := h
  refine ⟨by simpa using h1, fun x hx => ?_, ?_⟩
  · rcases mem_set hx with hx | rfl
    · exact h2 x hx
    · obtain ⟨a, c⟩ := h2 b (List.mem_of_getElem? hb)
      refine ⟨?_, c⟩
      unfold blockShape at a ⊢
      simp at a ⊢
      exact ⟨a.1, a.2.2.2⟩
  · have : seqsF (f.set i { b with worn := 200 }) = seqsF f := by
      have hl := (List.getElem?_eq_some_iff.1 hb)
      clear h1 h2 h3
      induction f generalizing i with
      | nil => rfl
      | cons c f ih =>
        cases i with
        | zero => simp at hb; subst hb; simp [seqsF]
        | succ i =>
          have hb' : f[i]? = some b := by simpa using hb
          have := ih hb' (List.getElem?_eq_some_iff.1 hb')
          simp only [List.set_cons_succ, seqsF, List.flatMap_cons] at this ⊢
          rw [this]
    rw [this]; exact h3
theorem worn_seqIn {f : List Bk} {i : Nat} {b : Bk} (hb : f[i]? = some b) (n s : Int) : seqIn (f.set i { b with worn := n }) s = seqIn f s := by
  induction f generalizing i with
  | nil => rfl
  | cons c f ih =>
    cases i with
    | zero => simp at hb; subst hb; simp [seqIn]
    | succ i =>
      have := ih (i := i) (by simpa using hb)
      unfold seqIn at this ⊢
      rw [List.set_cons_succ, List.any_cons, List.any_cons, this]
def rcMax : Rc := ⟨1, 600, 1, 0⟩
theorem rcMax_ok : recOk rcMax = true := by decide
theorem flashWrite_eq {f : List Bk} {i : Nat} {b : Bk} (h : flashOk f = true) (hi : i < 4) (hb : f[i]? = some b) : flashWrite f i rcMax false = if clean b = 0 ∨ seqIn f 600 = true then (f, false) else (f.set i { b with pages := b.pages.set (4 - clean b) ⟨1, rcMax⟩ }, true) := by
  have hbo : blockB (i : Int) = true := by unfold blockB; simp; omega
  unfold flashWrite writeR
  rw [if_neg (by rw [h, hbo, rcMax_ok]; simp), Int.toNat_natCast, getD_of hb]
  rfl
/-- headers appended to a row that has none yet: the same flash, its headers elsewhere -/
theorem copied {w3 w5 : World} {g o g2 c2 n hi : Nat} {f : List Bk} {hs : List (Option Addr × Nat)} (hBk : Bks w3 (some ⟨g, o, none⟩) f hs)
    (hown : w5.ownsRow w3.heap.size 36 2 (.slice (some ⟨g2, 0, none⟩) n c2) n ([] ++ hdrs f hs)) (hgrow : (w3.alloc (.cells #[] 36)).grownBy w5 (Value.ownBlock (.slice (some ⟨w3.heap.size, 0, none⟩) 0 0))) :
    Bks w5 (some ⟨g2, 0, none⟩) f hs ∧ Bks w5 (some ⟨g, o, none⟩) f hs ∧ Below w3.heap.size w3 w5 ∧ w3.heap.size ≤ g2 ∧ g2 < w5.heap.size ∧
      ∀ (k : Nat) (b : Bk), f[k]? = some b → ∃ y, hs[k]? = some y ∧ w5.cell? ⟨g2, k * 2, none⟩ = some (.slice y.1 b.pages.length y.2) ∧ w5.cell? ⟨g2, k * 2 + 1, none⟩ = some (.int .i64 b.worn) ∧ w5.frozen? ⟨g2, k * 2, none⟩ = false ∧ w5.frozen? ⟨g2, k * 2 + 1, none⟩ = false := by
  have hb : Below w3.heap.size w3 w5 := ((Below.refl _ _).alloc (Nat.le_refl _) _).grown hgrow (by simp) (by intro q e; cases e; exact Nat.le_refl _)
  have hlt := World.ownsRow.lt hown g2 rfl
  have hBk2 := hBk.below hb (Nat.le_refl _)
  have hRow : Row w5 (some ⟨g2, 0, none⟩) (hdrs f hs) := Row.of_own hown
  have hX : Bks w5 (some ⟨g2, 0, none⟩) f hs := ⟨hBk.len, hRow, hBk2.pg⟩
  refine ⟨hX, hBk2, hb, hlt.1, hlt.2, fun k b hk => ?_⟩
  obtain ⟨y, hy, c0, c1, f0, f1, _⟩ := hX.at_ hk
  rw [Nat.zero_add] at c0 c1 f0 f1
  exact ⟨y, hy, c0, c1, f0, f1⟩
theorem hdr_of {w : World} {lo hi k : Nat} {A : Option Addr} {F : List Bk} {B : Bk} (hO : OFl w lo hi A F) (h : F[k]? = some B) (h4 : B.pages.length = 4) :
    ∃ xb xo zb zo cz, A = some ⟨xb, xo, none⟩ ∧ w.cell? ⟨xb, xo + k * 2, none⟩ = some (.slice (some ⟨zb, zo, none⟩) 4 cz) ∧ Row w (some ⟨zb, zo, none⟩) (pgs B.pages) := by
  obtain ⟨ks, hBk, _⟩ := hO
  obtain ⟨xb, xo, rfl⟩ := hBk.addr (by intro e; rw [e] at h; simp at h)
  obtain ⟨⟨Z, cz⟩, _, c0, _, _, _, hRow, _⟩ := hBk.at_ h
  dsimp only at c0 hRow
  rw [h4] at c0
  obtain ⟨zb, zo, rfl⟩ := hRow.addr (pgs_ne (by intro e; rw [e] at h4; simp at h4))
  exact ⟨xb, xo, zb, zo, cz, rfl, c0, hRow⟩
set_option maxHeartbeats 4000000 in
set_option maxRecDepth 100000 in
theorem law_FnWornMax {w : World} (A : Option Addr) (bs : List Nat) (c : Nat) (hc : Code w A bs c) (A' : Option Addr) (bs' : List Nat) (c' : Nat) (hc' : Code w A' bs' c') :
    Calls Try.prog 7 #[.slice A bs.length c, .slice A' bs'.length c'] w fun e w' => e = .returned (.bool true) ∧ Below w.heap.size w w' := by
  obtain ⟨ib, hib, hbz0, hbz1, hbz2⟩ := info_parts Try.info3_block
  by_cases hlen : (1048576 : Int) < bs.length
  · go_enter Try.func7, Try.ntmps7
    go_wp2
    go_ret
    exact ⟨rfl, Below.refl _ _⟩
  by_cases hlen' : (1048576 : Int) < bs'.length
  · go_enter Try.func7, Try.ntmps7
    go_wp2
    go_ret
    exact ⟨rfl, Below.refl _ _⟩
  go_enter Try.func7, Try.ntmps7
  go_wp2_with fail
  refine (spec_DrawFlashOk A bs c _ hc).mono ?_
  rintro e w1 ⟨g, o, d, f, rfl, hf, ⟨hs, hBk1, hApt⟩, hb1⟩
  have hs1 := hb1.size
  have hF := Lib.hid hf
  have hB1 := hb1
  clear hf hb1
  go_wp2_with fail
  refine (impl_FlashOk f _ d _ ⟨hs, hBk1⟩).mono ?_
  rintro e w2 ⟨rfl, hb⟩
  have hs2 := hb.size
  have hBk2 := hBk1.below hb (Nat.le_refl _)
  have hB2 := hB1.trans (hb.mono (by omega))
  clear hBk1 hb hB1
  go_wp2_with fail
  refine (spec_FlashOk f _ d _ (small_len hF.out) ⟨hs, hBk2⟩).mono ?_
  rintro e w3 ⟨rfl, hb⟩
  have hs3 := hb.size
  have hBk3 := hBk2.below hb (Nat.le_refl _)
  have hB3 := hB2.trans (hb.mono (by omega))
  clear hBk2 hb hB2
  by_cases hok : flashOk f = true
  · rw [hok]
    have hfl := flashOk_len hok
    have hk4 : bs'.length % 4 < 4 := Nat.mod_lt _ (by omega)
    have hmod : ((bs'.length : Int).tmod 4) = ((bs'.length % 4 : Nat) : Int) := by rw [Int.tmod_eq_emod_of_nonneg (by omega)]; rfl
    have hmod2 : ((bs'.length : Int) % 4) = ((bs'.length % 4 : Nat) : Int) := rfl
    generalize bs'.length % 4 = k at *
    obtain ⟨b, hb⟩ := get_some (l := f) (k := k) (by omega)
    have hb4 := (flashOk_shape hok b (List.mem_of_getElem? hb)).1
    have hXo := worn_ok hok hb
    have hXb : (f.set k { b with worn := 200 })[k]? = some { b with worn := 200 } := by rw [List.getElem?_set_self (by omega)]
    have hW1 := flashWrite_eq hok hk4 hb
    have hW2 := flashWrite_eq hXo hk4 hXb
    rw [worn_seqIn hb, show clean { b with worn := 200 } = clean b from rfl] at hW2
    dsimp only at hW2
    have hWi := flashWipe_eq hXo hk4 false
    rw [getD_of hXb, if_pos rfl] at hWi
    have H1 := Lib.hid hW1
    have H2 := Lib.hid hW2
    have H3 := Lib.hid hWi
    have HB := Lib.hid hb
    have HB4 := Lib.hid hb4
    have HFL := Lib.hid hfl
    have HXO := Lib.hid hXo
    have HMOD := Lib.hid hmod
    clear hW1 hW2 hWi hXb hXo hb hb4 hok
    have hlit := World.ownsRow_lit w3 (e := 36) (size := 2) #[] 0 (base := w3.heap.size) (Nat.le_refl _) (by unfold maxLen; omega) rfl
    have hBk4 := hBk3.alloc (.cells #[] 36)
    have hnews : ∀ j u, (hdrs f hs)[j]? = some u → (w3.alloc (.cells #[] 36)).cell? ((⟨g, o, none⟩ : Addr).add j) = some u := hBk4.row.news
    have hfp : 0 < f.length := by omega
    have hfm : 0 + f.length ≤ maxLen := by unfold maxLen; omega
    have hfb : (0 + f.length) * 32 ≤ 140737488355328 := by omega
    have hkl : (k : Int) < f.length := by omega
    have hXl : (f.set k { b with worn := 200 }).length = f.length := by simp
    have HXL := Lib.hid hXl
    have hk4' : (k : Int) < 4 := by omega
    have hsX := Lib.hid (flSmall_set hF.out (b := { b with worn := 200 }) (by
      have hb0 := hF.out.2.2 b (List.mem_of_getElem? HB.out)
      exact ⟨hb0.1, ⟨by show (-1 : Int) ≤ 200; decide, by show (200 : Int) ≤ 1000; decide⟩, hb0.2.2⟩) k)
    clear hfl hXl
    go_wp2_with (at_builtin; refine wpList_append_lies _ rfl (.tmp 42) (.tmp 43) _ rfl w3.heap.size 36 ib _ 2 32 Try.underlying23 hib hbz0 hbz1 hbz2 rfl (by omega) (.slice (some ⟨w3.heap.size, 0, none⟩) 0 0) 0 [] rfl hlit ⟨g, o, none⟩ f.length d (hdrs f hs) rfl (hdrs_len f hs hBk4.len) hnews (hdrs_one f hs) hfp hfm hfb (by simp) (w3.heap.size + 1) (by simp) ?_; intro g2 c2 w5 hown2 hgrow2 hat2 hlt2; obtain ⟨hBkx, hBk5, hB35, hg2, hg2', hcell⟩ := copied (hi := 0) hBk3 hown2 hgrow2; obtain ⟨y, hy, x0, x1, x2, x3⟩ := hcell k b HB.out; clear hown2 hgrow2 hat2 hlt2 hcell)
    have hW := (wrote_one x1 (.int .i64 200)).less x0
    have hAx : Apt w.heap.size w5.heap.size (some ⟨g2, 0, none⟩) hs := hApt.other (by omega) hg2' (by omega)
    have hBk6x : Bks (w5.setCell ⟨g2, k * 2 + 1, none⟩ (.int .i64 200)) (some ⟨g2, 0, none⟩) (f.set k { b with worn := 200 }) hs := hBkx.setHdr (n := 200) hAx HB.out hy (by rw [Nat.zero_add]; exact hW)
    have hBk6 : Bks (w5.setCell ⟨g2, k * 2 + 1, none⟩ (.int .i64 200)) (some ⟨g, o, none⟩) f hs := hBk5.keep fun q hq hl => hW.block q (by
      intro e
      subst e
      rcases hq with hq | ⟨x, hx, hq⟩
      · have := hApt.top _ hq; omega
      · obtain ⟨i, hi'⟩ := List.getElem?_of_mem hx
        have := hApt.in_ i x _ hi' hq; omega)
    have hB6 : Below w.heap.size w (w5.setCell ⟨g2, k * 2 + 1, none⟩ (.int .i64 200)) := (hB3.trans (hB35.mono (by omega))).trans (hW.agr.below (by have := hB35.size; omega) (fun q e => by omega))
    have hs6 : w3.heap.size ≤ (w5.setCell ⟨g2, k * 2 + 1, none⟩ (.int .i64 200)).heap.size := by have := hB35.size; rw [hW.size]; exact this
    clear hW x0 x1 x2 x3 hBkx hBk5 hBk4 hBk3 hB35 hB3 hnews hlit
    generalize w5.setCell ⟨g2, k * 2 + 1, none⟩ (.int .i64 200) = w6 at *
    have hcall := impl_FlashWipe (f.set k { b with worn := 200 }) k false _ c2 _ ⟨hs, hBk6x⟩
    rw [HXL.out] at hcall
    refine hcall.mono ?_
    clear hcall
    rw [H3.out]
    rintro e w7 ⟨A7, c7, rfl, _, hO7, hb⟩
    have hs7 := hb.size
    have hBk7x := hBk6x.below hb (Nat.le_refl _)
    have hBk7 := hBk6.below hb (Nat.le_refl _)
    have hB7 := hB6.trans (hb.mono (by omega))
    clear hb hO7 hBk6x hBk6 hB6
    by_cases hz : clean b = 0 ∨ seqIn f 600 = true
    · have hh1 := H1.out
      have hh2 := H2.out
      rw [if_pos hz] at hh1
      rw [if_pos hz] at hh2
      have J1 := Lib.hid hh1
      have J2 := Lib.hid hh2
      clear hh1 hh2 H1 H2 hz
      go_wp2_with fail
      refine (impl_FlashWrite (f.set k { b with worn := 200 }) k rcMax false _ f.length c2 _ HXL.out.symm ⟨hs, hBk7x⟩).mono ?_
      rw [J2.out]
      rintro e w8 ⟨A8, c8, rfl, _, hO8, hb⟩
      have hs8 := hb.size
      have hBk8x := hBk7x.below hb (Nat.le_refl _)
      have hBk8 := hBk7.below hb (Nat.le_refl _)
      have hB8 := hB7.trans (hb.mono (by omega))
      clear hb hBk7x hBk7 hB7
      go_wp2_with fail
      refine (impl_FlashWrite f k rcMax false _ f.length d _ rfl ⟨hs, hBk8⟩).mono ?_
      rw [J1.out]
      rintro e w9 ⟨A9, c9, rfl, _, hO9, hb⟩
      have hs9 := hb.size
      have hFx : Fl w9.drew (some ⟨g2, 0, none⟩) (f.set k { b with worn := 200 }) := Fl.drew' ⟨hs, hBk8x.below hb (Nat.le_refl _)⟩
      have hB9 := hB8.trans (hb.mono (by omega))
      clear hb hBk8x hBk8 hB8
      have hcall := impl_FlashOk (f.set k { b with worn := 200 }) (some ⟨g2, 0, none⟩) c2 _ hFx
      rw [HXL.out] at hcall
      have HC := Lib.hid hcall
      clear hcall
      go_wp2
      refine wp_region_held_drew (S := fun _ => True) (by kernel_rfl) trivial (fun hHeld => ?_)
      refine wpAnyH_take (i := 0) (v := ?v0) rfl (by kernel_rfl) (by kernel_rfl) (by kernel_rfl) (fun _ _ _ h => h) (Or.inl ⟨by rfl, ?y0⟩) trivial ?r0
      case y0 => (intro w' _; (try go_simp); (try with_reducible rfl))
      try simp only [Act.put, List.getElem_toArray, List.getElem_cons_zero, List.getElem_cons_succ, List.setIfInBounds_toArray, List.set_cons_zero, List.set_cons_succ]
      refine wpAnyH_ready (rs := [1]) (by kernel_rfl) (by simp) ?_
      refine AllReadyH.cons rfl (fun K hK => ?_) AllReadyH.nil
      go_simp
      refine HC.out.mono ?_
      rw [HXO.out]
      rintro e w10 ⟨rfl, hb⟩
      go_wp2_with fail
      refine hK.out _ _ trivial (fun hHeld2 => ?_)
      clear hK K
      try simp only [Act.put, List.getElem_toArray, List.getElem_cons_zero, List.getElem_cons_succ, List.setIfInBounds_toArray, List.set_cons_zero, List.set_cons_succ]
      refine wpAnyH_take (i := 2) (v := ?v2) rfl (by kernel_rfl) (by kernel_rfl) (by kernel_rfl) (fun _ _ _ h => h) (Or.inl ⟨by rfl, ?y2⟩) trivial ?r2
      case y2 => (intro w' _; (try go_simp); (try with_reducible rfl))
      try simp only [Act.put, List.getElem_toArray, List.getElem_cons_zero, List.getElem_cons_succ, List.setIfInBounds_toArray, List.set_cons_zero, List.set_cons_succ]
      refine wpAnyH_take (i := 3) (v := ?v3) rfl (by kernel_rfl) (by kernel_rfl) (by kernel_rfl) (fun _ _ _ h => h) (Or.inl ⟨by rfl, ?y3⟩) trivial ?r3
      case y3 => (intro w' _; (try go_simp); (try with_reducible rfl))
      try simp only [Act.put, List.getElem_toArray, List.getElem_cons_zero, List.getElem_cons_succ, List.setIfInBounds_toArray, List.set_cons_zero, List.set_cons_succ]
      refine wpAnyH_take (i := 4) (v := ?v4) rfl (by kernel_rfl) (by kernel_rfl) (by kernel_rfl) (fun _ _ _ h => h) (Or.inl ⟨by rfl, ?y4⟩) trivial ?r4
      case y4 => (intro w' _; (try go_simp); (try with_reducible rfl))
      try simp only [Act.put, List.getElem_toArray, List.getElem_cons_zero, List.getElem_cons_succ, List.setIfInBounds_toArray, List.set_cons_zero, List.set_cons_succ]
      refine wpAnyH_take (i := 5) (v := ?v5) rfl (by kernel_rfl) (by kernel_rfl) (by kernel_rfl) (fun _ _ _ h => h) (Or.inl ⟨by rfl, ?y5⟩) trivial ?r5
      case y5 => (intro w' _; (try go_simp); (try with_reducible rfl))
      try simp only [Act.put, List.getElem_toArray, List.getElem_cons_zero, List.getElem_cons_succ, List.setIfInBounds_toArray, List.set_cons_zero, List.set_cons_succ]
      refine wpAnyH_take (i := 6) (v := ?v6) rfl (by kernel_rfl) (by kernel_rfl) (by kernel_rfl) (fun _ _ _ h => h) (Or.inl ⟨by rfl, ?y6⟩) trivial ?r6
      case y6 => (intro w' _; (try go_simp); (try with_reducible rfl))
      try simp only [Act.put, List.getElem_toArray, List.getElem_cons_zero, List.getElem_cons_succ, List.setIfInBounds_toArray, List.set_cons_zero, List.set_cons_succ]
      refine wpAnyH_take (i := 7) (v := ?v7) rfl (by kernel_rfl) (by kernel_rfl) (by kernel_rfl) (fun _ _ _ h => h) (Or.inl ⟨by rfl, ?y7⟩) trivial ?r7
      case y7 => (intro w' _; (try go_simp); (try with_reducible rfl))
      try simp only [Act.put, List.getElem_toArray, List.getElem_cons_zero, List.getElem_cons_succ, List.setIfInBounds_toArray, List.set_cons_zero, List.set_cons_succ]
      refine wpAnyH_take (i := 8) (v := ?v8) rfl (by kernel_rfl) (by kernel_rfl) (by kernel_rfl) (fun _ _ _ h => h) (Or.inl ⟨by rfl, ?y8⟩) trivial ?r8
      case y8 => (intro w' _; (try go_simp); (try with_reducible rfl))
      try simp only [Act.put, List.getElem_toArray, List.getElem_cons_zero, List.getElem_cons_succ, List.setIfInBounds_toArray, List.set_cons_zero, List.set_cons_succ]
      refine wpAnyH_take (i := 9) (v := ?v9) rfl (by kernel_rfl) (by kernel_rfl) (by kernel_rfl) (fun _ _ _ h => h) (Or.inl ⟨by rfl, ?y9⟩) trivial ?r9
      case y9 => (intro w' _; (try go_simp); (try with_reducible rfl))
      try simp only [Act.put, List.getElem_toArray, List.getElem_cons_zero, List.getElem_cons_succ, List.setIfInBounds_toArray, List.set_cons_zero, List.set_cons_succ]
      refine wpAnyH_take (i := 10) (v := ?v10) rfl (by kernel_rfl) (by kernel_rfl) (by kernel_rfl) (fun _ _ _ h => h) (Or.inl ⟨by rfl, ?y10⟩) trivial ?r10
      case y10 => (intro w' _; (try go_simp); (try with_reducible rfl))
      try simp only [Act.put, List.getElem_toArray, List.getElem_cons_zero, List.getElem_cons_succ, List.setIfInBounds_toArray, List.set_cons_zero, List.set_cons_succ]
      refine wpAnyH_take (i := 11) (v := ?v11) rfl (by kernel_rfl) (by kernel_rfl) (by kernel_rfl) (fun _ _ _ h => h) (Or.inl ⟨by rfl, ?y11⟩) trivial ?r11
      case y11 => (intro w' _; (try go_simp); (try with_reducible rfl))
      try simp only [Act.put, List.getElem_toArray, List.getElem_cons_zero, List.getElem_cons_succ, List.setIfInBounds_toArray, List.set_cons_zero, List.set_cons_succ]
      refine wpAnyH_take (i := 12) (v := ?v12) rfl (by kernel_rfl) (by kernel_rfl) (by kernel_rfl) (fun _ _ _ h => h) (Or.inl ⟨by rfl, ?y12⟩) trivial ?r12
      case y12 => (intro w' _; (try go_simp); (try with_reducible rfl))
      try simp only [Act.put, List.getElem_toArray, List.getElem_cons_zero, List.getElem_cons_succ, List.setIfInBounds_toArray, List.set_cons_zero, List.set_cons_succ]
      refine wpAnyH_take (i := 13) (v := ?v13) rfl (by kernel_rfl) (by kernel_rfl) (by kernel_rfl) (fun _ _ _ h => h) (Or.inl ⟨by rfl, ?y13⟩) trivial ?r13
      case y13 => (intro w' _; (try go_simp); (try with_reducible rfl))
      try simp only [Act.put, List.getElem_toArray, List.getElem_cons_zero, List.getElem_cons_succ, List.setIfInBounds_toArray, List.set_cons_zero, List.set_cons_succ]
      refine wpAnyH_take (i := 14) (v := ?v14) rfl (by kernel_rfl) (by kernel_rfl) (by kernel_rfl) (fun _ _ _ h => h) (Or.inl ⟨by rfl, ?y14⟩) trivial ?r14
      case y14 => (intro w' _; (try go_simp); (try with_reducible rfl))
      try simp only [Act.put, List.getElem_toArray, List.getElem_cons_zero, List.getElem_cons_succ, List.setIfInBounds_toArray, List.set_cons_zero, List.set_cons_succ]
      refine wpAnyH_take (i := 15) (v := undef) rfl (by kernel_rfl) (by kernel_rfl) (by kernel_rfl) (fun _ _ _ h => h) (Or.inr ⟨by rfl, rfl⟩) trivial ?_
      try simp only [Act.put, List.getElem_toArray, List.getElem_cons_zero, List.getElem_cons_succ, List.setIfInBounds_toArray, List.set_cons_zero, List.set_cons_succ]
      refine wpAnyH_take (i := 16) (v := undef) rfl (by kernel_rfl) (by kernel_rfl) (by kernel_rfl) (fun _ _ _ h => h) (Or.inr ⟨by rfl, rfl⟩) trivial ?_
      try simp only [Act.put, List.getElem_toArray, List.getElem_cons_zero, List.getElem_cons_succ, List.setIfInBounds_toArray, List.set_cons_zero, List.set_cons_succ]
      refine wpAnyH_take (i := 17) (v := undef) rfl (by kernel_rfl) (by kernel_rfl) (by kernel_rfl) (fun _ _ _ h => h) (Or.inr ⟨by rfl, rfl⟩) trivial ?_
      try simp only [Act.put, List.getElem_toArray, List.getElem_cons_zero, List.getElem_cons_succ, List.setIfInBounds_toArray, List.set_cons_zero, List.set_cons_succ]
      refine wpAnyH_take (i := 18) (v := undef) rfl (by kernel_rfl) (by kernel_rfl) (by kernel_rfl) (fun _ _ _ h => h) (Or.inr ⟨by rfl, rfl⟩) trivial ?_
      try simp only [Act.put, List.getElem_toArray, List.getElem_cons_zero, List.getElem_cons_succ, List.setIfInBounds_toArray, List.set_cons_zero, List.set_cons_succ]
      refine wpAnyH_take (i := 19) (v := undef) rfl (by kernel_rfl) (by kernel_rfl) (by kernel_rfl) (fun _ _ _ h => h) (Or.inr ⟨by rfl, rfl⟩) trivial ?_
      try simp only [Act.put, List.getElem_toArray, List.getElem_cons_zero, List.getElem_cons_succ, List.setIfInBounds_toArray, List.set_cons_zero, List.set_cons_succ]
      refine wpAnyH_take (i := 20) (v := undef) rfl (by kernel_rfl) (by kernel_rfl) (by kernel_rfl) (fun _ _ _ h => h) (Or.inr ⟨by rfl, rfl⟩) trivial ?_
      try simp only [Act.put, List.getElem_toArray, List.getElem_cons_zero, List.getElem_cons_succ, List.setIfInBounds_toArray, List.set_cons_zero, List.set_cons_succ]
      refine wpAnyH_take (i := 21) (v := undef) rfl (by kernel_rfl) (by kernel_rfl) (by kernel_rfl) (fun _ _ _ h => h) (Or.inr ⟨by rfl, rfl⟩) trivial ?_
      try simp only [Act.put, List.getElem_toArray, List.getElem_cons_zero, List.getElem_cons_succ, List.setIfInBounds_toArray, List.set_cons_zero, List.set_cons_succ]
      refine wpAnyH_take (i := 22) (v := undef) rfl (by kernel_rfl) (by kernel_rfl) (by kernel_rfl) (fun _ _ _ h => h) (Or.inr ⟨by rfl, rfl⟩) trivial ?_
      try simp only [Act.put, List.getElem_toArray, List.getElem_cons_zero, List.getElem_cons_succ, List.setIfInBounds_toArray, List.set_cons_zero, List.set_cons_succ]
      refine wpAnyH_take (i := 23) (v := undef) rfl (by kernel_rfl) (by kernel_rfl) (by kernel_rfl) (fun _ _ _ h => h) (Or.inr ⟨by rfl, rfl⟩) trivial ?_
      try simp only [Act.put, List.getElem_toArray, List.getElem_cons_zero, List.getElem_cons_succ, List.setIfInBounds_toArray, List.set_cons_zero, List.set_cons_succ]
      refine wpAnyH_take (i := 24) (v := undef) rfl (by kernel_rfl) (by kernel_rfl) (by kernel_rfl) (fun _ _ _ h => h) (Or.inr ⟨by rfl, rfl⟩) trivial ?_
      try simp only [Act.put, List.getElem_toArray, List.getElem_cons_zero, List.getElem_cons_succ, List.setIfInBounds_toArray, List.set_cons_zero, List.set_cons_succ]
      refine wpAnyH_take (i := 25) (v := undef) rfl (by kernel_rfl) (by kernel_rfl) (by kernel_rfl) (fun _ _ _ h => h) (Or.inr ⟨by rfl, rfl⟩) trivial ?_
      try simp only [Act.put, List.getElem_toArray, List.getElem_cons_zero, List.getElem_cons_succ, List.setIfInBounds_toArray, List.set_cons_zero, List.set_cons_succ]
      refine wpAnyH_take (i := 26) (v := ?v26) rfl (by kernel_rfl) (by kernel_rfl) (by kernel_rfl) (fun _ _ _ h => h) (Or.inl ⟨by rfl, ?y26⟩) trivial ?r26
      case y26 => (intro w' _; (try go_simp); (try with_reducible rfl))
      try simp only [Act.put, List.getElem_toArray, List.getElem_cons_zero, List.getElem_cons_succ, List.setIfInBounds_toArray, List.set_cons_zero, List.set_cons_succ]
      refine wpAnyH_take (i := 27) (v := ?v27) rfl (by kernel_rfl) (by kernel_rfl) (by kernel_rfl) (fun _ _ _ h => h) (Or.inl ⟨by rfl, ?y27⟩) trivial ?r27
      case y27 => (intro w' _; (try go_simp); (try with_reducible rfl))
      try simp only [Act.put, List.getElem_toArray, List.getElem_cons_zero, List.getElem_cons_succ, List.setIfInBounds_toArray, List.set_cons_zero, List.set_cons_succ]
      refine wpAnyH_take (i := 28) (v := ?v28) rfl (by kernel_rfl) (by kernel_rfl) (by kernel_rfl) (fun _ _ _ h => h) (Or.inl ⟨by rfl, ?y28⟩) trivial ?r28
      case y28 => (intro w' _; (try go_simp); (try with_reducible rfl))
      try simp only [Act.put, List.getElem_toArray, List.getElem_cons_zero, List.getElem_cons_succ, List.setIfInBounds_toArray, List.set_cons_zero, List.set_cons_succ]
      refine wpAnyH_done (by kernel_rfl) ?_ _
      replace hb := undrew hb
      have hBf := hB9.trans (hb.mono (by omega))
      go_wp2
      go_ret
      exact ⟨rfl, hBf⟩
    · have hh1 := H1.out
      have hh2 := H2.out
      rw [if_neg hz] at hh1
      rw [if_neg hz] at hh2
      have J1 := Lib.hid hh1
      have J2 := Lib.hid hh2
      have hP4 : (b.pages.set (4 - clean b) ⟨1, rcMax⟩).length = 4 := by rw [List.length_set]; exact HB4.out
      have HP4 := Lib.hid hP4
      have hZk : (f.set k { b with pages := b.pages.set (4 - clean b) ⟨1, rcMax⟩ })[k]? = some { b with pages := b.pages.set (4 - clean b) ⟨1, rcMax⟩ } := by rw [List.getElem?_set_self (by have := HFL.out; omega)]
      have hYk : ((f.set k { b with worn := 200 }).set k { pages := b.pages.set (4 - clean b) ⟨1, rcMax⟩, worn := 200 })[k]? = some { pages := b.pages.set (4 - clean b) ⟨1, rcMax⟩, worn := 200 } := by rw [List.getElem?_set_self (by rw [List.length_set]; have := HFL.out; omega)]
      have hZl : (f.set k { b with pages := b.pages.set (4 - clean b) ⟨1, rcMax⟩ }).length = f.length := by simp
      have hYl : ((f.set k { b with worn := 200 }).set k { pages := b.pages.set (4 - clean b) ⟨1, rcMax⟩, worn := 200 }).length = f.length := by simp
      generalize hPs : b.pages.set (4 - clean b) ⟨1, rcMax⟩ = Ps at *
      generalize hYg : (f.set k { b with worn := 200 }).set k { pages := Ps, worn := 200 } = Y at *
      generalize hZg : f.set k { b with pages := Ps } = Z at *
      have HYK := Lib.hid hYk
      have HZK := Lib.hid hZk
      have HYL := Lib.hid hYl
      have HZL := Lib.hid hZl
      have hPl : Ps.length < 1000000000000 := by omega
      clear hh1 hh2 H1 H2 hz hYk hZk hP4 hPs hYg hZg hYl hZl
      go_wp2_with fail
      refine (impl_FlashWrite (f.set k { b with worn := 200 }) k rcMax false _ f.length c2 _ HXL.out.symm ⟨hs, hBk7x⟩).mono ?_
      rw [J2.out]
      rintro e w8 ⟨A8, c8, rfl, _, hO8, hb⟩
      dsimp only at hO8 ⊢
      rw [HYL.out]
      have hs8 := hb.size
      have hBk8x := hBk7x.below hb (Nat.le_refl _)
      have hBk8 := hBk7.below hb (Nat.le_refl _)
      have hB8 := hB7.trans (hb.mono (by omega))
      clear hb hBk7x hBk7 hB7
      go_wp2_with fail
      refine (impl_FlashWrite f k rcMax false _ f.length d _ rfl ⟨hs, hBk8⟩).mono ?_
      rw [J1.out]
      rintro e w9 ⟨A9, c9, rfl, _, hO9, hb⟩
      dsimp only at hO9 ⊢
      rw [HZL.out]
      have hs9 := hb.size
      have hO89 := hO8.below hb (Nat.le_refl _)
      have hFx : Fl w9.drew (some ⟨g2, 0, none⟩) (f.set k { b with worn := 200 }) := Fl.drew' ⟨hs, hBk8x.below hb (Nat.le_refl _)⟩
      have hB9 := hB8.trans (hb.mono (by omega))
      clear hb hBk8x hBk8 hB8 hO8
      have hcall := impl_FlashOk (f.set k { b with worn := 200 }) (some ⟨g2, 0, none⟩) c2 _ hFx
      rw [HXL.out] at hcall
      have HC := Lib.hid hcall
      clear hcall
      obtain ⟨yb, yo, yzb, yzo, ycz, rfl, a0, aRow⟩ := hdr_of hO89 HYK.out HP4.out
      obtain ⟨zb, zo, zzb, zzo, zcz, rfl, n0, nRow⟩ := hdr_of hO9 HZK.out HP4.out
      have l1 := lt_of_cell a0
      have l2 := lt_of_cell n0
      dsimp only at aRow nRow
      have haR := aRow.drew
      have hnR := nRow.drew
      go_wp2
      go_region_held3 (fun w' => w'.cell? ⟨yb, yo + k * 2, none⟩ = some (.slice (some ⟨yzb, yzo, none⟩) 4 ycz) ∧ w'.cell? ⟨zb, zo + k * 2, none⟩ = some (.slice (some ⟨zzb, zzo, none⟩) 4 zcz))
        (first | go_keep | trivial)
        (first
          | (go_at_call 20; with_reducible refine HC.out.mono ?_; rw [HXO.out]; rintro e w10 ⟨rfl, hb10⟩; have haR10 := haR.below hb10 (Nat.le_refl _); have hnR10 := hnR.below hb10 (Nat.le_refl _); replace hb10 := undrew hb10; have f0 := (hb10.cell (p := ⟨yb, yo + k * 2, none⟩) l1).trans a0; have f1 := (hb10.cell (p := ⟨zb, zo + k * 2, none⟩) l2).trans n0)
          | (go_at_call 18; with_reducible refine (laws_lqPages (some ⟨yzb, yzo, none⟩) (some ⟨zzb, zzo, none⟩) _ ycz zcz Ps _ HP4.out.symm hPl haR10 hnR10).mono ?_; rintro e w11 ⟨rfl, hb11⟩; have g0 := (hb11.cell (p := ⟨yb, yo + k * 2, none⟩) (lt_of_cell f0)).trans f0; have g1 := (hb11.cell (p := ⟨zb, zo + k * 2, none⟩) (lt_of_cell f1)).trans f1))
      have hs10 := hb10.size
      have hBf := (hB9.trans (hb10.mono (by omega))).trans (hb11.mono (by omega))
      go_wp2
      go_ret
      exact ⟨rfl, hBf⟩
  · have hok' : flashOk f = false := by simpa using hok
    rw [hok']
    go_wp2_with fail
    refine (spec_FlashOk f _ d _ (small_len hF.out) ⟨hs, hBk3⟩).mono ?_
    rw [hok']
    rintro e w4 ⟨rfl, hb⟩
    go_wp2
    go_ret
    exact ⟨rfl, hB3.trans (hb.mono (by omega))⟩
end Go.Proofs.Ytlchlhjjoddocaa
