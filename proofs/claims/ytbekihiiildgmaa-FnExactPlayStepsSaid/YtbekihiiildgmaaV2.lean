/- What the laws' walks share: words, plain laws, and the walks of functions, part 2. -/
import Derived.Deep.AppendLies
import Derived.Deep.Onto
import Derived.OwnWalk
import Derived.Deep.RegionHeld3
import Derived.BigQuiet
import Derived.Deep.RegionWith
import Derived.RangeFuncNested
import Derived.RangeFuncCalls
import Derived.OrdersIn
import Derived.Test.YtbekihiiildgmaaV1
namespace Go.Proofs.Ytbekihiiildgmaa
set_option linter.unusedVariables false
set_option linter.unusedSimpArgs false
open Go.RowKit Go.Maps
set_option maxHeartbeats 400000
theorem Try.info3_step : (Try.prog.info? 47).map (fun i => (i.zero, i.size, i.bytes)) = some (some (.agg #[.int .i64 0, .int .i64 0, .int .i64 0, .int .i64 0, .int .i64 0, .int .i64 0, .int .i64 0, .int .i64 0]), 8, 64) := by kernel_rfl
theorem spec_l3Open' (n : Nat) (f : List Bk) (A : Option Addr) (c : Nat) (w : World) (hn : n = f.length) (hl : f.length < 1000000000000) (hp : ∀ b ∈ f, b.pages.length < 1000000000000) (hF : Fl w A f) :
    Calls Try.prog 108 #[.slice A n c] w fun e w' => e = .returned (.tuple #[.int .i64 (openB f).1, .bool (openB f).2]) ∧ 0 ≤ (openB f).1 ∧ (f ≠ [] → (openB f).1 < f.length) ∧ Below w.heap.size w w' := by subst hn; exact spec_l3Open f A c w hl hp hF
theorem spec_l3Old' (n : Nat) (f : List Bk) (A : Option Addr) (c : Nat) (w : World) (hn : n = f.length) (hl : f.length < 1000000000000) (h0 : 0 < f.length) (hp : ∀ b ∈ f, b.pages.length < 1000000000000) (hF : Fl w A f) :
    Calls Try.prog 156 #[.slice A n c] w fun e w' => e = .returned (.int .i64 (old f)) ∧ old f < f.length ∧ Below w.heap.size w w' := by subst hn; exact spec_l3Old f A c w hl h0 hp hF
theorem spec_l3Next' (n : Nat) (f : List Bk) (A : Option Addr) (c : Nat) (w : World) (hn : n = f.length) (hl : f.length < 1000000000000) (hp : ∀ b ∈ f, b.pages.length < 1000000000000) (hm : ∀ b ∈ f, most b < 1000000000000) (hF : Fl w A f) :
    Calls Try.prog 131 #[.slice A n c] w fun e w' => e = .returned (.int .i64 (next f)) ∧ Below w.heap.size w w' := by subst hn; exact spec_l3Next f A c w hl hp hm hF
theorem spec_l3Live' (n : Nat) (f : List Bk) (p : Pg) (A : Option Addr) (c : Nat) (w : World) (hn : n = f.length) (hl : f.length < 1000000000000) (hp : ∀ b ∈ f, b.pages.length < 1000000000000) (hF : Fl w A f) :
    Calls Try.prog 157 #[.slice A n c, .agg #[.int .i64 p.state, .int .i64 p.rc.kind, .int .i64 p.rc.seq, .int .i64 p.rc.addr, .int .i64 p.rc.val]] w fun e w' => e = .returned (.bool (live f p)) ∧ Below w.heap.size w w' := by subst hn; exact spec_l3Live f p A c w hl hp hF
theorem spec_l3Last' (n : Nat) (f : List Bk) (addr : Int) (A : Option Addr) (c : Nat) (w : World) (hn : n = f.length) (hl : f.length < 1000000000000) (hp : ∀ b ∈ f, b.pages.length < 1000000000000) (hF : Fl w A f) :
    Calls Try.prog 65 #[.slice A n c, .int .i64 addr] w fun e w' => e = .returned (.tuple #[.agg #[.int .i64 (last f addr).kind, .int .i64 (last f addr).seq, .int .i64 (last f addr).addr, .int .i64 (last f addr).val], .bool (decide (0 < (last f addr).seq))]) ∧ Below w.heap.size w w' := by subst hn; exact spec_l3Last f addr A c w hl hp hF
theorem spec_l11Dirty' (n : Nat) (f : List Bk) (a : Int) (A D : Option Addr) (c m d : Nat) (w : World) (hn : n = f.length) (hl : f.length < 1000000000000) (hp : ∀ b ∈ f, b.pages.length < 1000000000000) (hF : Fl w A f) :
    Calls Try.prog 137 #[.agg #[.slice A n c, .slice D m d], .int .i64 a] w fun e w' => e = .returned (.bool (dirty f a)) ∧ Below w.heap.size w w' := by subst hn; exact spec_l11Dirty f a A D c m d w hl hp hF
theorem spec_l11Read' (n : Nat) (s : St) (a : Int) (A D : Option Addr) (c d : Nat) (w : World) (hn : n = s.flash.length) (hl : s.flash.length < 1000000000000) (hp : ∀ b ∈ s.flash, b.pages.length < 1000000000000) (hd : s.disk.length = 6) (ha : 1 ≤ a) (ha2 : a ≤ 6) (hF : Fl w A s.flash) (hD : Row w D (ints s.disk)) :
    Calls Try.prog 138 #[.agg #[.slice A n c, .slice D 6 d], .int .i64 a] w fun e w' => e = .returned (.int .i64 (readV s a)) ∧ Below w.heap.size w w' := by subst hn; exact spec_l11Read s a A D c d w hl hp hd ha ha2 hF hD
/-- a row of steps of one's own, in a block from base on -/
def OwnS (w : World) (base : Nat) (v : Value) (xs : List Sp) : Prop := w.ownsRow base 47 8 v xs.length (sps xs)
theorem ownsRow_keep {w w' : World} {base : Nat} {e : TypeId} {size n : Nat} {v : Value} {xs : List Value} (h : w.ownsRow base e size v n xs) (hk : ∀ b, v.ownBlock = some b → b < w.heap.size → w'.heap[b]? = w.heap[b]?) : w'.ownsRow base e size v n xs := by
  refine ⟨h.1, ?_⟩
  rcases h.2 with hn | ⟨g, cap, cur, hv, hb, hg, rest⟩
  · exact .inl hn
  · have hl : g < w.heap.size := by
      rcases Nat.lt_or_ge g w.heap.size with hl | hl
      · exact hl
      · rw [Array.getElem?_eq_none hl] at hg; cases hg
    exact .inr ⟨g, cap, cur, hv, hb, by rw [hk g (by rw [hv]; rfl) hl]; exact hg, rest⟩
theorem OwnS.below {w w' : World} {base B : Nat} {v : Value} {xs : List Sp} (h : OwnS w base v xs) (hb : Below B w w') (hB : w.heap.size ≤ B) : OwnS w' base v xs := ownsRow_keep h fun b _ hl => hb.block b (by omega)
theorem OwnS.agr {w w' : World} {base : Nat} {v : Value} {xs : List Sp} {S : Nat → Prop} (h : OwnS w base v xs) (hb : Agr S w w') (hS : ∀ b, base ≤ b → ¬ S b) : OwnS w' base v xs := by
  refine ownsRow_keep h fun b hbl hl => hb.block b hl (hS b ?_)
  exact (World.ownsRow.lt h b hbl).1
theorem OwnS.mono {w : World} {base base' : Nat} {v : Value} {xs : List Sp} (h : OwnS w base v xs) (hb : base' ≤ base) : OwnS w base' v xs := World.ownsRow.mono h hb
theorem OwnS.nil (w : World) (base : Nat) (hb : base ≤ w.heap.size) : OwnS (w.alloc (.cells #[] 47)) base (.slice (some ⟨w.heap.size, 0, none⟩) 0 0) [] := World.ownsRow_lit w #[] 0 hb (by unfold maxLen; omega) rfl
theorem OwnS.shape {w : World} {base : Nat} {v : Value} {xs : List Sp} (h : OwnS w base v xs) : ∃ A c, v = .slice A xs.length c ∧ xs.length ≤ c ∧ Row w A (sps xs) ∧ ∀ b, blk A b → base ≤ b ∧ b < w.heap.size := by
  rcases h.2 with ⟨hv, hn⟩ | ⟨g, cap, cur, hv, hb, hg, hc, rest⟩
  · exact ⟨none, 0, by rw [hv, hn], by omega, by have : xs = [] := List.length_eq_zero_iff.1 hn; subst this; exact Row.nil _ _, fun b hb => by simp [blk] at hb⟩
  · refine ⟨some ⟨g, 0, none⟩, cap, hv, hc, Row.of_own (by rw [← hv]; exact h), fun b hbb => ?_⟩
    rw [blk_some] at hbb
    subst hbb
    exact ⟨hb, (World.ownsRow.lt h g (by rw [hv]; rfl)).2⟩
theorem OwnS.snoc {w : World} {base g n c : Nat} {xs : List Sp} {x : Sp} (hn : n = xs.length + 1) (h : w.ownsRow base 47 8 (.slice (some ⟨g, 0, none⟩) (xs.length + 1) c) (xs.length + 1) (sps xs ++ x.vs)) : OwnS w base (.slice (some ⟨g, 0, none⟩) n c) (xs ++ [x]) := by
  subst hn
  unfold OwnS
  rw [List.length_append, sps, List.flatMap_append, show [x].flatMap Sp.vs = x.vs by simp]
  exact h
theorem tells_snoc (f : List Bk) (xs : List Sp) (p : Pg) (r : List Pg) : xs ++ tells f (p :: r) = (if told f p then xs ++ [tellP p] else xs) ++ tells f r := by
  unfold tells
  rw [List.filter_cons]
  split
  · simp
  · rfl
theorem old_lt {f : List Bk} : ∀ (r : List Bk) (i out : Nat), i + r.length = f.length → out < f.length → oldGo f i out r < f.length
  | [], _, _, _, h => h
  | b :: r, i, out, hi, h => by
    rw [List.length_cons] at hi
    unfold oldGo
    split
    · exact old_lt r _ _ (by omega) (by omega)
    · exact old_lt r _ _ (by omega) h
set_option maxHeartbeats 4000000 in
set_option maxRecDepth 100000 in
theorem spec_l12Room (f : List Bk) (A D : Option Addr) (c m d : Nat) (w : World) (hf : f.length = 4) (hp : ∀ b ∈ f, b.pages.length = 4) (hF : Fl w A f) :
    Calls Try.prog 132 #[.agg #[.slice A 4 c, .slice D m d]] w fun e w' => ∃ v, e = .returned (.tuple #[v, .int .i64 (room f).2.1, .bool (room f).2.2]) ∧ OwnS w' w.heap.size v (room f).1 ∧ Below w.heap.size w w' := by
  obtain ⟨ib, hib, hbz0, hbz1, hbz2⟩ := info_parts Try.info3_step
  have HL := Lib.hid hf
  have HP4 := Lib.hid hp
  have hl4 : f.length < 1000000000000 := by omega
  have h04 : 0 < f.length := by omega
  have HP := Lib.hid (show ∀ b ∈ f, b.pages.length < 1000000000000 from fun b hb => by rw [hp b hb]; omega)
  clear hf hp
  go_enter Try.func132, Try.ntmps132
  go_wp2_with fail
  refine (spec_l3Open' _ f A c _ HL.out.symm hl4 HP.out ((hF.alloc _).alloc _)).mono ?_
  rintro e w1 ⟨rfl, ho0, ho1, hb⟩
  have hB : Below w.heap.size w w1 := Below.trans (by (repeat (first | (with_reducible exact Below.refl _ _) | (with_reducible assumption) | (refine Below.setCell ?_ (by first | omega | exact hB.size | exact hb.size | (have h := hB.size; simp; omega) | (have h := hb.size; simp; omega) | (simp; omega) | simp) _) | (refine Below.alloc ?_ (by first | omega | exact hB.size | exact hb.size | (have h := hB.size; simp; omega) | (have h := hb.size; simp; omega) | (simp; omega) | simp) _) | (refine Below.drew ?_)))) (hb.mono (by simp; omega))
  have hz : w.heap.size + 1 < w1.heap.size := by have := hb.size; simp at this; omega
  obtain ⟨hc, hfz⟩ := bcell hb
  have hO1 : OwnS w1 (w.heap.size + 1) (.slice (some ⟨w.heap.size + 1, 0, none⟩) 0 0) [] := by
    have := (OwnS.nil (w.alloc (.cells #[.slice A 4 c, .slice D m d] 26)) (w.heap.size + 1) (by simp))
    simp only [World.size_alloc] at this
    exact this.below hb (by simp)
  have hb0 : w1.cell? ⟨w.heap.size, 0, none⟩ = some (.slice A 4 c) := (hc _ _ (by simp <;> omega)).trans (by simp)
  clear hb hc hfz
  by_cases h1 : (openB f).2 = true
  · have h3 : Hid (room f = ([], (openB f).1, true)) := by unfold Hid room; rw [if_pos h1]
    rw [h1]
    go_wp2
    go_ret3
    rw [h3.out]
    exact ⟨_, rfl, hO1.mono (by omega), by (repeat (first | (with_reducible exact Below.refl _ _) | (with_reducible assumption) | (refine Below.setCell ?_ (by first | omega | exact hB.size | exact hb.size | (have h := hB.size; simp; omega) | (have h := hb.size; simp; omega) | (simp; omega) | simp) _) | (refine Below.alloc ?_ (by first | omega | exact hB.size | exact hb.size | (have h := hB.size; simp; omega) | (have h := hb.size; simp; omega) | (simp; omega) | simp) _) | (refine Below.drew ?_)))⟩
  · have h3 : Hid (room f = (tells f (f.getD (old f) zbk).pages ++ [⟨2, 0, 0, old f, rc0⟩], (old f : Int), decide ((f.getD (old f) zbk).worn < 200))) := by unfold Hid room; rw [if_neg h1]
    rw [show (openB f).2 = false by simpa using h1]
    clear ho0 ho1
    go_wp2_with fail
    refine (spec_l3Old' _ f A c _ HL.out.symm hl4 h04 HP.out (hF.below hB (Nat.le_refl _))).mono ?_
    rintro e w2 ⟨rfl, hol, hb2⟩
    have hO2 := hO1.below hb2 (Nat.le_refl _)
    have hb0' := (hb2.cell (p := ⟨w.heap.size, 0, none⟩) (by simp; omega)).trans hb0
    have hz2 := hb2.size
    have hB2 := hB.trans (hb2.mono hB.size)
    clear hO1 hb0 hB hb2
    generalize old f = i at *
    obtain ⟨B, hBf⟩ := get_some hol
    rw [HL.out] at hol
    have hgd : f.getD i zbk = B := by rw [List.getD_eq_getElem?_getD, hBf]; rfl
    rw [hgd] at h3
    have hB4 := HP4.out B (List.mem_of_getElem? hBf)
    have HB := Lib.hid hBf
    have HB4 := Lib.hid hB4
    have hi4 : (i : Int) < 4 := by omega
    obtain ⟨g, o, rfl⟩ := (hF.below hB2 (Nat.le_refl _)).choose_spec.addr (by intro e; rw [e] at hBf; simp at hBf)
    have hT : Hid (tells f B.pages = [] ++ tells f (B.pages.drop 0)) := rfl
    clear hgd hBf hB4
    go_wp2
    go_loopw [5, 9] (fun u q wr => ∃ (k : Nat) (xs : List Sp) (v : Value), k ≤ 4 ∧ q = .int .i64 k ∧ v = u ∧ xs.length ≤ k ∧ OwnS wr (w.heap.size + 1) v xs ∧ Below w.heap.size w wr ∧ wr.cell? ⟨w.heap.size, 0, none⟩ = some (.slice (some ⟨g, o, none⟩) 4 c) ∧ w.heap.size + 1 < wr.heap.size ∧ Hid (tells f B.pages = xs ++ tells f (B.pages.drop k))) (fun _ q _ => 4 - (intOf q).toNat)
    case atStart => exact ⟨0, [], _, by omega, rfl, rfl, by simp, hO2, hB2, hb0', by omega, hT⟩
    case round =>
      clear hT hO2 hb0' hz2 hB2 hz
      obtain ⟨k, xs, v, hk, rfl, rfl, hxk, hO, hb, hbx, hz, hT⟩ := hrel
      obtain ⟨hs, hBk⟩ := hF.below hb (Nat.le_refl _)
      obtain ⟨⟨Ap, cp⟩, _, z0, z1, _, _, hR, _⟩ := hBk.at_ HB.out
      dsimp only at z0 hR
      rw [HB4.out] at z0
      by_cases hlt : k < 4
      · obtain ⟨p, hq⟩ := get_some (l := B.pages) (k := k) (by have := HB4.out; omega)
        obtain ⟨pb, po, rfl⟩ := hR.addr (pgs_ne (by intro e; rw [e] at hq; simp at hq))
        obtain ⟨c0, c1, c2, c3, c4⟩ := hR.pg hq
        have hT1 : Hid (tells f B.pages = (if told f p then xs ++ [tellP p] else xs) ++ tells f (B.pages.drop (k + 1))) := by rw [Hid, hT.out, drop_cons hq, tells_snoc]
        have hk4 : (k : Int) < 4 := by omega
        have hzz : w.heap.size < wr.heap.size := by omega
        clear hq hT hBk hR
        go_wp2_with fail
        refine (spec_l3Live' _ f p _ c _ HL.out.symm hl4 HP.out ((hF.below hb (Nat.le_refl _)).alloc _)).mono ?_
        rintro e w3 ⟨rfl, hb3⟩
        have hO3 := (hO.below ((Below.refl wr.heap.size _).alloc (Nat.le_refl _) (.cells #[.int .i64 p.state, .int .i64 p.rc.kind, .int .i64 p.rc.seq, .int .i64 p.rc.addr, .int .i64 p.rc.val] 119)) (Nat.le_refl _)).below hb3 (Nat.le_refl _)
        have hbx3 := (hb3.cell (p := ⟨w.heap.size, 0, none⟩) (by show w.heap.size < _; simp; omega)).trans ((((Below.refl wr.heap.size wr).alloc (Nat.le_refl _) (.cells #[.int .i64 p.state, .int .i64 p.rc.kind, .int .i64 p.rc.seq, .int .i64 p.rc.addr, .int .i64 p.rc.val] 119)).cell (p := ⟨w.heap.size, 0, none⟩) (by show w.heap.size < wr.heap.size; omega)).trans hbx)
        have hB3 : Below w.heap.size w w3 := Below.trans (by (repeat (first | (with_reducible exact Below.refl _ _) | (with_reducible assumption) | (refine Below.setCell ?_ (by first | omega | exact hB.size | exact hb.size | (have h := hB.size; simp; omega) | (have h := hb.size; simp; omega) | (simp; omega) | simp) _) | (refine Below.alloc ?_ (by first | omega | exact hB.size | exact hb.size | (have h := hB.size; simp; omega) | (have h := hb.size; simp; omega) | (simp; omega) | simp) _) | (refine Below.drew ?_)))) (hb3.mono (by simp; omega))
        have hs3 : wr.heap.size + 1 ≤ w3.heap.size := by have := hb3.size; simpa using this
        obtain ⟨hc3, _⟩ := bcell hb3
        have p1 : w3.cell? ⟨wr.heap.size, 1, none⟩ = some (.int .i64 p.rc.kind) := (hc3 _ _ (by simp)).trans (by simp)
        have p3 : w3.cell? ⟨wr.heap.size, 3, none⟩ = some (.int .i64 p.rc.addr) := (hc3 _ _ (by simp)).trans (by simp)
        have p4 : w3.cell? ⟨wr.heap.size, 4, none⟩ = some (.int .i64 p.rc.val) := (hc3 _ _ (by simp)).trans (by simp)
        have htd : Hid (told f p = (live f p && decide (p.rc.kind = 1))) := rfl
        clear hb3 hc3 hO hbx hb c0 c1 c2 c3 c4 z0 z1
        generalize live f p = lv at *
        by_cases hd : lv = true ∧ p.rc.kind = 1
        · obtain ⟨rfl, hk1⟩ := hd
          have hT2 : Hid (tells f B.pages = (xs ++ [tellP p]) ++ tells f (B.pages.drop (k + 1))) := by rw [Hid, hT1.out, if_pos (by rw [htd.out]; simp [hk1])]
          rw [hk1] at p1
          clear hT1 htd
          have hO4 := hO3.below ((Below.refl w3.heap.size _).alloc (Nat.le_refl _) (.cells #[.int .i64 1, .int .i64 p.rc.addr, .int .i64 p.rc.val, .int .i64 0, .int .i64 0, .int .i64 0, .int .i64 0, .int .i64 0] 47)) (Nat.le_refl _)
          have hnb : v.ownBlock = none ∨ ∃ b, v.ownBlock = some b ∧ w.heap.size + 1 ≤ b ∧ b < w3.heap.size := by
            rcases h : v.ownBlock with _ | b
            · exact .inl rfl
            · have := World.ownsRow.lt hO3 b h; exact .inr ⟨b, rfl, this.1, this.2⟩
          go_wp2_with (at_builtin; refine wpList_append_lies _ rfl (.tmp 47) (.tmp 55) _ rfl (w.heap.size + 1) 47 ib _ 8 64 Try.underlying37 hib hbz0 hbz1 hbz2 rfl (by omega) v xs.length (sps xs) rfl hO4 ⟨w3.heap.size, 0, none⟩ 1 1 (tellP p).vs rfl rfl (World.news_of_block (cs := #[.int .i64 1, .int .i64 p.rc.addr, .int .i64 p.rc.val, .int .i64 0, .int .i64 0, .int .i64 0, .int .i64 0, .int .i64 0]) (t := 47) (fr := (0, 0)) (heap_alloc_new w3 _)) (by simp [Value.oneCell', tellP, Sp.vs, rc0]) (by omega) (by unfold maxLen; omega) (by omega) (by simp; omega) (w3.heap.size + 1) (by simp) ?_; intro g2 c2 w4 hown2 hgrow2 hat2 hlt2)
          have hgb : ∀ q, v.ownBlock = some q → w.heap.size + 1 ≤ q := fun q e => by
            rcases hnb with h | ⟨b, h, h1, _⟩
            · rw [h] at e; cases e
            · rw [h] at e; cases e; exact h1
          have hbb : Below (w.heap.size + 1) w3 w4 := ((Below.refl _ _).alloc (by omega) _).grown hgrow2 (by simp; omega) hgb
          have hB4 : Below w.heap.size w w4 := hB3.trans (hbb.mono (by omega))
          have hbx4 := (hbb.cell (p := ⟨w.heap.size, 0, none⟩) (by show w.heap.size < _; omega)).trans hbx3
          have hs4 := hbb.size
          have hOS := OwnS.snoc (x := tellP p) rfl hown2
          go_roundw
          case rel => exact ⟨k + 1, xs ++ [tellP p], _, by omega, by go_num, rfl, by simp; omega, hOS, hB4, hbx4, by omega, hT2⟩
          case measure => simp [intOf]; omega
        · have hT2 : Hid (tells f B.pages = xs ++ tells f (B.pages.drop (k + 1))) := by
            rw [Hid, hT1.out, if_neg (by
              rw [htd.out]
              intro h
              simp at h
              exact hd h)]
          clear hT1 htd
          rcases Bool.eq_false_or_eq_true lv with rfl | rfl
          · have hk1 : ¬ p.rc.kind = 1 := fun h => hd ⟨rfl, h⟩
            go_wp2
            go_roundw
            case rel => exact ⟨k + 1, xs, v, by omega, by go_num, rfl, by omega, hO3, hB3, hbx3, by omega, hT2⟩
            case measure => simp [intOf]; omega
          · go_wp2
            go_roundw
            case rel => exact ⟨k + 1, xs, v, by omega, by go_num, rfl, by omega, hO3, hB3, hbx3, by omega, hT2⟩
            case measure => simp [intOf]; omega
      · obtain rfl : k = 4 := by omega
        have hT2 : Hid (tells f B.pages = xs) := by
          rw [Hid, hT.out, List.drop_of_length_le (by rw [HB4.out]; exact Nat.le_refl _)]
          simp [tells]
        rw [hT2.out] at h3
        have hzz : w.heap.size < wr.heap.size := by omega
        have hnb : ∀ q, v.ownBlock = some q → w.heap.size + 1 ≤ q := fun q e => (World.ownsRow.lt hO q e).1
        have hgl := lt_of_cell z1
        have hs1 := hb.size
        have hgw : g < w.heap.size := by
          obtain ⟨hs', hBk'⟩ := hF
          obtain ⟨_, _, _, z1', _⟩ := hBk'.at_ HB.out
          exact lt_of_cell z1'
        clear hT hBk hR z0
        go_wp2
        go_region_held3 (fun w' => w'.cell? ⟨w.heap.size, 0, none⟩ = some (.slice (some ⟨g, o, none⟩) 4 c) ∧ w'.cell? ⟨g, o + i * 2 + 1, none⟩ = some (.int .i64 B.worn)) (first | go_keep | trivial)
          (first
            | (refine step_append_lies _ (by rfl) (.tmp 57) (.tmp 60) _ (by rfl) (w.heap.size + 1) 47 ib _ 8 64 Try.underlying37 hib hbz0 hbz1 hbz2 rfl (by omega) v xs.length (sps xs) (by rfl) (World.ownsRow.drew (World.ownsRow.alloc hO (.cells #[.int .i64 2, .int .i64 0, .int .i64 0, .int .i64 i, .int .i64 0, .int .i64 0, .int .i64 0, .int .i64 0] 47))) ⟨wr.heap.size, 0, none⟩ 1 1 (⟨2, 0, 0, i, rc0⟩ : Sp).vs (by rfl) (by rfl) (World.news_of_block (cs := #[.int .i64 2, .int .i64 0, .int .i64 0, .int .i64 i, .int .i64 0, .int .i64 0, .int .i64 0, .int .i64 0]) (t := 47) (fr := (0, 0)) (heap_alloc_new wr _)) (by simp [Value.oneCell', Sp.vs, rc0]) (by omega) (by unfold maxLen; omega) (by omega) (by simp; omega) (wr.heap.size + 1) (by simp) ?_; intro g2 c2 w4 hown2 hgrow2 hat2 hlt2; have hbb : Below (w.heap.size + 1) wr w4 := (((Below.refl _ _).alloc (by omega) _).drew).grown hgrow2 (by simp; omega) hnb; have y0 := (hbb.cell (p := ⟨w.heap.size, 0, none⟩) (by show w.heap.size < _; omega)).trans hbx; have y1 : w4.cell? ⟨g, o + i * 2 + 1, none⟩ = some (.int .i64 B.worn) := (hbb.cell (p := ⟨g, o + i * 2 + 1, none⟩) (by show g < _; omega)).trans z1))
        have hOS := OwnS.snoc (x := ⟨2, 0, 0, i, rc0⟩) rfl hown2
        go_wp2
        go_ret3
        rw [h3.out]
        exact ⟨_, rfl, hOS.mono (by omega), hb.trans (hbb.mono (by omega))⟩
theorem tells_len (f : List Bk) (ps : List Pg) : (tells f ps).length ≤ ps.length := by
  unfold tells; rw [List.length_map]; exact List.length_filter_le _ _
theorem room_len {f : List Bk} (hf : f.length = 4) (hp : ∀ b ∈ f, b.pages.length = 4) : (room f).1.length ≤ 5 := by
  unfold room
  split
  · simp
  · have h1 := tells_len f (f.getD (old f) zbk).pages
    have hlt : old f < f.length := old_lt _ _ _ (by simp; omega) (by omega)
    have h2 : (f.getD (old f) zbk).pages.length = 4 := by
      rw [List.getD_eq_getElem?_getD, List.getElem?_eq_getElem hlt]
      exact hp _ (List.getElem_mem hlt)
    rw [List.length_append]; simp only [List.length_cons, List.length_nil]; omega
end Go.Proofs.Ytbekihiiildgmaa
namespace Go.Proofs.Ytbekihiiildgmaa
set_option linter.unusedVariables false
set_option linter.unusedSimpArgs false
open Go.RowKit Go.Maps
set_option maxHeartbeats 400000
set_option maxHeartbeats 4000000 in
set_option maxRecDepth 100000 in
theorem spec_l12Write (f : List Bk) (kind addr val : Int) (A D : Option Addr) (c m d : Nat) (w : World) (hf : f.length = 4) (hp : ∀ b ∈ f, b.pages.length = 4) (hm : ∀ b ∈ f, most b < 1000000000000) (hF : Fl w A f) :
    Calls Try.prog 80 #[.agg #[.slice A 4 c, .slice D m d], .int .i64 kind, .int .i64 addr, .int .i64 val] w fun e w' => ∃ v, e = .returned v ∧ OwnS w' w.heap.size v (wr f kind addr val) ∧ Below w.heap.size w w' := by
  obtain ⟨ib, hib, hbz0, hbz1, hbz2⟩ := info_parts Try.info3_step
  have HL := Lib.hid hf
  have HP4 := Lib.hid hp
  have HM := Lib.hid hm
  have hl4 : f.length < 1000000000000 := by omega
  have HP := Lib.hid (show ∀ b ∈ f, b.pages.length < 1000000000000 from fun b hb => by rw [hp b hb]; omega)
  have hfin : Hid (wr f kind addr val = if (room f).2.2 = false ∨ recOk ⟨kind, next f, addr, val⟩ = false then [] else (room f).1 ++ [⟨3, 0, 0, (room f).2.1, ⟨kind, next f, addr, val⟩⟩]) := rfl
  have hrl : (room f).1.length ≤ 5 := room_len hf hp
  clear hf hp hm
  go_enter Try.func80, Try.ntmps80
  go_wp2_with fail
  refine (spec_l3Next' _ f A c _ HL.out.symm hl4 HP.out HM.out (hF.alloc _)).mono ?_
  rintro e w1 ⟨rfl, hb⟩
  have hB : Below w.heap.size w w1 := Below.trans (by (repeat (first | (with_reducible exact Below.refl _ _) | (with_reducible assumption) | (refine Below.setCell ?_ (by first | omega | exact hB.size | exact hb.size | (have h := hB.size; simp; omega) | (have h := hb.size; simp; omega) | (simp; omega) | simp) _) | (refine Below.alloc ?_ (by first | omega | exact hB.size | exact hb.size | (have h := hB.size; simp; omega) | (have h := hb.size; simp; omega) | (simp; omega) | simp) _) | (refine Below.drew ?_)))) (hb.mono (by simp))
  have hz : w.heap.size < w1.heap.size := by have := hb.size; simp at this; omega
  obtain ⟨hc, hfz⟩ := bcell hb
  have x0 : w1.cell? ⟨w.heap.size, 0, none⟩ = some (.slice A 4 c) := (hc _ _ (by simp)).trans (by simp)
  have x1 : w1.cell? ⟨w.heap.size, 1, none⟩ = some (.slice D m d) := (hc _ _ (by simp)).trans (by simp)
  clear hb hc hfz
  generalize next f = nx at *
  go_wp2_with fail
  refine (spec_l12Room f A D c m d _ HL.out HP4.out ((hF.below hB (Nat.le_refl _)).alloc _)).mono ?_
  rintro e w2 ⟨v, rfl, hO, hb2⟩
  obtain ⟨hc, hfz⟩ := bcell hb2
  have r0 : w2.cell? ⟨w1.heap.size, 0, none⟩ = some (.int .i64 kind) := (hc _ _ (by simp)).trans (by simp)
  have r1 : w2.cell? ⟨w1.heap.size, 1, none⟩ = some (.int .i64 nx) := (hc _ _ (by simp)).trans (by simp)
  have r2 : w2.cell? ⟨w1.heap.size, 2, none⟩ = some (.int .i64 addr) := (hc _ _ (by simp)).trans (by simp)
  have r3 : w2.cell? ⟨w1.heap.size, 3, none⟩ = some (.int .i64 val) := (hc _ _ (by simp)).trans (by simp)
  have hB2 : Below w.heap.size w w2 := (hB.alloc hB.size _).trans (hb2.mono (by simp; omega))
  have hz2 : w1.heap.size + 1 ≤ w2.heap.size := by have := hb2.size; simpa using this
  replace hO := hO.mono (base' := w1.heap.size) (by simp)
  clear hb2 hc hfz x0 x1 hB
  generalize room f = rm at *
  obtain ⟨xs, bi, ok⟩ := rm
  dsimp only at *
  cases ok
  · have h3 : Hid (wr f kind addr val = []) := by rw [Hid, hfin.out, if_pos (.inl rfl)]
    go_wp2
    go_ret
    rw [h3.out]
    exact ⟨_, rfl, OwnS.nil _ _ (by omega), by (repeat (first | (with_reducible exact Below.refl _ _) | (with_reducible assumption) | (refine Below.setCell ?_ (by first | omega | exact hB.size | exact hb.size | (have h := hB.size; simp; omega) | (have h := hb.size; simp; omega) | (simp; omega) | simp) _) | (refine Below.alloc ?_ (by first | omega | exact hB.size | exact hb.size | (have h := hB.size; simp; omega) | (have h := hb.size; simp; omega) | (simp; omega) | simp) _) | (refine Below.drew ?_)))⟩
  · go_wp2_with fail
    refine (spec_RecOk ⟨kind, nx, addr, val⟩ _).mono ?_
    rintro e w3 ⟨rfl, hb3⟩
    obtain ⟨hc, hfz⟩ := bcell hb3
    replace r0 := (hc _ _ (lt_of_cell r0)).trans r0
    replace r1 := (hc _ _ (lt_of_cell r1)).trans r1
    replace r2 := (hc _ _ (lt_of_cell r2)).trans r2
    replace r3 := (hc _ _ (lt_of_cell r3)).trans r3
    have hB3 := hB2.trans (hb3.mono hB2.size)
    have hz3 := hb3.size
    have hO3 := hO.below hb3 (Nat.le_refl _)
    clear hO hc hfz hb3
    by_cases hok : recOk ⟨kind, nx, addr, val⟩ = true
    · have h3 : Hid (wr f kind addr val = xs ++ [⟨3, 0, 0, bi, ⟨kind, nx, addr, val⟩⟩]) := by
        rw [Hid, hfin.out, if_neg (by intro h; rcases h with h | h; cases h; rw [hok] at h; cases h)]
      rw [hok]
      have hO4 := hO3.below ((Below.refl w3.heap.size _).alloc (Nat.le_refl _) (.cells #[.int .i64 3, .int .i64 0, .int .i64 0, .int .i64 bi, .int .i64 kind, .int .i64 nx, .int .i64 addr, .int .i64 val] 47)) (Nat.le_refl _)
      have hnb : ∀ q, v.ownBlock = some q → w1.heap.size ≤ q := fun q e => (World.ownsRow.lt hO3 q e).1
      clear hfin
      go_wp2_with (at_builtin; refine wpList_append_lies _ rfl (.tmp 34) (.tmp 38) _ rfl w1.heap.size 47 ib _ 8 64 Try.underlying37 hib hbz0 hbz1 hbz2 rfl (by omega) v xs.length (sps xs) rfl hO4 ⟨w3.heap.size, 0, none⟩ 1 1 (⟨3, 0, 0, bi, ⟨kind, nx, addr, val⟩⟩ : Sp).vs rfl rfl (World.news_of_block (cs := #[.int .i64 3, .int .i64 0, .int .i64 0, .int .i64 bi, .int .i64 kind, .int .i64 nx, .int .i64 addr, .int .i64 val]) (t := 47) (fr := (0, 0)) (heap_alloc_new w3 _)) (by simp [Value.oneCell', Sp.vs]) (by omega) (by unfold maxLen; omega) (by omega) (by simp; omega) (w3.heap.size + 1) (by simp) ?_; intro g2 c2 w4 hown2 hgrow2 hat2 hlt2)
      have hbb : Below w1.heap.size w3 w4 := ((Below.refl _ _).alloc (by omega) _).grown hgrow2 (by simp; omega) hnb
      have hOS := OwnS.snoc (x := ⟨3, 0, 0, bi, ⟨kind, nx, addr, val⟩⟩) rfl hown2
      go_ret
      rw [h3.out]
      exact ⟨_, rfl, hOS.mono (by omega), hB3.trans (hbb.mono (by omega))⟩
    · have hok' : recOk ⟨kind, nx, addr, val⟩ = false := by simpa using hok
      have h3 : Hid (wr f kind addr val = []) := by rw [Hid, hfin.out, if_pos (.inr hok')]
      rw [hok']
      go_wp2
      go_ret
      rw [h3.out]
      exact ⟨_, rfl, OwnS.nil _ _ (by omega), by (repeat (first | (with_reducible exact Below.refl _ _) | (with_reducible assumption) | (refine Below.setCell ?_ (by first | omega | exact hB.size | exact hb.size | (have h := hB.size; simp; omega) | (have h := hb.size; simp; omega) | (simp; omega) | simp) _) | (refine Below.alloc ?_ (by first | omega | exact hB.size | exact hb.size | (have h := hB.size; simp; omega) | (have h := hb.size; simp; omega) | (simp; omega) | simp) _) | (refine Below.drew ?_)))⟩
end Go.Proofs.Ytbekihiiildgmaa
namespace Go.Proofs.Ytbekihiiildgmaa
set_option linter.unusedVariables false
set_option linter.unusedSimpArgs false
open Go.RowKit Go.Maps
set_option maxHeartbeats 400000
theorem Fl.drew' {w : World} {A : Option Addr} {f : List Bk} (h : Fl w A f) : Fl w.drew A f := by obtain ⟨hs, h⟩ := h; exact ⟨hs, h.drew⟩
theorem sps_one (xs : List Sp) : ∀ v ∈ sps xs, v.oneCell' = true := by
  intro v hv
  unfold sps at hv
  obtain ⟨x, _, hx⟩ := List.mem_flatMap.1 hv
  unfold Sp.vs at hx
  simp at hx
  rcases hx with h | h | h | h | h | h | h | h <;> (subst h; rfl)
theorem OwnS.onto {w : World} {base g n c : Nat} {xs ys : List Sp} (hn : n = xs.length + ys.length) (h : w.ownsRow base 47 8 (.slice (some ⟨g, 0, none⟩) n c) n (sps xs ++ sps ys)) : OwnS w base (.slice (some ⟨g, 0, none⟩) n c) (xs ++ ys) := by
  subst hn
  unfold OwnS
  rw [List.length_append, sps, List.flatMap_append]
  exact h
theorem wr_len {f : List Bk} (hf : f.length = 4) (hp : ∀ b ∈ f, b.pages.length = 4) (k a v : Int) : (wr f k a v).length ≤ 6 := by
  have := room_len hf hp
  unfold wr
  split
  · simp
  · rw [List.length_append]; simp only [List.length_cons, List.length_nil]; omega
set_option maxHeartbeats 4000000 in
set_option maxRecDepth 100000 in
theorem spec_l12Flush (s : St) (a : Int) (A D : Option Addr) (c d : Nat) (w : World) (hf : s.flash.length = 4) (hp : ∀ b ∈ s.flash, b.pages.length = 4) (hm : ∀ b ∈ s.flash, most b < 1000000000000) (hd : s.disk.length = 6) (hF : Fl w A s.flash) (hD : Row w D (ints s.disk)) :
    Calls Try.prog 90 #[.agg #[.slice A 4 c, .slice D 6 d], .int .i64 a] w fun e w' => ∃ v, e = .returned v ∧ OwnS w' w.heap.size v (flush s a) ∧ Below w.heap.size w w' := by
  obtain ⟨ib, hib, hbz0, hbz1, hbz2⟩ := info_parts Try.info3_step
  have HL := Lib.hid hf
  have HP4 := Lib.hid hp
  have HM := Lib.hid hm
  have HD := Lib.hid hd
  have hl4 : s.flash.length < 1000000000000 := by omega
  have HP := Lib.hid (show ∀ b ∈ s.flash, b.pages.length < 1000000000000 from fun b hb => by rw [hp b hb]; omega)
  have hwl := wr_len hf hp 2 a (readV s a)
  have hfin : Hid (flush s a = if addrB a = false ∨ dirty s.flash a = false then [] else if wr s.flash 2 a (readV s a) = [] then [] else ⟨1, a, readV s a, 0, rc0⟩ :: wr s.flash 2 a (readV s a)) := rfl
  have hin : Hid ((decide (1 ≤ a) && decide (a ≤ 6)) = addrB a) := rfl
  clear hf hp hm hd
  go_enter Try.func90, Try.ntmps90
  go_wp2_with fail
  refine (spec_l6In _ _ _ _).mono ?_
  rintro e w1 ⟨rfl, rfl⟩
  rw [hin.out]
  by_cases ha : addrB a = true
  · have ha1 : 1 ≤ a ∧ a ≤ 6 := by unfold addrB at ha; simpa using ha
    rw [ha]
    obtain ⟨ha1, ha2⟩ := ha1
    go_wp2_with fail
    refine (spec_l11Dirty' _ s.flash a A D c 6 d _ HL.out.symm hl4 HP.out (hF.alloc _)).mono ?_
    rintro e w1 ⟨rfl, hb⟩
    have hB : Below w.heap.size w w1 := Below.trans (by (repeat (first | (with_reducible exact Below.refl _ _) | (with_reducible assumption) | (refine Below.setCell ?_ (by first | omega | exact hB.size | exact hb.size | (have h := hB.size; simp; omega) | (have h := hb.size; simp; omega) | (simp; omega) | simp) _) | (refine Below.alloc ?_ (by first | omega | exact hB.size | exact hb.size | (have h := hB.size; simp; omega) | (have h := hb.size; simp; omega) | (simp; omega) | simp) _) | (refine Below.drew ?_)))) (hb.mono (by simp))
    have hz : w.heap.size < w1.heap.size := by have := hb.size; simp at this; omega
    obtain ⟨hc, hfz⟩ := bcell hb
    have x0 : w1.cell? ⟨w.heap.size, 0, none⟩ = some (.slice A 4 c) := (hc _ _ (by simp)).trans (by simp)
    have x1 : w1.cell? ⟨w.heap.size, 1, none⟩ = some (.slice D 6 d) := (hc _ _ (by simp)).trans (by simp)
    clear hb hc hfz
    by_cases hdy : dirty s.flash a = true
    · rw [hdy]
      go_wp2_with fail
      refine (spec_l11Read' _ s a A D c d _ HL.out.symm hl4 HP.out HD.out ha1 ha2 (hF.below hB (Nat.le_refl _)) (hD.below hB (Nat.le_refl _))).mono ?_
      rintro e w2 ⟨rfl, hb⟩
      have hB2 := hB.trans (hb.mono hB.size)
      have hz2 := hb.size
      replace x0 := (hb.cell (p := ⟨w.heap.size, 0, none⟩) hz).trans x0
      replace x1 := (hb.cell (p := ⟨w.heap.size, 1, none⟩) hz).trans x1
      clear hB hb
      generalize readV s a = val at *
      go_wp2_with fail
      refine (spec_l12Write s.flash 2 a val A D c 6 d _ HL.out HP4.out HM.out (hF.below hB2 (Nat.le_refl _))).mono ?_
      rintro e w3 ⟨v, rfl, hO, hb⟩
      have hB3 := hB2.trans (hb.mono hB2.size)
      have hz3 := hb.size
      have h3 : Hid (flush s a = if wr s.flash 2 a val = [] then [] else ⟨1, a, val, 0, rc0⟩ :: wr s.flash 2 a val) := by
        rw [Hid, hfin.out, if_neg (by rw [ha, hdy]; simp)]
      generalize wr s.flash 2 a val = xs at *
      obtain ⟨A2, c2, rfl, hcap, hRow, hblk⟩ := hO.shape
      clear hfin hb hB2 x0 x1
      by_cases hx : xs = []
      · subst hx
        have h4 : Hid (flush s a = []) := by rw [Hid, h3.out, if_pos rfl]
        go_wp2
        go_ret
        rw [h4.out]
        exact ⟨_, rfl, hO.mono (by omega), hB3⟩
      · have h4 : Hid (flush s a = [⟨1, a, val, 0, rc0⟩] ++ xs) := by rw [Hid, h3.out, if_neg hx]; rfl
        have hlen : 0 < xs.length := List.length_pos_iff.2 hx
        have hle : ((xs.length : Int) == 0) = false := by rw [beq_eq_false_iff_ne]; omega
        obtain ⟨g2, o2, rfl⟩ := hRow.addr (by intro e; have := sps_len xs; rw [e] at this; simp at this; omega)
        have hlit : OwnS (w3.alloc (.cells #[.int .i64 1, .int .i64 a, .int .i64 val, .int .i64 0, .int .i64 0, .int .i64 0, .int .i64 0, .int .i64 0] 47)) w.heap.size (.slice (some ⟨w3.heap.size, 0, none⟩) 1 1) [⟨1, a, val, 0, rc0⟩] := World.ownsRow_lit w3 #[.int .i64 1, .int .i64 a, .int .i64 val, .int .i64 0, .int .i64 0, .int .i64 0, .int .i64 0, .int .i64 0] 1 (by omega) (by unfold maxLen; omega) rfl
        clear h3
        go_wp2_with (at_builtin; refine wpList_append_lies _ rfl (.tmp 31) (.tmp 32) _ rfl w.heap.size 47 ib _ 8 64 Try.underlying37 hib hbz0 hbz1 hbz2 rfl (by omega) (.slice (some ⟨w3.heap.size, 0, none⟩) 1 1) 1 (sps [⟨1, a, val, 0, rc0⟩]) rfl hlit ⟨g2, o2, none⟩ xs.length c2 (sps xs) rfl (sps_len xs) ((hRow.alloc _).news) (sps_one xs) hlen (by unfold maxLen; omega) (by omega) (by simp; omega) (w3.heap.size + 1) (by simp) ?_; intro g3 c3 w4 hown2 hgrow2 hat2 hlt2)
        have hbb : Below w3.heap.size w3 w4 := ((Below.refl _ _).alloc (by omega) _).grown hgrow2 (by simp) (by intro q e; cases e; exact Nat.le_refl _)
        have hOS := OwnS.onto (xs := [⟨1, a, val, 0, rc0⟩]) rfl hown2
        go_ret
        rw [h4.out]
        exact ⟨_, rfl, hOS, hB3.trans (hbb.mono (by omega))⟩
    · have hdy' : dirty s.flash a = false := by simpa using hdy
      have h3 : Hid (flush s a = []) := by rw [Hid, hfin.out, if_pos (.inr hdy')]
      rw [hdy']
      go_wp2
      go_ret
      rw [h3.out]
      exact ⟨_, rfl, OwnS.nil _ _ (by omega), by (repeat (first | (with_reducible exact Below.refl _ _) | (with_reducible assumption) | (refine Below.setCell ?_ (by first | omega | exact hB.size | exact hb.size | (have h := hB.size; simp; omega) | (have h := hb.size; simp; omega) | (simp; omega) | simp) _) | (refine Below.alloc ?_ (by first | omega | exact hB.size | exact hb.size | (have h := hB.size; simp; omega) | (have h := hb.size; simp; omega) | (simp; omega) | simp) _) | (refine Below.drew ?_)))⟩
  · have ha' : addrB a = false := by simpa using ha
    have h3 : Hid (flush s a = []) := by rw [Hid, hfin.out, if_pos (.inl ha')]
    rw [ha']
    go_wp2
    go_ret
    rw [h3.out]
    refine ⟨_, rfl, ?_, by (repeat (first | (with_reducible exact Below.refl _ _) | (with_reducible assumption) | (refine Below.setCell ?_ (by first | omega | exact hB.size | exact hb.size | (have h := hB.size; simp; omega) | (have h := hb.size; simp; omega) | (simp; omega) | simp) _) | (refine Below.alloc ?_ (by first | omega | exact hB.size | exact hb.size | (have h := hB.size; simp; omega) | (have h := hb.size; simp; omega) | (simp; omega) | simp) _) | (refine Below.drew ?_)))⟩
    have := OwnS.nil (w.alloc (.cells #[.slice A 4 c, .slice D 6 d] 26)) w.heap.size (by simp)
    simp only [World.size_alloc] at this
    exact this
set_option maxHeartbeats 4000000 in
set_option maxRecDepth 100000 in
theorem spec_l12Fill (s : St) (a : Int) (A D : Option Addr) (c d : Nat) (w : World) (hf : s.flash.length = 4) (hp : ∀ b ∈ s.flash, b.pages.length = 4) (hm : ∀ b ∈ s.flash, most b < 1000000000000) (hd : s.disk.length = 6) (hF : Fl w A s.flash) (hD : Row w D (ints s.disk)) :
    Calls Try.prog 92 #[.agg #[.slice A 4 c, .slice D 6 d], .int .i64 a] w fun e w' => ∃ v, e = .returned v ∧ OwnS w' w.heap.size v (fill s a) ∧ Below w.heap.size w w' := by
  have HL := Lib.hid hf
  have HP4 := Lib.hid hp
  have HM := Lib.hid hm
  have hl4 : s.flash.length < 1000000000000 := by omega
  have HP := Lib.hid (show ∀ b ∈ s.flash, b.pages.length < 1000000000000 from fun b hb => by rw [hp b hb]; omega)
  have hin : Hid ((decide (1 ≤ a) && decide (a ≤ 6)) = addrB a) := rfl
  have hnil : OwnS ((w.alloc (.cells #[.slice A 4 c, .slice D 6 d] 26)).alloc (.cells #[] 47)) w.heap.size (.slice (some ⟨w.heap.size + 1, 0, none⟩) 0 0) [] := by
    have := OwnS.nil (w.alloc (.cells #[.slice A 4 c, .slice D 6 d] 26)) w.heap.size (by simp)
    simp only [World.size_alloc] at this
    exact this
  have hfin : Hid (fill s a = if addrB a = false ∨ 0 < (last s.flash a).seq then [] else wr s.flash 2 a (s.disk.getD (a - 1).toNat 0)) := rfl
  clear hf hp hm
  by_cases ha : addrB a = true
  · have ha1 : 1 ≤ a ∧ a ≤ 6 := by unfold addrB at ha; simpa using ha
    obtain ⟨ha1, ha2⟩ := ha1
    obtain ⟨i, rfl⟩ : ∃ i : Nat, a = i + 1 := ⟨(a - 1).toNat, by omega⟩
    have hi : i < 6 := by omega
    obtain ⟨v, hv⟩ := get_some (l := s.disk) (k := i) (by omega)
    have hgd : s.disk.getD ((i : Int) + 1 - 1).toNat 0 = v := by rw [show ((i : Int) + 1 - 1).toNat = i by omega, List.getD_eq_getElem?_getD, hv]; rfl
    rw [hgd] at hfin
    have hn1 : ints s.disk ≠ [] := by
      intro e
      have := congrArg List.length e
      rw [ints_len, hd] at this
      simp at this
    obtain ⟨db, dO, rfl⟩ := hD.addr hn1
    have hi6 : (i : Int) < 6 := by omega
    have HV := Lib.hid hv
    clear hv hgd hn1 hd hnil
    go_enter Try.func92, Try.ntmps92
    go_wp2_with fail
    refine (spec_l6In _ _ _ _).mono ?_
    rintro e w1 ⟨rfl, rfl⟩
    rw [hin.out, ha]
    go_wp2_with fail
    refine (spec_l3Last' _ s.flash (i + 1) A c _ HL.out.symm hl4 HP.out (hF.alloc _)).mono ?_
    rintro e w1 ⟨rfl, hb⟩
    have hB : Below w.heap.size w w1 := Below.trans (by (repeat (first | (with_reducible exact Below.refl _ _) | (with_reducible assumption) | (refine Below.setCell ?_ (by first | omega | exact hB.size | exact hb.size | (have h := hB.size; simp; omega) | (have h := hb.size; simp; omega) | (simp; omega) | simp) _) | (refine Below.alloc ?_ (by first | omega | exact hB.size | exact hb.size | (have h := hB.size; simp; omega) | (have h := hb.size; simp; omega) | (simp; omega) | simp) _) | (refine Below.drew ?_)))) (hb.mono (by simp))
    have hz : w.heap.size < w1.heap.size := by have := hb.size; simp at this; omega
    obtain ⟨hc, hfz⟩ := bcell hb
    have x0 : w1.cell? ⟨w.heap.size, 0, none⟩ = some (.slice A 4 c) := (hc _ _ (by simp)).trans (by simp)
    have x1 : w1.cell? ⟨w.heap.size, 1, none⟩ = some (.slice (some ⟨db, dO, none⟩) 6 d) := (hc _ _ (by simp)).trans (by simp)
    obtain ⟨hcv, _⟩ := (hD.below hB (Nat.le_refl _)).int_ HV.out
    have hdb := lt_of_cell hcv
    have hFz := hF.below hB (Nat.le_refl _)
    clear hb hc hfz
    generalize last s.flash (i + 1) = x at *
    by_cases h1 : 0 < x.seq
    · have h3 : Hid (fill s (i + 1) = []) := by rw [Hid, hfin.out, if_pos (.inr h1)]
      go_wp2
      go_ret
      rw [h3.out]
      refine ⟨_, rfl, ?_, by (repeat (first | (with_reducible exact Below.refl _ _) | (with_reducible assumption) | (refine Below.setCell ?_ (by first | omega | exact hB.size | exact hb.size | (have h := hB.size; simp; omega) | (have h := hb.size; simp; omega) | (simp; omega) | simp) _) | (refine Below.alloc ?_ (by first | omega | exact hB.size | exact hb.size | (have h := hB.size; simp; omega) | (have h := hb.size; simp; omega) | (simp; omega) | simp) _) | (refine Below.drew ?_)))⟩
      have := OwnS.nil (w1.alloc (.cells #[.int .i64 x.kind, .int .i64 x.seq, .int .i64 x.addr, .int .i64 x.val] 45)) w.heap.size (by simp; omega)
      simp only [World.size_alloc] at this
      exact this
    · have h3 : Hid (fill s (i + 1) = wr s.flash 2 (i + 1) v) := by
        rw [Hid, hfin.out, if_neg (by intro h; rcases h with h | h; rw [ha] at h; cases h; exact h1 h)]
      have e1 : IntKind.i64.wrap ((i : Int) + 1 - 1) = i := by rw [show (i : Int) + 1 - 1 = i by omega]; exact IntWalk.i64_in _ (by omega)
      have e2 : IntKind.i64.wrap (i : Int) = i := IntWalk.i64_in _ (by omega)
      have e3 : (i : Int) + 1 - 1 = i := by omega
      have e4 : (0 : Int) ≤ i := by omega
      clear hfin
      go_wp2
      go_region_with (first | (go_at_call 80; with_reducible refine (spec_l12Write s.flash 2 (i + 1) v A (some ⟨db, dO, none⟩) c 6 d _ HL.out HP4.out HM.out (Fl.drew' (hFz.alloc _))).mono ?_; rintro e w2 ⟨u, rfl, hO, hb2⟩))
      all_goals
        have hle : w.heap.size ≤ (w1.alloc (.cells #[.int .i64 x.kind, .int .i64 x.seq, .int .i64 x.addr, .int .i64 x.val] 45)).drew.heap.size := by show w.heap.size ≤ (w1.alloc _).heap.size; simp; omega
        have hB2 : Below w.heap.size w w2 := ((hB.alloc hB.size _).drew).trans (hb2.mono hle)
        clear hb2
        go_wp2
        go_ret
        rw [h3.out]
        exact ⟨_, rfl, hO.mono hle, hB2⟩
  · have ha' : addrB a = false := by simpa using ha
    have h3 : Hid (fill s a = []) := by rw [Hid, hfin.out, if_pos (.inl ha')]
    go_enter Try.func92, Try.ntmps92
    go_wp2_with fail
    refine (spec_l6In _ _ _ _).mono ?_
    rintro e w1 ⟨rfl, rfl⟩
    rw [hin.out, ha']
    go_wp2
    go_ret
    rw [h3.out]
    exact ⟨_, rfl, hnil, by (repeat (first | (with_reducible exact Below.refl _ _) | (with_reducible assumption) | (refine Below.setCell ?_ (by first | omega | exact hB.size | exact hb.size | (have h := hB.size; simp; omega) | (have h := hb.size; simp; omega) | (simp; omega) | simp) _) | (refine Below.alloc ?_ (by first | omega | exact hB.size | exact hb.size | (have h := hB.size; simp; omega) | (have h := hb.size; simp; omega) | (simp; omega) | simp) _) | (refine Below.drew ?_)))⟩
end Go.Proofs.Ytbekihiiildgmaa
namespace Go.Proofs.Ytbekihiiildgmaa
set_option linter.unusedVariables false
set_option linter.unusedSimpArgs false
open Go.RowKit Go.Maps
set_option maxHeartbeats 400000
/-- all blocks but one are alike -/
def others (f g : List Bk) (k : Int) : Prop := f.length = g.length ∧ ∀ j : Nat, (j : Int) ≠ k → f[j]? = g[j]?
end Go.Proofs.Ytbekihiiildgmaa
namespace Go.Proofs.Ytbekihiiildgmaa
set_option linter.unusedVariables false
set_option linter.unusedSimpArgs false
open Go.RowKit Go.Maps
set_option maxHeartbeats 400000
theorem laws_eqRec (r s : Rc) (w : World) : Calls Try.prog 146 #[.agg #[.int .i64 r.kind, .int .i64 r.seq, .int .i64 r.addr, .int .i64 r.val], .agg #[.int .i64 s.kind, .int .i64 s.seq, .int .i64 s.addr, .int .i64 s.val]] w fun e w' => e = .returned (.bool (decide (r = s))) ∧ Below w.heap.size w w' := by
  obtain ⟨k, q, a, v⟩ := r
  obtain ⟨k', q', a', v'⟩ := s
  dsimp only
  go_enter Try.func146, Try.ntmps146
  go_wp2
  all_goals (go_ret; exact ⟨ret_bool (by simp_all), ((Below.refl _ _).alloc (Nat.le_refl _) _).alloc (by simp) _⟩)
theorem laws_eqPage (p q : Pg) (w : World) : Calls Try.prog 166 #[.agg #[.int .i64 p.state, .int .i64 p.rc.kind, .int .i64 p.rc.seq, .int .i64 p.rc.addr, .int .i64 p.rc.val], .agg #[.int .i64 q.state, .int .i64 q.rc.kind, .int .i64 q.rc.seq, .int .i64 q.rc.addr, .int .i64 q.rc.val]] w
    fun e w' => e = .returned (.bool (decide (p = q))) ∧ Below w.heap.size w w' := by
  obtain ⟨st, r⟩ := p
  obtain ⟨st', s⟩ := q
  dsimp only
  by_cases hst : st = st'
  · subst hst
    have hq : Hid (decide ((⟨st, r⟩ : Pg) = ⟨st, s⟩) = decide (r = s)) := by unfold Hid; simp
    go_enter Try.func166, Try.ntmps166
    go_wp2_with (go_at_call 146; refine (laws_eqRec r s _).mono ?_; rintro e w1 ⟨rfl, hb⟩)
    all_goals (go_ret; exact ⟨ret_bool (by rw [hq.out]; simp_all), (((Below.refl _ _).alloc (Nat.le_refl _) _).alloc (by simp) _).trans (hb.mono (by simp; omega))⟩)
  · have hq : Hid (decide ((⟨st, r⟩ : Pg) = ⟨st', s⟩) = false) := by unfold Hid; simp [hst]
    go_enter Try.func166, Try.ntmps166
    go_wp2
    go_ret
    exact ⟨ret_bool hq.out.symm, ((Below.refl _ _).alloc (Nat.le_refl _) _).alloc (by simp) _⟩
theorem eq_drop {α : Type} [DecidableEq α] {l m : List α} {k : Nat} {x y : α} (hx : l[k]? = some x) (hy : m[k]? = some y) : decide (l.drop k = m.drop k) = (decide (x = y) && decide (l.drop (k + 1) = m.drop (k + 1))) := by
  rw [drop_cons hx, drop_cons hy, Bool.eq_iff_iff]
  simp
theorem laws_eqPageS (A A' : Option Addr) (c c' : Nat) (ps qs : List Pg) (w : World) (hl : ps.length < 1000000000000) (hl' : qs.length < 1000000000000) (hR : Row w A (pgs ps)) (hR' : Row w A' (pgs qs)) :
    Calls Try.prog 162 #[.slice A ps.length c, .slice A' qs.length c'] w fun e w' => e = .returned (.bool (decide (ps = qs))) ∧ Below w.heap.size w w' := by
  by_cases hn : ps.length = qs.length
  · have HN := Lib.hid hn
    rw [← hn]
    clear hn hl'
    go_enter Try.func162, Try.ntmps162
    go_wp2
    go_loopw [5] (fun i wr => ∃ (k : Nat), k ≤ ps.length ∧ i = .int .i64 k ∧ Below w.heap.size w wr ∧ Hid (decide (ps = qs) = decide (ps.drop k = qs.drop k))) (fun i _ => ps.length - (intOf i).toNat)
    case atStart => exact ⟨0, by omega, rfl, Below.refl _ _, by simp [Hid]⟩
    case round =>
      obtain ⟨k, hk, rfl, hb, hg⟩ := hrel
      by_cases hlt : k < ps.length
      · obtain ⟨p, hp⟩ := get_some hlt
        obtain ⟨q, hq⟩ := get_some (l := qs) (k := k) (by have := HN.out; omega)
        have hd := Lib.hid (eq_drop hp hq)
        obtain ⟨b, o, rfl⟩ := hR.addr (pgs_ne (by rintro rfl; simp at hlt))
        obtain ⟨b', o', rfl⟩ := hR'.addr (pgs_ne (by rintro rfl; simp at hq))
        have hRk := hR.below hb (Nat.le_refl _)
        have hRk' := hR'.below hb (Nat.le_refl _)
        obtain ⟨c0, c1, c2, c3, c4⟩ := hRk.pg hp
        obtain ⟨d0, d1, d2, d3, d4⟩ := hRk'.pg hq
        have hk1 : (k : Int) < ps.length := by omega
        have HP := Lib.hid hp
        have HQ := Lib.hid hq
        clear hp hq
        go_wp2
        go_region_held3 (fun w' => w'.cell? ⟨b, o + k * 5, none⟩ = some (.int .i64 p.state) ∧ w'.cell? ⟨b, o + k * 5 + 1, none⟩ = some (.int .i64 p.rc.kind) ∧ w'.cell? ⟨b, o + k * 5 + 2, none⟩ = some (.int .i64 p.rc.seq) ∧ w'.cell? ⟨b, o + k * 5 + 3, none⟩ = some (.int .i64 p.rc.addr) ∧ w'.cell? ⟨b, o + k * 5 + 4, none⟩ = some (.int .i64 p.rc.val) ∧
            w'.cell? ⟨b', o' + k * 5, none⟩ = some (.int .i64 q.state) ∧ w'.cell? ⟨b', o' + k * 5 + 1, none⟩ = some (.int .i64 q.rc.kind) ∧ w'.cell? ⟨b', o' + k * 5 + 2, none⟩ = some (.int .i64 q.rc.seq) ∧ w'.cell? ⟨b', o' + k * 5 + 3, none⟩ = some (.int .i64 q.rc.addr) ∧ w'.cell? ⟨b', o' + k * 5 + 4, none⟩ = some (.int .i64 q.rc.val))
          (first | go_keep | trivial)
          (first | (go_at_call 166; refine (laws_eqPage p q _).mono ?_; rintro e w1 ⟨rfl, hb1⟩; replace hb1 := undrew hb1; obtain ⟨e0, e1, e2, e3, e4⟩ := (hRk.below hb1 (Nat.le_refl _)).pg HP.out; obtain ⟨g0, g1, g2, g3, g4⟩ := (hRk'.below hb1 (Nat.le_refl _)).pg HQ.out))
        have hB1 := hb.trans (hb1.mono hb.size)
        go_wp2
        · have hne : (!decide (p = q)) = true := by assumption
          have hne' : decide (p = q) = false := by simpa using hne
          go_ret
          exact ⟨ret_bool (by rw [hg.out, hd.out, hne']; rfl), hB1⟩
        · have heq : (!decide (p = q)) = false := by assumption
          have heq' : decide (p = q) = true := by simpa using heq
          go_roundw
          case rel => exact ⟨k + 1, by omega, by go_num, hB1, by rw [Hid, hg.out, hd.out, heq', Bool.true_and]⟩
          case measure => simp [intOf]; omega
      · obtain rfl : k = ps.length := by omega
        go_wp2
        go_ret
        exact ⟨ret_bool (by rw [hg.out, List.drop_of_length_le (Nat.le_refl _), List.drop_of_length_le (by have := HN.out; omega)]; rfl), hb⟩
  · have hq : Hid (decide (ps = qs) = false) := by unfold Hid; simp; intro e; exact hn (by rw [e])
    go_enter Try.func162, Try.ntmps162
    go_wp2
    go_ret
    exact ⟨ret_bool hq.out.symm, Below.refl _ _⟩
theorem laws_eqBlock (a b : Bk) (A A' : Option Addr) (c c' : Nat) (w : World) (hl : a.pages.length < 1000000000000) (hl' : b.pages.length < 1000000000000) (hR : Row w A (pgs a.pages)) (hR' : Row w A' (pgs b.pages)) :
    Calls Try.prog 145 #[.agg #[.slice A a.pages.length c, .int .i64 a.worn], .agg #[.slice A' b.pages.length c', .int .i64 b.worn]] w fun e w' => e = .returned (.bool (decide (a = b))) ∧ Below w.heap.size w w' := by
  obtain ⟨ps, n⟩ := a
  obtain ⟨qs, m⟩ := b
  dsimp only at *
  have hB0 : Below w.heap.size w ((w.alloc (.cells #[.slice A ps.length c, .int .i64 n] 137)).alloc (.cells #[.slice A' qs.length c', .int .i64 m] 137)) := ((Below.refl _ _).alloc (Nat.le_refl _) _).alloc (by simp) _
  go_enter Try.func145, Try.ntmps145
  go_wp2_with fail
  refine (laws_eqPageS A A' c c' ps qs _ hl hl' ((hR.alloc _).alloc _) ((hR'.alloc _).alloc _)).mono ?_
  rintro e w1 ⟨rfl, hb1⟩
  have hB1 := hB0.trans (hb1.mono hB0.size)
  have x1 : w1.cell? ⟨w.heap.size, 1, none⟩ = some (.int .i64 n) := (hb1.cell (by simp; omega)).trans (by simp)
  have y1 : w1.cell? ⟨w.heap.size + 1, 1, none⟩ = some (.int .i64 m) := (hb1.cell (by simp)).trans (by simp)
  clear hb1 hB0
  by_cases hpq : ps = qs
  · subst hpq
    have hq : Hid (∀ x, x = decide (n = m) → decide ((⟨ps, n⟩ : Bk) = ⟨ps, m⟩) = x) := by intro x hx; rw [hx]; simp
    rw [show decide (ps = ps) = true from by simp]
    go_wp2
    all_goals (go_ret; exact ⟨ret_bool (hq.out _ (by simp_all)).symm, hB1⟩)
  · have hq : Hid (decide ((⟨ps, n⟩ : Bk) = ⟨qs, m⟩) = false) := by unfold Hid; simp [hpq]
    rw [show decide (ps = qs) = false from by simpa using hpq]
    clear hpq
    go_wp2
    go_ret
    exact ⟨ret_bool hq.out.symm, hB1⟩
set_option maxHeartbeats 1000000 in
theorem laws_eqBlockS (A A' : Option Addr) (c c' : Nat) (f g : List Bk) (w : World) (hl : f.length < 1000000000000) (hl' : g.length < 1000000000000) (hp : ∀ b ∈ f, b.pages.length < 1000000000000) (hp' : ∀ b ∈ g, b.pages.length < 1000000000000) (hF : Fl w A f) (hF' : Fl w A' g) :
    Calls Try.prog 100 #[.slice A f.length c, .slice A' g.length c'] w fun e w' => e = .returned (.bool (decide (f = g))) ∧ Below w.heap.size w w' := by
  obtain ⟨hs, hF⟩ := hF
  obtain ⟨ks, hF'⟩ := hF'
  by_cases hn : f.length = g.length
  · have HN := Lib.hid hn
    have HP := Lib.hid hp
    have HP' := Lib.hid hp'
    rw [← hn]
    clear hn hl' hp hp'
    go_enter Try.func100, Try.ntmps100
    go_wp2
    go_loopw [5] (fun i wr => ∃ (k : Nat), k ≤ f.length ∧ i = .int .i64 k ∧ Below w.heap.size w wr ∧ Hid (decide (f = g) = decide (f.drop k = g.drop k))) (fun i _ => f.length - (intOf i).toNat)
    case atStart => exact ⟨0, by omega, rfl, Below.refl _ _, by simp [Hid]⟩
    case round =>
      obtain ⟨k, hk, rfl, hb, hg⟩ := hrel
      by_cases hlt : k < f.length
      · obtain ⟨p, hp⟩ := get_some hlt
        obtain ⟨q, hq⟩ := get_some (l := g) (k := k) (by have := HN.out; omega)
        have hd := Lib.hid (eq_drop hp hq)
        have hpl := HP.out p (List.mem_of_getElem? hp)
        have hql := HP'.out q (List.mem_of_getElem? hq)
        obtain ⟨b, o, rfl⟩ := hF.addr (by rintro rfl; simp at hlt)
        obtain ⟨b', o', rfl⟩ := hF'.addr (by rintro rfl; simp at hq)
        have hFk := hF.below hb (Nat.le_refl _)
        have hFk' := hF'.below hb (Nat.le_refl _)
        obtain ⟨⟨Ap, cp⟩, _, c0, c1, _, _, hRp, _⟩ := hFk.at_ hp
        obtain ⟨⟨Aq, cq⟩, _, d0, d1, _, _, hRq, _⟩ := hFk'.at_ hq
        have hk1 : (k : Int) < f.length := by omega
        dsimp only at *
        have hbb := lt_of_cell c0
        have hbb' := lt_of_cell d0
        clear hp hq
        go_wp2
        go_region_held3 (fun w' => w'.cell? ⟨b, o + k * 2, none⟩ = some (.slice Ap p.pages.length cp) ∧ w'.cell? ⟨b, o + k * 2 + 1, none⟩ = some (.int .i64 p.worn) ∧ w'.cell? ⟨b', o' + k * 2, none⟩ = some (.slice Aq q.pages.length cq) ∧ w'.cell? ⟨b', o' + k * 2 + 1, none⟩ = some (.int .i64 q.worn))
          (first | go_keep | trivial)
          (first | (go_at_call 145; refine (laws_eqBlock p q Ap Aq cp cq _ hpl hql hRp.drew hRq.drew).mono ?_; rintro e w1 ⟨rfl, hb1⟩; replace hb1 := undrew hb1; have e0 := (hb1.cell (p := ⟨b, o + k * 2, none⟩) hbb).trans c0; have e1 := (hb1.cell (p := ⟨b, o + k * 2 + 1, none⟩) hbb).trans c1; have g0 := (hb1.cell (p := ⟨b', o' + k * 2, none⟩) hbb').trans d0; have g1 := (hb1.cell (p := ⟨b', o' + k * 2 + 1, none⟩) hbb').trans d1))
        have hB1 := hb.trans (hb1.mono hb.size)
        go_wp2
        · have hne : (!decide (p = q)) = true := by assumption
          have hne' : decide (p = q) = false := by simpa using hne
          go_ret
          exact ⟨ret_bool (by rw [hg.out, hd.out, hne']; rfl), hB1⟩
        · have heq : (!decide (p = q)) = false := by assumption
          have heq' : decide (p = q) = true := by simpa using heq
          go_roundw
          case rel => exact ⟨k + 1, by omega, by go_num, hB1, by rw [Hid, hg.out, hd.out, heq', Bool.true_and]⟩
          case measure => simp [intOf]; omega
      · obtain rfl : k = f.length := by omega
        go_wp2
        go_ret
        exact ⟨ret_bool (by rw [hg.out, List.drop_of_length_le (Nat.le_refl _), List.drop_of_length_le (by have := HN.out; omega)]; rfl), hb⟩
  · have hq : Hid (decide (f = g) = false) := by unfold Hid; simp; intro e; exact hn (by rw [e])
    go_enter Try.func100, Try.ntmps100
    go_wp2
    go_ret
    exact ⟨ret_bool hq.out.symm, Below.refl _ _⟩
end Go.Proofs.Ytbekihiiildgmaa
namespace Go.Proofs.Ytbekihiiildgmaa
set_option linter.unusedVariables false
set_option linter.unusedSimpArgs false
open Go.RowKit Go.Maps
set_option maxHeartbeats 400000
def markPs : Int → List Pg → List Pg
  | _, [] => []
  | k, _ :: ps => ⟨k, ⟨k + 1, k + 1 + 1, k + 1 + 1 + 1, k + 1 + 1 + 1 + 1⟩⟩ :: markPs (k + 1 + 1 + 1 + 1 + 1) ps
def endPs : Int → List Pg → Int
  | k, [] => k
  | k, _ :: ps => endPs (k + 1 + 1 + 1 + 1 + 1) ps
def markFl : Int → List Bk → List Bk
  | _, [] => []
  | k, b :: f => ⟨markPs k b.pages, endPs k b.pages⟩ :: markFl (endPs k b.pages + 1) f
def endFl : Int → List Bk → Int
  | k, [] => k
  | k, b :: f => endFl (endPs k b.pages + 1) f
theorem endPs_eq : ∀ (ps : List Pg) (k : Int), endPs k ps = k + 5 * ps.length
  | [], k => by simp [endPs]
  | _ :: ps, k => by rw [endPs, endPs_eq ps]; simp only [List.length_cons]; omega
theorem markPs_len : ∀ (ps : List Pg) (k : Int), (markPs k ps).length = ps.length
  | [], _ => rfl
  | _ :: ps, k => by simp [markPs, markPs_len ps]
theorem markFl_len : ∀ (f : List Bk) (k : Int), (markFl k f).length = f.length
  | [], _ => rfl
  | _ :: f, k => by simp [markFl, markFl_len f]
theorem markPs_at : ∀ (ps : List Pg) (k : Int) (j : Nat) (p : Pg), ps[j]? = some p → (markPs k ps)[j]? = some ⟨k + 5 * j, ⟨k + 5 * j + 1, k + 5 * j + 1 + 1, k + 5 * j + 1 + 1 + 1, k + 5 * j + 1 + 1 + 1 + 1⟩⟩
  | [], _, _, _, h => by simp at h
  | q :: ps, k, 0, p, h => by simp [markPs]
  | q :: ps, k, j + 1, p, h => by
    rw [markPs, List.getElem?_cons_succ, markPs_at ps _ j p (by simpa using h), show k + 1 + 1 + 1 + 1 + 1 + 5 * (j : Int) = k + 5 * ((j + 1 : Nat) : Int) by omega]
/-- the marks behind j pages, the old pages from there on -/
theorem mark_step (ps : List Pg) (k : Int) (j : Nat) (h : j < ps.length) : ((markPs k ps).take j ++ ps.drop j).set j ⟨k + 5 * j, ⟨k + 5 * j + 1, k + 5 * j + 1 + 1, k + 5 * j + 1 + 1 + 1, k + 5 * j + 1 + 1 + 1 + 1⟩⟩ = (markPs k ps).take (j + 1) ++ ps.drop (j + 1) := by
  have hl := markPs_len ps k
  obtain ⟨p, hp⟩ := get_some h
  rw [List.set_append_right _ _ (by simp; omega), show j - ((markPs k ps).take j).length = 0 by simp; omega, List.drop_eq_getElem_cons h, List.set_cons_zero, List.take_add_one, markPs_at ps k j p hp]
  simp
theorem laws_markPageS (A : Option Addr) (c : Nat) (ps : List Pg) (k : Int) (w : World) (hl : ps.length < 1000000000000) (h0 : 0 ≤ k) (h1 : k < 1000000000000000) (hR : Row w A (pgs ps)) :
    Calls Try.prog 147 #[.slice A ps.length c, .int .i64 k] w fun e w' => e = .returned (.int .i64 (endPs k ps)) ∧ Row w' A (pgs (markPs k ps)) ∧ Agr (blk A) w w' := by
  go_enter Try.func147, Try.ntmps147
  go_wp2
  go_loopw [1, 5] (fun q i wr => ∃ (j : Nat), j ≤ ps.length ∧ i = .int .i64 j ∧ q = .int .i64 (k + 5 * j) ∧ Row wr A (pgs ((markPs k ps).take j ++ ps.drop j)) ∧ Agr (blk A) w wr) (fun _ i _ => ps.length - (intOf i).toNat)
  case atStart => exact ⟨0, by omega, rfl, by simp, by simpa using hR, Agr.refl _ _⟩
  case round =>
    obtain ⟨j, hj, rfl, rfl, hr, hA⟩ := hrel
    have hml := Lib.hid (markPs_len ps k)
    by_cases hlt : j < ps.length
    · obtain ⟨b, o, rfl⟩ := hR.addr (pgs_ne (by rintro rfl; simp at hlt))
      obtain ⟨q, hq⟩ := get_some (l := (markPs k ps).take j ++ ps.drop j) (k := j) (by have := hml.out; simp; omega)
      obtain ⟨c0, c1, c2, c3, c4⟩ := hr.pg hq
      obtain ⟨f0, f1, f2, f3, f4⟩ := hr.pgf hq
      have hW := wrote_page hr hq ⟨k + 5 * j, ⟨k + 5 * j + 1, k + 5 * j + 1 + 1, k + 5 * j + 1 + 1 + 1, k + 5 * j + 1 + 1 + 1 + 1⟩⟩
      have hr2 := hr.setPage (k := j) (by have := hml.out; simp; omega) hW
      rw [mark_step ps k j hlt] at hr2
      have hA2 := hA.trans hW.agr (fun _ _ e => by rw [e]; exact blk_some.2 rfl)
      have hj1 : (j : Int) < ps.length := by omega
      clear hW hq
      go_wp2
      go_roundw
      case rel => exact ⟨j + 1, by omega, by go_num, by congr 1; omega, hr2, hA2⟩
      case measure => simp [intOf]; omega
    · obtain rfl : j = ps.length := by omega
      go_wp2
      go_ret
      rw [List.take_of_length_le (by rw [hml.out]; exact Nat.le_refl _), List.drop_of_length_le (Nat.le_refl _), List.append_nil] at hr
      exact ⟨ret_int (endPs_eq ps k).symm, hr, hA⟩
theorem endFl_le (P : Int) : ∀ (f : List Bk) (k : Int), (∀ b ∈ f, (b.pages.length : Int) ≤ P) → endFl k f ≤ k + (5 * P + 1) * f.length
  | [], k, _ => by simp [endFl]
  | b :: f, k, h => by
    have h1 := endPs_eq b.pages k
    have h2 := endFl_le P f (endPs k b.pages + 1) (fun c hc => h c (List.mem_cons_of_mem _ hc))
    have h3 := h b (List.mem_cons_self ..)
    rw [endFl, List.length_cons]
    have e : (5 * P + 1) * ((f.length + 1 : Nat) : Int) = (5 * P + 1) * f.length + (5 * P + 1) := by rw [Int.natCast_add, Int.mul_add]; simp
    rw [e]; omega
theorem endFl_ge : ∀ (f : List Bk) (k : Int), k ≤ endFl k f
  | [], k => Int.le_refl _
  | b :: f, k => by
    have h1 := endPs_eq b.pages k
    have h2 := endFl_ge f (endPs k b.pages + 1)
    rw [endFl]; omega
/-- where the marks of block j begin -/
def atFl : Int → List Bk → Nat → Int
  | k, _, 0 => k
  | k, [], _ => k
  | k, b :: f, j + 1 => atFl (endPs k b.pages + 1) f j
theorem atFl_succ : ∀ (f : List Bk) (k : Int) (j : Nat) (b : Bk), f[j]? = some b → atFl k f (j + 1) = endPs (atFl k f j) b.pages + 1
  | [], _, _, _, h => by simp at h
  | a :: f, k, 0, b, h => by simp at h; subst h; simp [atFl]
  | a :: f, k, j + 1, b, h => by
    have ih := atFl_succ f (endPs k a.pages + 1) j b (by simpa using h)
    simpa [atFl] using ih
theorem atFl_end : ∀ (f : List Bk) (k : Int) (j : Nat), endFl (atFl k f j) (f.drop j) = endFl k f
  | [], k, j => by cases j <;> simp [atFl, endFl]
  | a :: f, k, 0 => by simp [atFl]
  | a :: f, k, j + 1 => by rw [atFl, List.drop_succ_cons, atFl_end f]; rfl
theorem atFl_ge : ∀ (f : List Bk) (k : Int) (j : Nat), k ≤ atFl k f j
  | [], k, j => by cases j <;> simp [atFl]
  | a :: f, k, 0 => by simp [atFl]
  | a :: f, k, j + 1 => by
    have h1 := endPs_eq a.pages k
    have h2 := atFl_ge f (endPs k a.pages + 1) j
    rw [atFl]; omega
theorem markFl_at : ∀ (f : List Bk) (k : Int) (j : Nat) (b : Bk), f[j]? = some b → (markFl k f)[j]? = some ⟨markPs (atFl k f j) b.pages, endPs (atFl k f j) b.pages⟩
  | [], _, _, _, h => by simp at h
  | a :: f, k, 0, b, h => by simp at h; subst h; simp [markFl, atFl]
  | a :: f, k, j + 1, b, h => by
    rw [markFl, List.getElem?_cons_succ, markFl_at f _ j b (by simpa using h)]; rfl
theorem markFl_step (f : List Bk) (k : Int) (j : Nat) (b : Bk) (h : f[j]? = some b) : ((markFl k f).take j ++ f.drop j).set j ⟨markPs (atFl k f j) b.pages, endPs (atFl k f j) b.pages⟩ = (markFl k f).take (j + 1) ++ f.drop (j + 1) := by
  have hl := markFl_len f k
  have hlt := (List.getElem?_eq_some_iff.1 h).1
  rw [List.set_append_right _ _ (by simp; omega), show j - ((markFl k f).take j).length = 0 by simp; omega, List.drop_eq_getElem_cons hlt, List.set_cons_zero, List.take_add_one, markFl_at f k j b h]
  simp
set_option maxHeartbeats 1000000 in
theorem laws_markBlockS' (A : Option Addr) (n c : Nat) (f : List Bk) (hs : List (Option Addr × Nat)) (k : Int) (lo hi : Nat) (w : World) (hn : n = f.length) (hl : f.length < 1000000000000) (hp : ∀ b ∈ f, b.pages.length < 1000000000000) (h0 : 0 ≤ k) (h1 : endFl k f < 1000000000000000) (hBk : Bks w A f hs) (hApt : Apt lo hi A hs) :
    Calls Try.prog 103 #[.slice A n c, .int .i64 k] w fun e w' => e = .returned (.int .i64 (endFl k f)) ∧ Bks w' A (markFl k f) hs ∧ Agr (fblk A hs) w w' := by
  subst hn
  have HP := Lib.hid hp
  have HML := Lib.hid (markFl_len f k)
  clear hp
  go_enter Try.func103, Try.ntmps103
  go_wp2
  go_loopw [1, 5] (fun q i wr => ∃ (j : Nat), j ≤ f.length ∧ i = .int .i64 j ∧ q = .int .i64 (atFl k f j) ∧ Bks wr A ((markFl k f).take j ++ f.drop j) hs ∧ Agr (fblk A hs) w wr) (fun _ i _ => f.length - (intOf i).toNat)
  case atStart => exact ⟨0, by omega, rfl, by cases f <;> rfl, by simpa using hBk, Agr.refl _ _⟩
  case round =>
    obtain ⟨j, hj, rfl, rfl, hb2, hA⟩ := hrel
    by_cases hlt : j < f.length
    · obtain ⟨B, hB⟩ := get_some hlt
      have hBl := HP.out B (List.mem_of_getElem? hB)
      obtain ⟨g, o, rfl⟩ := hBk.addr (by rintro rfl; simp at hlt)
      have hget : ((markFl k f).take j ++ f.drop j)[j]? = some B := by
        have := HML.out
        rw [List.getElem?_append_right (by simp; omega), List.getElem?_drop, ← hB]; congr 1; simp; omega
      obtain ⟨x, hx, c0, c1, f0, f1, hr, _⟩ := hb2.at_ hget
      have ha0 := atFl_ge f k j
      have hae := atFl_end f k j
      rw [drop_cons hB] at hae
      have hge := endFl_ge (f.drop (j + 1)) (endPs (atFl k f j) B.pages + 1)
      rw [endFl] at hae
      have hpe := endPs_eq B.pages (atFl k f j)
      have hm0 : 0 ≤ atFl k f j := by omega
      have hm1 : atFl k f j < 1000000000000000 := by omega
      have he0 : 0 ≤ endPs (atFl k f j) B.pages := by omega
      have he1 : endPs (atFl k f j) B.pages < 1000000000000000 := by omega
      have hj1 : (j : Int) < f.length := by omega
      have HS := Lib.hid (atFl_succ f k j B hB)
      have HST := Lib.hid (markFl_step f k j B hB)
      have HG := Lib.hid hget
      have HX := Lib.hid hx
      clear hae hge hpe hB hget hx
      go_wp2_with fail
      refine (laws_markPageS x.1 x.2 B.pages (atFl k f j) _ hBl hm0 hm1 hr).mono ?_
      rintro e w1 ⟨rfl, hr1, hA1⟩
      have hb3 := hb2.newPages hApt HG.out HX.out (markPs_len _ _) hr1 hA1
      have hget3 : (((markFl k f).take j ++ f.drop j).set j { B with pages := markPs (atFl k f j) B.pages })[j]? = some { B with pages := markPs (atFl k f j) B.pages } := by
        have := HML.out
        rw [List.getElem?_set_self (by simp; omega)]
      obtain ⟨_, _, d0, d1, g0, g1, _, _⟩ := hb3.at_ hget3
      have hW := wrote_one d1 (.int .i64 (endPs (atFl k f j) B.pages))
      have hb4 := hb3.setHdr (n := endPs (atFl k f j) B.pages) hApt hget3 HX.out (by
        obtain ⟨y, hy, e0, _⟩ := hb3.at_ hget3
        rw [HX.out] at hy; cases hy
        exact hW.less e0)
      rw [List.set_set] at hb4
      dsimp only at hb4
      rw [HST.out] at hb4
      have hgl := hApt.top g (by rw [blk_some])
      have hA4 := (hA.trans hA1 (S := fblk (some ⟨g, o, none⟩) hs) (fun i _ hi' => .inr ⟨j, x, HX.out, hi'⟩)).trans hW.agr (fun i _ e => .inl (by rw [e, blk_some]))
      clear hW hb3 hget3 hA1 hr1 c0 c1 hr
      go_wp2
      go_roundw
      case rel => exact ⟨j + 1, by omega, by go_num, by rw [HS.out], hb4, hA4⟩
      case measure => simp [intOf]; omega
    · obtain rfl : j = f.length := by omega
      go_wp2
      go_ret
      have := HML.out
      rw [List.take_of_length_le (by omega), List.drop_of_length_le (Nat.le_refl _), List.append_nil] at hb2
      have he := atFl_end f k f.length
      rw [List.drop_of_length_le (Nat.le_refl _), endFl] at he
      exact ⟨ret_int he, hb2, hA⟩
end Go.Proofs.Ytbekihiiildgmaa
namespace Go.Proofs.Ytbekihiiildgmaa
set_option linter.unusedVariables false
set_option linter.unusedSimpArgs false
open Go.RowKit Go.Maps
set_option maxHeartbeats 400000
theorem OFl.far {w w' : World} {lo hi lo' hi' : Nat} {A : Option Addr} {f : List Bk} (h : OFl w lo hi A f) (ha : Agr (fun b => lo' ≤ b ∧ b < hi') w w') (hd : hi ≤ lo' ∨ hi' ≤ lo) : OFl w' lo hi A f :=
  h.agr ha fun b h1 h2 h3 => by omega
end Go.Proofs.Ytbekihiiildgmaa
namespace Go.Proofs.Ytbekihiiildgmaa
set_option linter.unusedVariables false
set_option linter.unusedSimpArgs false
open Go.RowKit Go.Maps
set_option maxHeartbeats 400000
/-- a store of one's own: a flash and a row of numbers, in blocks from lo on and below hi -/
def OSt (w : World) (lo hi : Nat) (A : Option Addr) (f : List Bk) (D : Option Addr) (xs : List Int) : Prop :=
  ∃ hs, Bks w A f hs ∧ Apt lo hi A hs ∧ Row w D (ints xs) ∧ ∀ b, blk D b → lo ≤ b ∧ b < hi ∧ ¬ blk A b ∧ ∀ (i : Nat) (x : Option Addr × Nat), hs[i]? = some x → ¬ blk x.1 b
theorem OSt.keep {w w' : World} {lo hi : Nat} {A D : Option Addr} {f : List Bk} {xs : List Int} (h : OSt w lo hi A f D xs) (hk : ∀ b, lo ≤ b → b < hi → b < w.heap.size → w'.heap[b]? = w.heap[b]?) : OSt w' lo hi A f D xs := by
  obtain ⟨hs, h1, h2, h3, h4⟩ := h
  refine ⟨hs, h1.keep fun b hb hl => ?_, h2, h3.keep fun b hb hl => hk b (h4 b hb).1 (h4 b hb).2.1 hl, h4⟩
  rcases hb with hb | ⟨x, hx, hb⟩
  · have := h2.top b hb; exact hk b this.1 this.2 hl
  · obtain ⟨i, hi'⟩ := List.getElem?_of_mem hx
    have := h2.in_ i x b hi' hb; exact hk b this.1 this.2.1 hl
theorem OSt.below {w w' : World} {lo hi B : Nat} {A D : Option Addr} {f : List Bk} {xs : List Int} (h : OSt w lo hi A f D xs) (hb : Below B w w') (hB : w.heap.size ≤ B) : OSt w' lo hi A f D xs := h.keep fun b _ _ hl => hb.block b (by omega)
theorem OSt.far {w w' : World} {lo hi lo' hi' : Nat} {A D : Option Addr} {f : List Bk} {xs : List Int} (h : OSt w lo hi A f D xs) (ha : Agr (fun b => lo' ≤ b ∧ b < hi') w w') (hd : hi ≤ lo' ∨ hi' ≤ lo) : OSt w' lo hi A f D xs :=
  h.keep fun b h1 h2 hl => ha.block b hl (by omega)
theorem OSt.ofl {w : World} {lo hi : Nat} {A D : Option Addr} {f : List Bk} {xs : List Int} (h : OSt w lo hi A f D xs) : OFl w lo hi A f := by obtain ⟨hs, h1, h2, _⟩ := h; exact ⟨hs, h1, h2⟩
theorem OSt.disk {w : World} {lo hi : Nat} {A D : Option Addr} {f : List Bk} {xs : List Int} (h : OSt w lo hi A f D xs) : Row w D (ints xs) := by obtain ⟨hs, _, _, h3, _⟩ := h; exact h3
theorem OSt.mono {w : World} {lo hi lo' hi' : Nat} {A D : Option Addr} {f : List Bk} {xs : List Int} (h : OSt w lo hi A f D xs) (h1 : lo' ≤ lo) (h2 : hi ≤ hi') : OSt w lo' hi' A f D xs := by
  obtain ⟨hs, a, b, c, d⟩ := h
  exact ⟨hs, a, b.mono h1 h2, c, fun x hx => by have := d x hx; exact ⟨by omega, by omega, this.2.2⟩⟩
/-- the flash lies in some blocks, the numbers in others -/
theorem OSt.mk' {w : World} {lo hi lf hf d o : Nat} {A : Option Addr} {f : List Bk} {xs : List Int} (h : OFl w lf hf A f) (hr : Row w (some ⟨d, o, none⟩) (ints xs)) (h1 : lo ≤ lf) (h2 : hf ≤ hi) (h3 : lo ≤ d) (h4 : d < hi) (h5 : d < lf ∨ hf ≤ d) : OSt w lo hi A f (some ⟨d, o, none⟩) xs := by
  obtain ⟨hs, a, b⟩ := h
  refine ⟨hs, a, b.mono h1 h2, hr, fun x hx => ?_⟩
  rw [blk_some] at hx
  subst hx
  exact ⟨h3, h4, fun e => by have := b.top d e; omega, fun i y hy e => by have := b.in_ i y d hy e; omega⟩
def disk0 : List Int := [0, 0, 0, 0, 0, 0]
end Go.Proofs.Ytbekihiiildgmaa
namespace Go.Proofs.Ytbekihiiildgmaa
set_option linter.unusedVariables false
set_option linter.unusedSimpArgs false
open Go.RowKit Go.Maps
set_option maxHeartbeats 400000
theorem spec_l21Steps (s : St) (e : Ev) (A D : Option Addr) (c d : Nat) (w : World) (hf : s.flash.length = 4) (hp : ∀ b ∈ s.flash, b.pages.length = 4) (hm : ∀ b ∈ s.flash, most b < 1000000000000) (hd : s.disk.length = 6) (hF : Fl w A s.flash) (hD : Row w D (ints s.disk)) :
    Calls Try.prog 74 #[.agg #[.slice A 4 c, .slice D 6 d], .agg #[.int .i64 e.kind, .int .i64 e.a, .int .i64 e.b, .int .i64 e.c, .bool e.torn]] w fun r w' => ∃ v, r = .returned v ∧ OwnS w' w.heap.size v (stepsOf s e) ∧ Below w.heap.size w w' := by
  obtain ⟨k, a, b, cc, t⟩ := e
  dsimp only
  have HL := Lib.hid hf
  have HP4 := Lib.hid hp
  have HM := Lib.hid hm
  have HD := Lib.hid hd
  have hB : Below w.heap.size w ((w.alloc (.cells #[.slice A 4 c, .slice D 6 d] 26)).alloc (.cells #[.int .i64 k, .int .i64 a, .int .i64 b, .int .i64 cc, .bool t] 28)) := by (repeat (first | (with_reducible exact Below.refl _ _) | (with_reducible assumption) | (refine Below.setCell ?_ (by first | omega | exact hB.size | exact hb.size | (have h := hB.size; simp; omega) | (have h := hb.size; simp; omega) | (simp; omega) | simp) _) | (refine Below.alloc ?_ (by first | omega | exact hB.size | exact hb.size | (have h := hB.size; simp; omega) | (have h := hb.size; simp; omega) | (simp; omega) | simp) _) | (refine Below.drew ?_)))
  have hFz := (hF.alloc (.cells #[.slice A 4 c, .slice D 6 d] 26)).alloc (.cells #[.int .i64 k, .int .i64 a, .int .i64 b, .int .i64 cc, .bool t] 28)
  have hDz := (hD.alloc (.cells #[.slice A 4 c, .slice D 6 d] 26)).alloc (.cells #[.int .i64 k, .int .i64 a, .int .i64 b, .int .i64 cc, .bool t] 28)
  have hfin : Hid (stepsOf s ⟨k, a, b, cc, t⟩ = if k = 1 then wr s.flash 1 a b else if k = 2 then flush s a else if k = 3 then fill s a else []) := rfl
  clear hf hp hm hd
  by_cases h1 : k = 1
  · subst h1
    have h3 : Hid (stepsOf s ⟨1, a, b, cc, t⟩ = wr s.flash 1 a b) := by rw [Hid, hfin.out, if_pos rfl]
    go_enter Try.func74, Try.ntmps74
    go_wp2_with fail
    refine (spec_l12Write s.flash 1 a b A D c 6 d _ HL.out HP4.out HM.out hFz).mono ?_
    rintro e w1 ⟨v, rfl, hO, hb⟩
    go_wp2
    go_ret
    rw [h3.out]
    exact ⟨_, rfl, hO.mono (by simp; omega), hB.trans (hb.mono (by simp; omega))⟩
  · by_cases h2 : k = 2
    · subst h2
      have h3 : Hid (stepsOf s ⟨2, a, b, cc, t⟩ = flush s a) := by rw [Hid, hfin.out, if_neg h1, if_pos rfl]
      go_enter Try.func74, Try.ntmps74
      go_wp2_with fail
      refine (spec_l12Flush s a A D c d _ HL.out HP4.out HM.out HD.out hFz hDz).mono ?_
      rintro e w1 ⟨v, rfl, hO, hb⟩
      go_wp2
      go_ret
      rw [h3.out]
      exact ⟨_, rfl, hO.mono (by simp; omega), hB.trans (hb.mono (by simp; omega))⟩
    · by_cases h4 : k = 3
      · subst h4
        have h3 : Hid (stepsOf s ⟨3, a, b, cc, t⟩ = fill s a) := by rw [Hid, hfin.out, if_neg h1, if_neg h2, if_pos rfl]
        go_enter Try.func74, Try.ntmps74
        go_wp2_with fail
        refine (spec_l12Fill s a A D c d _ HL.out HP4.out HM.out HD.out hFz hDz).mono ?_
        rintro e w1 ⟨v, rfl, hO, hb⟩
        go_wp2
        go_ret
        rw [h3.out]
        exact ⟨_, rfl, hO.mono (by simp; omega), hB.trans (hb.mono (by simp; omega))⟩
      · have h3 : Hid (stepsOf s ⟨k, a, b, cc, t⟩ = []) := by rw [Hid, hfin.out, if_neg h1, if_neg h2, if_neg h4]
        have e1 : (k == 1) = false := by simp [h1]
        have e2 : (k == 2) = false := by simp [h2]
        have e3 : (k == 3) = false := by simp [h4]
        have hO := OwnS.nil ((w.alloc (.cells #[.slice A 4 c, .slice D 6 d] 26)).alloc (.cells #[.int .i64 k, .int .i64 a, .int .i64 b, .int .i64 cc, .bool t] 28)) w.heap.size (by simp; omega)
        simp only [World.size_alloc] at hO
        go_enter Try.func74, Try.ntmps74
        go_wp2
        go_ret
        rw [h3.out]
        exact ⟨_, rfl, hO, hB.alloc hB.size _⟩
end Go.Proofs.Ytbekihiiildgmaa
namespace Go.Proofs.Ytbekihiiildgmaa
set_option linter.unusedVariables false
set_option linter.unusedSimpArgs false
open Go.RowKit Go.Maps
set_option maxHeartbeats 400000
theorem Row.at0 {w : World} {b : Nat} {vs : List Value} {j : Nat} {u : Value} (h : Row w (some ⟨b, 0, none⟩) vs) (hj : vs[j]? = some u) : w.cell? ⟨b, j, none⟩ = some u ∧ w.frozen? ⟨b, j, none⟩ = false := by
  obtain ⟨b', o', he, hc⟩ := h (by rintro rfl; simp at hj)
  cases he
  have := hc j u hj
  rwa [Nat.zero_add] at this
end Go.Proofs.Ytbekihiiildgmaa
namespace Go.Proofs.Ytbekihiiildgmaa
set_option linter.unusedVariables false
set_option linter.unusedSimpArgs false
open Go.RowKit
def OnlyNormal (K : Act → World → Prop) : Exit → Act → World → Prop
  | .normal, a, w => K a w
  | _, _, _ => False
def noDefer (o : Oper) : Bool := match o.op with
  | .defer _ => false
  | _ => true
theorem noDefer_spec {o : Oper} (h : noDefer o = true) : ∀ c, o.op ≠ .defer c := fun c e => by
  unfold noDefer at h; rw [e] at h; cases h
section
variable {P : Program} {ops : Array Oper} {md : Region.Mode} {K : Act → World → Prop} {Q : Exit → Act → World → Prop} {l n : Nat}
theorem op_round {i : Nat} {K1 K2 : Act → World → Prop} {a : Act} {w : World} (hnd : ops.all noDefer = true) (hK : ∀ a w, K1 a w → K2 a w) (h : wpOp P ops (OnlyNormal K) i K1 a w) :
    wpOpIn (Fence.wide.inRound l) n P ops Q i K2 a w := by
  unfold wpOp at h
  unfold wpOpIn
  cases ho : ops[i]? with
  | none => simp only [ho] at h ⊢; exact hK _ _ h
  | some o =>
    simp only [ho] at h ⊢
    have hd : ∀ c, o.op ≠ .defer c := noDefer_spec (by
      rw [Array.all_eq_true'] at hnd
      exact hnd o (Array.mem_of_getElem? ho))
    split
    · rename_i hw
      simp only [hw, if_true] at h
      rcases h with h | ⟨_, _, _, h⟩
      · unfold Oper.wp at h
        refine ⟨fun _ _ => trivial, ?_⟩
        rw [Oper.semAt_eq _ _ _ hd]
        generalize (execOp a.eval o).run P w = r at h
        cases r with
        | ok nx w' =>
          cases nx with
          | value v => exact hK _ _ h
          | skip => exact hK _ _ h
          | defer d => exact hK _ _ h
          | enter f args =>
            refine ⟨fun hd => (by cases hd), ?_⟩
            refine (callsIn_wide.2 (Calls.mono (R := fun | .returned v, w'' => K1 (a.put o.dst v) w'' | .panicked chain, w'' => OnlyNormal K (.panic chain) a w'' | .outgrown, _ => LetsOut (OnlyNormal K)) h fun e w'' he => ?_)).inRound l
            cases e with
            | returned v => exact hK _ _ he
            | panicked c => exact he.elim
            | outgrown => obtain ⟨_, _, hf⟩ := he; exact hf.elim
          | row row args => exact ⟨fun hd => (by cases hd), fun c cs _ => by
              obtain ⟨v, w'', r, s⟩ := h c cs
              exact ⟨v, w'', hK _ _ r, stepsIn_wide.2 s⟩⟩
          | round _ _ _ _ _ => exact h.elim
          | _ => exact h.elim
        | halt hh w' =>
          cases hh with
          | panic v => exact h.elim
          | _ => exact h.elim
      · exact h.elim
    · rename_i hw
      simp only [hw] at h
      exact ⟨fun _ _ => trivial, hK _ _ h⟩
theorem any_round (hnd : ops.all noDefer = true) (hQ : ∀ a w, K a w → Q .normal a w) : ∀ (fuel : Nat) (listed : Array Bool) (a : Act) (w : World), wpAny P md ops (OnlyNormal K) fuel listed a w → wpAnyIn (Fence.wide.inRound l) n P md ops Q fuel listed a w
  | 0, _, _, _, h => ⟨h.1, hQ _ _ h.2⟩
  | fuel + 1, listed, a, w, h => ⟨fun e => hQ _ _ (h.1 e), fun i hi => op_round hnd (fun a w => any_round hnd hQ fuel _ a w) (h.2 i hi)⟩
/-- a region in a round, by the plain law of any order -/
theorem region_round {id : Nat} {a : Act} {w : World} (hm : P.follows .mixedOrders = true) (hnd : ops.all noDefer = true)
    (h : wpAny P .any ops (OnlyNormal fun a w => Q .normal a w) ops.size (Array.replicate ops.size false) a w.drew) : (Code.region id ops true).wpIn (Fence.wide.inRound l) n P Q a w :=
  wpIn_region_any hm (any_round hnd (fun _ _ h => h) _ _ _ _ h)
/-- the same, by the law with a condition on the world -/
theorem region_round_held {S : World → Prop} {id : Nat} {a : Act} {w : World} (hm : P.follows .mixedOrders = true) (hnd : ops.all noDefer = true) (hS : S w.drew)
    (h : S w.drew → wpAnyH P .any ops (OnlyNormal fun a w => Q .normal a w) S ops.size (Array.replicate ops.size false) a w.drew) : (Code.region id ops true).wpIn (Fence.wide.inRound l) n P Q a w :=
  region_round hm hnd (wpAny_of_held _ _ _ _ (h hS))
end
end Go.Proofs.Ytbekihiiildgmaa
namespace Go.Proofs.Ytbekihiiildgmaa
set_option linter.unusedVariables false
set_option linter.unusedSimpArgs false
open Go.RowKit Go.Shelf
attribute [local go_sem] Oper.semAt_some
set_option maxHeartbeats 400000
abbrev Sub (n : Nat) := { x : PgAt // x.1 < n }
theorem eachPageS_stops (F : Fence) (n : Nat) (hF : F.fn 141) (hro : F.round = none) (hn : 1 ≤ n) (Bs n₀ g o c : Nat) (f : List Bk) (hs : List (Option Addr × Nat)) (w : World) (hB : Bs < w.heap.size) (hn₀ : n₀ ≤ w.heap.size)
    (hBs : w.cell? ⟨Bs, 0, none⟩ = some (.slice (some ⟨g, o, none⟩) f.length c)) (hl : f.length < 1000000000000) (hp : ∀ b ∈ f, b.pages.length < 1000000000000)
    (hBk : Bks w (some ⟨g, o, none⟩) f hs) (hlow : ∀ b, fblk (some ⟨g, o, none⟩) hs b → b < n₀) :
    SeqStopsK F n Try.prog 141 #[.pointer (some ⟨Bs, 0, none⟩)] (fun x : Sub f.length => encP x.1) (Below n₀) (fun ys => ys.map Subtype.val = allFrom 0 f) (fun pre => pre.map Subtype.val <+: allFrom 0 f) (allFrom 0 f).length w := fun l J Jx W hW hJ _ hY h0 => by
  refine (eachPage1_in F n hF hro hn l Bs n₀ g o c f hs (fun pre V => ∃ pre' : List (Sub f.length), pre'.map Subtype.val = pre ∧ J pre' V) (fun pre V => ∃ pre' : List (Sub f.length), pre'.map Subtype.val = pre ∧ Jx pre' V) W (Nat.le_trans hn₀ hW.size)
    (fun s X Y row hs hg hr => by obtain ⟨p, e, h⟩ := hs; exact ⟨p, e, hJ p X Y row h hg hr⟩) (fun pre x W1 h1 h2 h3 => ?_) ((hW.cell (p := ⟨Bs, 0, none⟩) hB).trans hBs) hl hp (hBk.keep fun q hq hl => hW.block q (by omega)) hlow ⟨[], rfl, h0⟩).mono ?_
  · obtain ⟨pre', rfl, hj⟩ := h1
    refine (hY pre' ⟨x, h3.1⟩ W1 hj (by simpa using h2)).mono ?_
    rintro e V (⟨rfl, hj2, hk⟩ | ⟨rfl, hj2⟩)
    · exact .inl ⟨rfl, ⟨_, by simp, hj2⟩, hk⟩
    · exact .inr ⟨rfl, _, by simp, hj2⟩
  · rintro e V ⟨he, ⟨ys, rfl, pre', h1, h2⟩ | ⟨pre, h0, pre', rfl, h2⟩⟩
    · exact ⟨he, .inl ⟨pre', h1, h2⟩⟩
    · exact ⟨he, .inr ⟨pre', h0, h2⟩⟩
abbrev Span := Int × Int
def Spn (s : Span) : List Value := [.int .i64 s.1, .int .i64 s.2]
def spv (ss : List Span) : List Value := ss.flatMap Spn
def lowOf (s : Span) (q : Int) : Int := if s.1 = 0 ∨ q < s.1 then q else s.1
def spStep (ss : List Span) (x : PgAt) : List Span := if x.2.2.state = 1 then ss.set x.1 (lowOf (ss.getD x.1 (0, 0)) x.2.2.rc.seq, max (ss.getD x.1 (0, 0)).2 x.2.2.rc.seq) else ss
def spOf (pre : List PgAt) : List Span := pre.foldl spStep (List.replicate 4 (0, 0))
theorem spOf_snoc (pre : List PgAt) (x : PgAt) : spOf (pre ++ [x]) = spStep (spOf pre) x := by unfold spOf; rw [List.foldl_append]; rfl
theorem spStep_len (ss : List Span) (x : PgAt) : (spStep ss x).length = ss.length := by unfold spStep; split <;> simp
theorem spOf_len (pre : List PgAt) : (spOf pre).length = 4 := by
  have : ∀ (pre : List PgAt) (ss : List Span), (pre.foldl spStep ss).length = ss.length := by
    intro pre
    induction pre with
    | nil => intro ss; rfl
    | cons x pre ih => intro ss; rw [List.foldl_cons, ih, spStep_len]
  rw [spOf, this]; rfl
theorem row_own (A : Option Addr) (vs : List Value) (n₀ : Nat) : OwnFrom n₀ (fun (_ : Unit) W => Row W A vs) := fun _ X Y row hs hg hr hn => by
  obtain ⟨b, o, rfl, hc⟩ := hs hn
  exact ⟨b, o, rfl, fun j u hj => ⟨cell_kept (hc j u hj).1 hg (fun r e => (hr r e).2), (frozen_kept (hc j u hj).1 hg (fun r e => (hr r e).2)).trans (hc j u hj).2⟩⟩
theorem Row.span {w : World} {b k : Nat} {ss : List Span} {s : Span} (h : Row w (some ⟨b, 0, none⟩) (spv ss)) (hk : ss[k]? = some s) :
    w.cell? ⟨b, k * 2, none⟩ = some (.int .i64 s.1) ∧ w.cell? ⟨b, k * 2 + 1, none⟩ = some (.int .i64 s.2) ∧ w.frozen? ⟨b, k * 2, none⟩ = false ∧ w.frozen? ⟨b, k * 2 + 1, none⟩ = false := by
  have hne : spv ss ≠ [] := by
    intro e
    cases ss with
    | nil => simp at hk
    | cons a ss => simp [spv, Spn] at e
  obtain ⟨b', o', he, hc⟩ := h hne
  cases he
  have hg : ∀ j u, (Spn s)[j]? = some u → j < 2 → w.cell? ⟨b, 0 + (k * 2 + j), none⟩ = some u ∧ w.frozen? ⟨b, 0 + (k * 2 + j), none⟩ = false := fun j u hj hl => hc (k * 2 + j) u (by rw [spv, flat_get _ 2 (fun _ => rfl) ss k j s hk hl]; exact hj)
  have h0 := hg 0 _ rfl (by omega)
  have h1 := hg 1 _ rfl (by omega)
  rw [Nat.zero_add] at h0 h1
  exact ⟨h0.1, h1.1, h0.2, h1.2⟩
theorem spv_set : ∀ (ss : List Span) (k : Nat) (s : Span), k < ss.length → spv (ss.set k s) = setL (spv ss) (k * 2) (Spn s)
  | [], k, s, h => by simp at h
  | q :: ss, 0, s, _ => by simp [spv, Spn, setL]
  | q :: ss, k + 1, s, h => by
    have ih := spv_set ss k s (by simpa using h)
    rw [List.set_cons_succ]
    show Spn q ++ spv (ss.set k s) = setL (Spn q ++ spv ss) _ _
    rw [ih, show (k + 1) * 2 = (Spn q).length + k * 2 by simp [Spn]; omega, setL_right]
theorem spv_len (ss : List Span) : (spv ss).length = ss.length * 2 := flat_len _ 2 (fun _ => rfl) ss
theorem make_spans (w : World) : (Instr.makeSlice 141 (.int .i64 4) (.int .i64 4)).run Try.prog w = .ok (.slice (some ⟨w.heap.size, 0, none⟩) 4 4) (w.alloc (.cells #[.int .i64 0, .int .i64 0, .int .i64 0, .int .i64 0, .int .i64 0, .int .i64 0, .int .i64 0, .int .i64 0] 144)) := by kernel_rfl
set_option maxRecDepth 100000 in
set_option maxHeartbeats 4000000 in
theorem impl_spansOf (f : List Bk) (hs : List (Option Addr × Nat)) (g o c : Nat) (w : World) (hl : f.length = 4) (hp : ∀ b ∈ f, b.pages.length = 4) (hBk : Bks w (some ⟨g, o, none⟩) f hs) (hlow : ∀ b, fblk (some ⟨g, o, none⟩) hs b → b < w.heap.size) :
    Calls Try.prog 117 #[.slice (some ⟨g, o, none⟩) 4 c] w fun e w' => ∃ b, e = .returned (.slice (some ⟨b, 0, none⟩) 4 4) ∧ w.heap.size ≤ b ∧ Row w' (some ⟨b, 0, none⟩) (spv (spOf (allFrom 0 f))) ∧ Below w.heap.size w w' := by
  refine (callsIn_wide (n := 6)).1 ?_
  refine callsIn_of_wp_marks Try.func117 rfl trivial ?_ rfl
  simp only [Try.ntmps117, List.size_toArray, List.length_cons, List.length_nil, Nat.reduceAdd, Nat.reduceSub, Array.replicate_succ, Array.replicate_zero, List.push_toArray, List.append_toArray, List.nil_append, List.cons_append]
  have hmk := make_spans
  have HL := Lib.hid hl
  have HP := Lib.hid hp
  clear hl hp
  gi_wp2_with (first | (refine ⟨trivial, ?_⟩; gi_at_call 94; refine (eachPage_in Fence.wide _ trivial rfl _ _ _ _).mono ?_; rintro e w2 ⟨rfl, rfl⟩))
  have hsz : ((((w.alloc (.cells #[.int .i64 0, .int .i64 0, .int .i64 0, .int .i64 0, .int .i64 0, .int .i64 0, .int .i64 0, .int .i64 0] 144)).alloc (.cells #[.slice (some ⟨w.heap.size, 0, none⟩) 4 4] 141)).alloc (.cells #[.slice (some ⟨g, o, none⟩) 4 c] 23))).heap.size = w.heap.size + 3 := by simp
  have bV := (Boxed.new (w.alloc (.cells #[.int .i64 0, .int .i64 0, .int .i64 0, .int .i64 0, .int .i64 0, .int .i64 0, .int .i64 0, .int .i64 0] 144)) 141 (.slice (some ⟨w.heap.size, 0, none⟩) 4 4)).alloc (.cells #[.slice (some ⟨g, o, none⟩) 4 c] 23)
  have bA := Boxed.new ((w.alloc (.cells #[.int .i64 0, .int .i64 0, .int .i64 0, .int .i64 0, .int .i64 0, .int .i64 0, .int .i64 0, .int .i64 0] 144)).alloc (.cells #[.slice (some ⟨w.heap.size, 0, none⟩) 4 4] 141)) 23 (.slice (some ⟨g, o, none⟩) 4 c)
  simp only [World.size_alloc] at bV bA
  have hR0 : Row _ _ (spv (spOf [])) := ((Row.new w #[.int .i64 0, .int .i64 0, .int .i64 0, .int .i64 0, .int .i64 0, .int .i64 0, .int .i64 0, .int .i64 0] 144).alloc (.cells #[.slice (some ⟨w.heap.size, 0, none⟩) 4 4] 141)).alloc (.cells #[.slice (some ⟨g, o, none⟩) 4 c] 23)
  have hBk0 := ((hBk.alloc (.cells #[.int .i64 0, .int .i64 0, .int .i64 0, .int .i64 0, .int .i64 0, .int .i64 0, .int .i64 0, .int .i64 0] 144)).alloc (.cells #[.slice (some ⟨w.heap.size, 0, none⟩) 4 4] 141)).alloc (.cells #[.slice (some ⟨g, o, none⟩) 4 c] 23)
  have hB0 : Below w.heap.size w (((w.alloc (.cells #[.int .i64 0, .int .i64 0, .int .i64 0, .int .i64 0, .int .i64 0, .int .i64 0, .int .i64 0, .int .i64 0] 144)).alloc (.cells #[.slice (some ⟨w.heap.size, 0, none⟩) 4 4] 141)).alloc (.cells #[.slice (some ⟨g, o, none⟩) 4 c] 23)) := (((Below.refl _ w).alloc (Nat.le_refl _) _).alloc (by simp) _).alloc (by simp; omega) _
  obtain ⟨W0, hW0⟩ : ∃ W0, ((w.alloc (.cells #[.int .i64 0, .int .i64 0, .int .i64 0, .int .i64 0, .int .i64 0, .int .i64 0, .int .i64 0, .int .i64 0] 144)).alloc (.cells #[.slice (some ⟨w.heap.size, 0, none⟩) 4 4] 141)).alloc (.cells #[.slice (some ⟨g, o, none⟩) 4 c] 23) = W0 := ⟨_, rfl⟩
  rw [hW0] at bV bA hR0 hB0 hsz hBk0 ⊢
  clear hW0 hmk
  have hcA : W0.cell? ⟨w.heap.size + 1 + 1, 0, none⟩ = some (.slice (some ⟨g, o, none⟩) f.length c) := by rw [HL.out]; exact bA.cell
  refine wpIn_rangeFunc_ownH rfl (by omega) (gf := 141) (lb := #[.pointer (some ⟨w.heap.size + 1 + 1, 0, none⟩)]) rfl trivial (enters_of Try.func141 (by kernel_rfl) rfl)
    (eachPageS_stops Fence.wide _ trivial rfl (by omega) (w.heap.size + 1 + 1) w.heap.size g o c f hs W0 (by omega) (by omega) hcA (by rw [HL.out]; omega) (fun b hb => by rw [HP.out b hb]; omega) hBk0 hlow) belowK_t (belowK_b (by omega)) (Below.refl _ _) (fun _ => rfl)
    (fun pre W => (Boxed W (w.heap.size + 1) 141 (.slice (some ⟨w.heap.size, 0, none⟩) 4 4) ∧ Row W (some ⟨w.heap.size, 0, none⟩) (spv (spOf (pre.map Subtype.val)))) ∧ Below w.heap.size w W)
    (fun _ _ _ => False)
    (OwnFrom.and (OwnFrom.and (Own.from (boxed_own _ _ (fun _ => _)) _) (fun pre X Y row h hg hr => row_own _ _ _ () X Y row h hg hr)) (ownFrom_below (Nat.le_refl _) (by omega)))
    (fun _ _ _ _ _ hs _ _ => hs)
    ⟨⟨bV, hR0⟩, hB0⟩
    (fun x a' W => ∃ B4 B5, w.heap.size + 1 < B4 ∧ w.heap.size + 1 < B5 ∧ Laid W B4 117 #[.int .i64 (x.1.1 : Int), .int .i64 (x.1.2.1 : Int)] ∧ Laid W B5 119 (pgv x.1.2.2) ∧ a' = { tmps := #[.slice (some ⟨g, o, none⟩) 4 c, undef, .slice none 0 0, .pointer (some ⟨w.heap.size + 1, 0, none⟩), .pointer (some ⟨B4, 0, none⟩), .pointer (some ⟨B5, 0, none⟩), undef, .slice (some ⟨g, o, none⟩) 4 c, .int .i64 4, .slice (some ⟨w.heap.size, 0, none⟩) 4 4, .slice (some ⟨g, o, none⟩) 4 c, .func (.func 141) #[] #[.pointer (some ⟨w.heap.size + 1 + 1, 0, none⟩)], .agg #[.int .i64 (x.1.1 : Int), .int .i64 (x.1.2.1 : Int)], .agg (pgv x.1.2.2), undef, undef, undef, undef, undef, undef, undef, undef, undef, undef, undef, undef, undef, undef, undef, undef, undef, undef, undef, undef, undef, undef, undef, undef, undef, undef, undef, undef, undef, undef, undef, undef, undef, undef, undef, undef, undef, undef, undef, undef], defers := [] })
    (fun x a' _ X Y row hs hg hr => by obtain ⟨B4, B5, h1, h2, h3, h4, h5⟩ := hs; exact ⟨B4, B5, h1, h2, laid_own B4 _ _ _ () X Y row h3 hg hr, laid_own B5 _ _ _ () X Y row h4 hg hr, h5⟩)
    ?assign ?body ?done ?stop
  case assign =>
    rintro l pre x W K ⟨⟨bV1, hR1⟩, hB1⟩ hK
    dsimp only [encP]
    gi_wp2
    have hlt := bV1.lt
    exact hK _ _ (((KeepsOthers.alloc _ _).trans (KeepsOthers.alloc _ _)).from _) (((Below.refl _ W).alloc hB1.size _).alloc (by simp; omega) _) ⟨⟨(bV1.alloc _).alloc _, (hR1.alloc _).alloc _⟩, (hB1.alloc hB1.size _).alloc (by simp; omega) _⟩ ⟨W.heap.size, W.heap.size + 1, hlt, by omega, (Below.heap_alloc _ _ _ (by simp)).trans (World.alloc_heap_new W _), by have := World.alloc_heap_new (W.alloc (.cells #[.int .i64 (x.1.1 : Int), .int .i64 (x.1.2.1 : Int)] 117)) (.cells (pgv x.1.2.2) 119); rwa [World.size_alloc] at this, rfl⟩
  case body =>
    rintro l pre x a' W hl ⟨r, hr⟩ ⟨⟨bV1, hR1⟩, hB1⟩ ⟨B4, B5, h4, h5, L4, L5, rfl⟩ hlt
    have hx4 : x.1.1 < 4 := Nat.lt_of_lt_of_eq x.2 HL.out
    have hlen := spOf_len (pre.map Subtype.val)
    have hst : Hid (spOf ((pre ++ [x]).map Subtype.val) = spStep (spOf (pre.map Subtype.val)) x.1) := by rw [Hid, List.map_append]; exact spOf_snoc _ _
    generalize spOf (pre.map Subtype.val) = ss at *
    obtain ⟨sp, hsp⟩ := get_some (l := ss) (k := x.1.1) (by omega)
    have hgd : ss.getD x.1.1 (0, 0) = sp := by rw [List.getD_eq_getElem?_getD, hsp]; rfl
    obtain ⟨l0, l1, l2, l3⟩ := hR1.span hsp
    have cV := bV1.cell
    have x0 : W.cell? ⟨B5, 0, none⟩ = some (.int .i64 x.1.2.2.state) := L5.cell 0 rfl
    have x2 : W.cell? ⟨B5, 2, none⟩ = some (.int .i64 x.1.2.2.rc.seq) := L5.cell 2 rfl
    have s0 : W.cell? ⟨B4, 0, none⟩ = some (.int .i64 (x.1.1 : Int)) := L4.cell 0 rfl
    have hx4' : (x.1.1 : Int) < 4 := by omega
    by_cases h1 : x.1.2.2.state = 1
    · have hst2 : Hid (spOf ((pre ++ [x]).map Subtype.val) = ss.set x.1.1 (lowOf sp x.1.2.2.rc.seq, max sp.2 x.1.2.2.rc.seq)) := by rw [Hid, hst.out]; unfold spStep; rw [if_pos h1, hgd]
      have hrow : ∀ Wf : World, Wrote W Wf w.heap.size (x.1.1 * 2) (Spn (lowOf sp x.1.2.2.rc.seq, max sp.2 x.1.2.2.rc.seq)) → Row Wf (some ⟨w.heap.size, 0, none⟩) (spv (spOf ((pre ++ [x]).map Subtype.val))) := fun Wf hW => by
        rw [hst2.out, spv_set _ _ _ (by omega)]
        exact Wrote.row (o := 0) (by rw [Nat.zero_add]; exact hW) hR1 (by rw [spv_len]; simp [Spn]; omega)
      have HROW := Lib.hid hrow
      rw [h1] at x0
      clear hrow hst hst2 hgd hsp h1
      by_cases hz : sp.1 = 0
      · have hlo : Hid (lowOf sp x.1.2.2.rc.seq = x.1.2.2.rc.seq) := by unfold Hid lowOf; rw [if_pos (.inl hz)]
        rw [hz] at l0
        clear hz
        gi_wp2
        refine region_round_held (S := fun w' => w'.cell? ⟨w.heap.size, x.1.1 * 2, none⟩ = some (.int .i64 0) ∧ w'.cell? ⟨B5, 2, none⟩ = some (.int .i64 x.1.2.2.rc.seq)) (by kernel_rfl) (by kernel_rfl) ⟨l0, x2⟩ (fun hHeld => ?_)
        refine wpAnyH_take (i := 0) (v := ?va10) rfl (by kernel_rfl) (by kernel_rfl) (by kernel_rfl) (fun _ _ _ h => h) (Or.inl ⟨by rfl, ?ya10⟩) hHeld ?ra10
        case ya10 => (intro w' hS; (try dsimp only at hS); obtain ⟨s0, s1⟩ := hS; (try go_simp); (try with_reducible rfl))
        try simp only [Act.put, List.getElem_toArray, List.getElem_cons_zero, List.getElem_cons_succ, List.setIfInBounds_toArray, List.set_cons_zero, List.set_cons_succ]
        refine wpAnyH_take (i := 1) (v := ?va11) rfl (by kernel_rfl) (by kernel_rfl) (by kernel_rfl) (fun _ _ _ h => h) (Or.inl ⟨by rfl, ?ya11⟩) hHeld ?ra11
        case ya11 => (intro w' hS; (try dsimp only at hS); obtain ⟨s0, s1⟩ := hS; (try go_simp); (try with_reducible rfl))
        try simp only [Act.put, List.getElem_toArray, List.getElem_cons_zero, List.getElem_cons_succ, List.setIfInBounds_toArray, List.set_cons_zero, List.set_cons_succ]
        refine wpAnyH_take (i := 2) (v := ?va12) rfl (by kernel_rfl) (by kernel_rfl) (by kernel_rfl) (fun _ _ _ h => h) (Or.inl ⟨by rfl, ?ya12⟩) hHeld ?ra12
        case ya12 => (intro w' hS; (try dsimp only at hS); obtain ⟨s0, s1⟩ := hS; (try go_simp); (try with_reducible rfl))
        try simp only [Act.put, List.getElem_toArray, List.getElem_cons_zero, List.getElem_cons_succ, List.setIfInBounds_toArray, List.set_cons_zero, List.set_cons_succ]
        refine wpAnyH_take (i := 3) (v := ?va13) rfl (by kernel_rfl) (by kernel_rfl) (by kernel_rfl) (fun _ _ _ h => h) (Or.inl ⟨by rfl, ?ya13⟩) hHeld ?ra13
        case ya13 => (intro w' hS; (try dsimp only at hS); obtain ⟨s0, s1⟩ := hS; (try go_simp); (try with_reducible rfl))
        try simp only [Act.put, List.getElem_toArray, List.getElem_cons_zero, List.getElem_cons_succ, List.setIfInBounds_toArray, List.set_cons_zero, List.set_cons_succ]
        refine wpAnyH_take (i := 4) (v := ?va14) rfl (by kernel_rfl) (by kernel_rfl) (by kernel_rfl) (fun _ _ _ h => h) (Or.inl ⟨by rfl, ?ya14⟩) hHeld ?ra14
        case ya14 => (intro w' hS; (try dsimp only at hS); obtain ⟨s0, s1⟩ := hS; (try go_simp); (try with_reducible rfl))
        try simp only [Act.put, List.getElem_toArray, List.getElem_cons_zero, List.getElem_cons_succ, List.setIfInBounds_toArray, List.set_cons_zero, List.set_cons_succ]
        refine wpAnyH_take (i := 5) (v := ?va15) rfl (by kernel_rfl) (by kernel_rfl) (by kernel_rfl) (fun _ _ _ h => h) (Or.inl ⟨by rfl, ?ya15⟩) hHeld ?ra15
        case ya15 => (intro w' hS; (try dsimp only at hS); obtain ⟨s0, s1⟩ := hS; (try go_simp); (try with_reducible rfl))
        try simp only [Act.put, List.getElem_toArray, List.getElem_cons_zero, List.getElem_cons_succ, List.setIfInBounds_toArray, List.set_cons_zero, List.set_cons_succ]
        refine wpAnyH_take (i := 6) (v := undef) rfl (by kernel_rfl) (by kernel_rfl) (by kernel_rfl) (fun _ _ _ h => h) (Or.inr ⟨by rfl, rfl⟩) hHeld ?_
        try simp only [Act.put, List.getElem_toArray, List.getElem_cons_zero, List.getElem_cons_succ, List.setIfInBounds_toArray, List.set_cons_zero, List.set_cons_succ]
        refine wpAnyH_take (i := 7) (v := undef) rfl (by kernel_rfl) (by kernel_rfl) (by kernel_rfl) (fun _ _ _ h => h) (Or.inr ⟨by rfl, rfl⟩) hHeld ?_
        try simp only [Act.put, List.getElem_toArray, List.getElem_cons_zero, List.getElem_cons_succ, List.setIfInBounds_toArray, List.set_cons_zero, List.set_cons_succ]
        refine wpAnyH_take (i := 8) (v := undef) rfl (by kernel_rfl) (by kernel_rfl) (by kernel_rfl) (fun _ _ _ h => h) (Or.inr ⟨by rfl, rfl⟩) hHeld ?_
        try simp only [Act.put, List.getElem_toArray, List.getElem_cons_zero, List.getElem_cons_succ, List.setIfInBounds_toArray, List.set_cons_zero, List.set_cons_succ]
        refine wpAnyH_take (i := 9) (v := undef) rfl (by kernel_rfl) (by kernel_rfl) (by kernel_rfl) (fun _ _ _ h => h) (Or.inr ⟨by rfl, rfl⟩) hHeld ?_
        try simp only [Act.put, List.getElem_toArray, List.getElem_cons_zero, List.getElem_cons_succ, List.setIfInBounds_toArray, List.set_cons_zero, List.set_cons_succ]
        refine wpAnyH_take (i := 10) (v := undef) rfl (by kernel_rfl) (by kernel_rfl) (by kernel_rfl) (fun _ _ _ h => h) (Or.inr ⟨by rfl, rfl⟩) hHeld ?_
        try simp only [Act.put, List.getElem_toArray, List.getElem_cons_zero, List.getElem_cons_succ, List.setIfInBounds_toArray, List.set_cons_zero, List.set_cons_succ]
        refine wpAnyH_take (i := 11) (v := undef) rfl (by kernel_rfl) (by kernel_rfl) (by kernel_rfl) (fun _ _ _ h => h) (Or.inr ⟨by rfl, rfl⟩) hHeld ?_
        try simp only [Act.put, List.getElem_toArray, List.getElem_cons_zero, List.getElem_cons_succ, List.setIfInBounds_toArray, List.set_cons_zero, List.set_cons_succ]
        refine wpAnyH_take (i := 12) (v := undef) rfl (by kernel_rfl) (by kernel_rfl) (by kernel_rfl) (fun _ _ _ h => h) (Or.inr ⟨by rfl, rfl⟩) hHeld ?_
        try simp only [Act.put, List.getElem_toArray, List.getElem_cons_zero, List.getElem_cons_succ, List.setIfInBounds_toArray, List.set_cons_zero, List.set_cons_succ]
        refine wpAnyH_take (i := 13) (v := undef) rfl (by kernel_rfl) (by kernel_rfl) (by kernel_rfl) (fun _ _ _ h => h) (Or.inr ⟨by rfl, rfl⟩) hHeld ?_
        try simp only [Act.put, List.getElem_toArray, List.getElem_cons_zero, List.getElem_cons_succ, List.setIfInBounds_toArray, List.set_cons_zero, List.set_cons_succ]
        refine wpAnyH_take (i := 14) (v := ?va114) rfl (by kernel_rfl) (by kernel_rfl) (by kernel_rfl) (fun _ _ _ h => h) (Or.inl ⟨by rfl, ?ya114⟩) hHeld ?ra114
        case ya114 => (intro w' hS; (try dsimp only at hS); obtain ⟨s0, s1⟩ := hS; (try go_simp); (try with_reducible rfl))
        try simp only [Act.put, List.getElem_toArray, List.getElem_cons_zero, List.getElem_cons_succ, List.setIfInBounds_toArray, List.set_cons_zero, List.set_cons_succ]
        refine wpAnyH_done (by kernel_rfl) ?_ _
        simp only [OnlyNormal]
        gi_wp2
        by_cases hmx : sp.2 < x.1.2.2.rc.seq
        · have hmv : Hid (max sp.2 x.1.2.2.rc.seq = x.1.2.2.rc.seq) := by unfold Hid; omega
          refine region_round (by kernel_rfl) (by kernel_rfl) ?_
          refine wpAny_take (i := 0) (v := ?vb20) rfl (by kernel_rfl) (by kernel_rfl) (by kernel_rfl) (fun _ _ _ h => h) (Or.inl ⟨by rfl, ?yb20⟩) ?rb20
          case yb20 => (intro w'; (try go_simp); (try with_reducible rfl))
          try simp only [Act.put, List.getElem_toArray, List.getElem_cons_zero, List.getElem_cons_succ, List.setIfInBounds_toArray, List.set_cons_zero, List.set_cons_succ]
          refine wpAny_take (i := 1) (v := ?vb21) rfl (by kernel_rfl) (by kernel_rfl) (by kernel_rfl) (fun _ _ _ h => h) (Or.inl ⟨by rfl, ?yb21⟩) ?rb21
          case yb21 => (intro w'; (try go_simp); (try with_reducible rfl))
          try simp only [Act.put, List.getElem_toArray, List.getElem_cons_zero, List.getElem_cons_succ, List.setIfInBounds_toArray, List.set_cons_zero, List.set_cons_succ]
          refine wpAny_take (i := 2) (v := ?vb22) rfl (by kernel_rfl) (by kernel_rfl) (by kernel_rfl) (fun _ _ _ h => h) (Or.inl ⟨by rfl, ?yb22⟩) ?rb22
          case yb22 => (intro w'; (try go_simp); (try with_reducible rfl))
          try simp only [Act.put, List.getElem_toArray, List.getElem_cons_zero, List.getElem_cons_succ, List.setIfInBounds_toArray, List.set_cons_zero, List.set_cons_succ]
          refine wpAny_take (i := 3) (v := ?vb23) rfl (by kernel_rfl) (by kernel_rfl) (by kernel_rfl) (fun _ _ _ h => h) (Or.inl ⟨by rfl, ?yb23⟩) ?rb23
          case yb23 => (intro w'; (try go_simp); (try with_reducible rfl))
          try simp only [Act.put, List.getElem_toArray, List.getElem_cons_zero, List.getElem_cons_succ, List.setIfInBounds_toArray, List.set_cons_zero, List.set_cons_succ]
          refine wpAny_take (i := 5) (v := ?vb25) rfl (by kernel_rfl) (by kernel_rfl) (by kernel_rfl) (fun _ _ _ h => h) (Or.inl ⟨by rfl, ?yb25⟩) ?rb25
          case yb25 => (intro w'; (try go_simp); (try with_reducible rfl))
          try simp only [Act.put, List.getElem_toArray, List.getElem_cons_zero, List.getElem_cons_succ, List.setIfInBounds_toArray, List.set_cons_zero, List.set_cons_succ]
          refine wpAny_take (i := 6) (v := ?vb26) rfl (by kernel_rfl) (by kernel_rfl) (by kernel_rfl) (fun _ _ _ h => h) (Or.inl ⟨by rfl, ?yb26⟩) ?rb26
          case yb26 => (intro w'; (try go_simp); (try with_reducible rfl))
          try simp only [Act.put, List.getElem_toArray, List.getElem_cons_zero, List.getElem_cons_succ, List.setIfInBounds_toArray, List.set_cons_zero, List.set_cons_succ]
          refine wpAny_ready (rs := [4, 7]) (by kernel_rfl) (by simp) ?_
          refine AllReady.cons rfl (fun K hK => ?_) (AllReady.cons rfl (fun K hK => ?_) AllReady.nil)
          · go_simp
            refine hK _ _ ?_
            clear hK K
            try simp only [Act.put, List.getElem_toArray, List.getElem_cons_zero, List.getElem_cons_succ, List.setIfInBounds_toArray, List.set_cons_zero, List.set_cons_succ]
            refine wpAny_ready (rs := [7]) (by kernel_rfl) (by simp) ?_
            refine AllReady.cons rfl (fun K hK => ?_) AllReady.nil
            go_simp
            refine hK _ _ ?_
            clear hK K
            try simp only [Act.put, List.getElem_toArray, List.getElem_cons_zero, List.getElem_cons_succ, List.setIfInBounds_toArray, List.set_cons_zero, List.set_cons_succ]
            refine wpAny_take (i := 8) (v := ?vb28x4) rfl (by kernel_rfl) (by kernel_rfl) (by kernel_rfl) (fun _ _ _ h => h) (Or.inl ⟨by rfl, ?yb28x4⟩) ?rb28x4
            case yb28x4 => (intro w'; (try go_simp); (try with_reducible rfl))
            try simp only [Act.put, List.getElem_toArray, List.getElem_cons_zero, List.getElem_cons_succ, List.setIfInBounds_toArray, List.set_cons_zero, List.set_cons_succ]
            refine wpAny_take (i := 9) (v := ?vb29x4) rfl (by kernel_rfl) (by kernel_rfl) (by kernel_rfl) (fun _ _ _ h => h) (Or.inl ⟨by rfl, ?yb29x4⟩) ?rb29x4
            case yb29x4 => (intro w'; (try go_simp); (try with_reducible rfl))
            try simp only [Act.put, List.getElem_toArray, List.getElem_cons_zero, List.getElem_cons_succ, List.setIfInBounds_toArray, List.set_cons_zero, List.set_cons_succ]
            refine wpAny_take (i := 10) (v := ?vb210x4) rfl (by kernel_rfl) (by kernel_rfl) (by kernel_rfl) (fun _ _ _ h => h) (Or.inl ⟨by rfl, ?yb210x4⟩) ?rb210x4
            case yb210x4 => (intro w'; (try go_simp); (try with_reducible rfl))
            try simp only [Act.put, List.getElem_toArray, List.getElem_cons_zero, List.getElem_cons_succ, List.setIfInBounds_toArray, List.set_cons_zero, List.set_cons_succ]
            refine wpAny_ready (rs := [11]) (by kernel_rfl) (by simp) ?_
            refine AllReady.cons rfl (fun K hK => ?_) AllReady.nil
            go_simp
            refine hK _ _ ?_
            clear hK K
            try simp only [Act.put, List.getElem_toArray, List.getElem_cons_zero, List.getElem_cons_succ, List.setIfInBounds_toArray, List.set_cons_zero, List.set_cons_succ]
            refine wpAny_done (by kernel_rfl) ?_ _
            simp only [OnlyNormal]
            have hW : Wrote W ((W.setCell ⟨w.heap.size, x.1.1 * 2, none⟩ (.int .i64 x.1.2.2.rc.seq)).setCell ⟨w.heap.size, x.1.1 * 2 + 1, none⟩ (.int .i64 x.1.2.2.rc.seq)) w.heap.size (x.1.1 * 2) (Spn (lowOf sp x.1.2.2.rc.seq, max sp.2 x.1.2.2.rc.seq)) := by
              rw [hlo.out, hmv.out]
              exact wrote_setRow w.heap.size [.int .i64 x.1.2.2.rc.seq, .int .i64 x.1.2.2.rc.seq] (x.1.1 * 2) W (fun j hj => by
                match j, hj with
                | 0, _ => exact ⟨_, l0⟩
                | 1, _ => exact ⟨_, l1⟩)
            have hBL : Below w.heap.size W ((W.setCell ⟨w.heap.size, x.1.1 * 2, none⟩ (.int .i64 x.1.2.2.rc.seq)).setCell ⟨w.heap.size, x.1.1 * 2 + 1, none⟩ (.int .i64 x.1.2.2.rc.seq)).drew.drew := ((((Below.refl w.heap.size W).setCell (p := ⟨w.heap.size, x.1.1 * 2, none⟩) (Nat.le_refl _) (.int .i64 x.1.2.2.rc.seq)).setCell (p := ⟨w.heap.size, x.1.1 * 2 + 1, none⟩) (Nat.le_refl _) (.int .i64 x.1.2.2.rc.seq)).drew).drew
            have hBX : Boxed ((W.setCell ⟨w.heap.size, x.1.1 * 2, none⟩ (.int .i64 x.1.2.2.rc.seq)).setCell ⟨w.heap.size, x.1.1 * 2 + 1, none⟩ (.int .i64 x.1.2.2.rc.seq)).drew.drew (w.heap.size + 1) 141 (.slice (some ⟨w.heap.size, 0, none⟩) 4 4) := (hW.block (w.heap.size + 1) (by omega)).trans bV1
            have hRW : Row ((W.setCell ⟨w.heap.size, x.1.1 * 2, none⟩ (.int .i64 x.1.2.2.rc.seq)).setCell ⟨w.heap.size, x.1.1 * 2 + 1, none⟩ (.int .i64 x.1.2.2.rc.seq)).drew.drew (some ⟨w.heap.size, 0, none⟩) (spv (spOf ((pre ++ [x]).map Subtype.val))) := (HROW.out _ hW).drew.drew
            clear hW HROW
            gi_wp2
            exact ⟨((((KeepsOthers.setCell _ _ _).trans (KeepsOthers.setCell _ _ _)).trans (KeepsOthers.drew _)).trans (KeepsOthers.drew _)).from _, hBL, ⟨hBX, hRW⟩, hB1.trans hBL⟩
          · go_simp
            refine hK _ _ ?_
            clear hK K
            try simp only [Act.put, List.getElem_toArray, List.getElem_cons_zero, List.getElem_cons_succ, List.setIfInBounds_toArray, List.set_cons_zero, List.set_cons_succ]
            refine wpAny_ready (rs := [4]) (by kernel_rfl) (by simp) ?_
            refine AllReady.cons rfl (fun K hK => ?_) AllReady.nil
            go_simp
            refine hK _ _ ?_
            clear hK K
            try simp only [Act.put, List.getElem_toArray, List.getElem_cons_zero, List.getElem_cons_succ, List.setIfInBounds_toArray, List.set_cons_zero, List.set_cons_succ]
            refine wpAny_take (i := 8) (v := ?vb28x7) rfl (by kernel_rfl) (by kernel_rfl) (by kernel_rfl) (fun _ _ _ h => h) (Or.inl ⟨by rfl, ?yb28x7⟩) ?rb28x7
            case yb28x7 => (intro w'; (try go_simp); (try with_reducible rfl))
            try simp only [Act.put, List.getElem_toArray, List.getElem_cons_zero, List.getElem_cons_succ, List.setIfInBounds_toArray, List.set_cons_zero, List.set_cons_succ]
            refine wpAny_take (i := 9) (v := ?vb29x7) rfl (by kernel_rfl) (by kernel_rfl) (by kernel_rfl) (fun _ _ _ h => h) (Or.inl ⟨by rfl, ?yb29x7⟩) ?rb29x7
            case yb29x7 => (intro w'; (try go_simp); (try with_reducible rfl))
            try simp only [Act.put, List.getElem_toArray, List.getElem_cons_zero, List.getElem_cons_succ, List.setIfInBounds_toArray, List.set_cons_zero, List.set_cons_succ]
            refine wpAny_take (i := 10) (v := ?vb210x7) rfl (by kernel_rfl) (by kernel_rfl) (by kernel_rfl) (fun _ _ _ h => h) (Or.inl ⟨by rfl, ?yb210x7⟩) ?rb210x7
            case yb210x7 => (intro w'; (try go_simp); (try with_reducible rfl))
            try simp only [Act.put, List.getElem_toArray, List.getElem_cons_zero, List.getElem_cons_succ, List.setIfInBounds_toArray, List.set_cons_zero, List.set_cons_succ]
            refine wpAny_ready (rs := [11]) (by kernel_rfl) (by simp) ?_
            refine AllReady.cons rfl (fun K hK => ?_) AllReady.nil
            go_simp
            refine hK _ _ ?_
            clear hK K
            try simp only [Act.put, List.getElem_toArray, List.getElem_cons_zero, List.getElem_cons_succ, List.setIfInBounds_toArray, List.set_cons_zero, List.set_cons_succ]
            refine wpAny_done (by kernel_rfl) ?_ _
            simp only [OnlyNormal]
            have hW : Wrote W ((W.setCell ⟨w.heap.size, x.1.1 * 2, none⟩ (.int .i64 x.1.2.2.rc.seq)).setCell ⟨w.heap.size, x.1.1 * 2 + 1, none⟩ (.int .i64 x.1.2.2.rc.seq)) w.heap.size (x.1.1 * 2) (Spn (lowOf sp x.1.2.2.rc.seq, max sp.2 x.1.2.2.rc.seq)) := by
              rw [hlo.out, hmv.out]
              exact wrote_setRow w.heap.size [.int .i64 x.1.2.2.rc.seq, .int .i64 x.1.2.2.rc.seq] (x.1.1 * 2) W (fun j hj => by
                match j, hj with
                | 0, _ => exact ⟨_, l0⟩
                | 1, _ => exact ⟨_, l1⟩)
            have hBL : Below w.heap.size W ((W.setCell ⟨w.heap.size, x.1.1 * 2, none⟩ (.int .i64 x.1.2.2.rc.seq)).setCell ⟨w.heap.size, x.1.1 * 2 + 1, none⟩ (.int .i64 x.1.2.2.rc.seq)).drew.drew := ((((Below.refl w.heap.size W).setCell (p := ⟨w.heap.size, x.1.1 * 2, none⟩) (Nat.le_refl _) (.int .i64 x.1.2.2.rc.seq)).setCell (p := ⟨w.heap.size, x.1.1 * 2 + 1, none⟩) (Nat.le_refl _) (.int .i64 x.1.2.2.rc.seq)).drew).drew
            have hBX : Boxed ((W.setCell ⟨w.heap.size, x.1.1 * 2, none⟩ (.int .i64 x.1.2.2.rc.seq)).setCell ⟨w.heap.size, x.1.1 * 2 + 1, none⟩ (.int .i64 x.1.2.2.rc.seq)).drew.drew (w.heap.size + 1) 141 (.slice (some ⟨w.heap.size, 0, none⟩) 4 4) := (hW.block (w.heap.size + 1) (by omega)).trans bV1
            have hRW : Row ((W.setCell ⟨w.heap.size, x.1.1 * 2, none⟩ (.int .i64 x.1.2.2.rc.seq)).setCell ⟨w.heap.size, x.1.1 * 2 + 1, none⟩ (.int .i64 x.1.2.2.rc.seq)).drew.drew (some ⟨w.heap.size, 0, none⟩) (spv (spOf ((pre ++ [x]).map Subtype.val))) := (HROW.out _ hW).drew.drew
            clear hW HROW
            gi_wp2
            exact ⟨((((KeepsOthers.setCell _ _ _).trans (KeepsOthers.setCell _ _ _)).trans (KeepsOthers.drew _)).trans (KeepsOthers.drew _)).from _, hBL, ⟨hBX, hRW⟩, hB1.trans hBL⟩
        · have hmv : Hid (max sp.2 x.1.2.2.rc.seq = sp.2) := by unfold Hid; omega
          refine region_round (by kernel_rfl) (by kernel_rfl) ?_
          refine wpAny_take (i := 0) (v := ?vb30) rfl (by kernel_rfl) (by kernel_rfl) (by kernel_rfl) (fun _ _ _ h => h) (Or.inl ⟨by rfl, ?yb30⟩) ?rb30
          case yb30 => (intro w'; (try go_simp); (try with_reducible rfl))
          try simp only [Act.put, List.getElem_toArray, List.getElem_cons_zero, List.getElem_cons_succ, List.setIfInBounds_toArray, List.set_cons_zero, List.set_cons_succ]
          refine wpAny_take (i := 1) (v := ?vb31) rfl (by kernel_rfl) (by kernel_rfl) (by kernel_rfl) (fun _ _ _ h => h) (Or.inl ⟨by rfl, ?yb31⟩) ?rb31
          case yb31 => (intro w'; (try go_simp); (try with_reducible rfl))
          try simp only [Act.put, List.getElem_toArray, List.getElem_cons_zero, List.getElem_cons_succ, List.setIfInBounds_toArray, List.set_cons_zero, List.set_cons_succ]
          refine wpAny_take (i := 2) (v := ?vb32) rfl (by kernel_rfl) (by kernel_rfl) (by kernel_rfl) (fun _ _ _ h => h) (Or.inl ⟨by rfl, ?yb32⟩) ?rb32
          case yb32 => (intro w'; (try go_simp); (try with_reducible rfl))
          try simp only [Act.put, List.getElem_toArray, List.getElem_cons_zero, List.getElem_cons_succ, List.setIfInBounds_toArray, List.set_cons_zero, List.set_cons_succ]
          refine wpAny_take (i := 3) (v := ?vb33) rfl (by kernel_rfl) (by kernel_rfl) (by kernel_rfl) (fun _ _ _ h => h) (Or.inl ⟨by rfl, ?yb33⟩) ?rb33
          case yb33 => (intro w'; (try go_simp); (try with_reducible rfl))
          try simp only [Act.put, List.getElem_toArray, List.getElem_cons_zero, List.getElem_cons_succ, List.setIfInBounds_toArray, List.set_cons_zero, List.set_cons_succ]
          refine wpAny_take (i := 5) (v := ?vb35) rfl (by kernel_rfl) (by kernel_rfl) (by kernel_rfl) (fun _ _ _ h => h) (Or.inl ⟨by rfl, ?yb35⟩) ?rb35
          case yb35 => (intro w'; (try go_simp); (try with_reducible rfl))
          try simp only [Act.put, List.getElem_toArray, List.getElem_cons_zero, List.getElem_cons_succ, List.setIfInBounds_toArray, List.set_cons_zero, List.set_cons_succ]
          refine wpAny_take (i := 6) (v := ?vb36) rfl (by kernel_rfl) (by kernel_rfl) (by kernel_rfl) (fun _ _ _ h => h) (Or.inl ⟨by rfl, ?yb36⟩) ?rb36
          case yb36 => (intro w'; (try go_simp); (try with_reducible rfl))
          try simp only [Act.put, List.getElem_toArray, List.getElem_cons_zero, List.getElem_cons_succ, List.setIfInBounds_toArray, List.set_cons_zero, List.set_cons_succ]
          refine wpAny_ready (rs := [4, 7]) (by kernel_rfl) (by simp) ?_
          refine AllReady.cons rfl (fun K hK => ?_) (AllReady.cons rfl (fun K hK => ?_) AllReady.nil)
          · go_simp
            refine hK _ _ ?_
            clear hK K
            try simp only [Act.put, List.getElem_toArray, List.getElem_cons_zero, List.getElem_cons_succ, List.setIfInBounds_toArray, List.set_cons_zero, List.set_cons_succ]
            refine wpAny_ready (rs := [7]) (by kernel_rfl) (by simp) ?_
            refine AllReady.cons rfl (fun K hK => ?_) AllReady.nil
            go_simp
            refine hK _ _ ?_
            clear hK K
            try simp only [Act.put, List.getElem_toArray, List.getElem_cons_zero, List.getElem_cons_succ, List.setIfInBounds_toArray, List.set_cons_zero, List.set_cons_succ]
            refine wpAny_take (i := 8) (v := ?vb38x4) rfl (by kernel_rfl) (by kernel_rfl) (by kernel_rfl) (fun _ _ _ h => h) (Or.inl ⟨by rfl, ?yb38x4⟩) ?rb38x4
            case yb38x4 => (intro w'; (try go_simp); (try with_reducible rfl))
            try simp only [Act.put, List.getElem_toArray, List.getElem_cons_zero, List.getElem_cons_succ, List.setIfInBounds_toArray, List.set_cons_zero, List.set_cons_succ]
            refine wpAny_take (i := 9) (v := ?vb39x4) rfl (by kernel_rfl) (by kernel_rfl) (by kernel_rfl) (fun _ _ _ h => h) (Or.inl ⟨by rfl, ?yb39x4⟩) ?rb39x4
            case yb39x4 => (intro w'; (try go_simp); (try with_reducible rfl))
            try simp only [Act.put, List.getElem_toArray, List.getElem_cons_zero, List.getElem_cons_succ, List.setIfInBounds_toArray, List.set_cons_zero, List.set_cons_succ]
            refine wpAny_take (i := 10) (v := ?vb310x4) rfl (by kernel_rfl) (by kernel_rfl) (by kernel_rfl) (fun _ _ _ h => h) (Or.inl ⟨by rfl, ?yb310x4⟩) ?rb310x4
            case yb310x4 => (intro w'; (try go_simp); (try with_reducible rfl))
            try simp only [Act.put, List.getElem_toArray, List.getElem_cons_zero, List.getElem_cons_succ, List.setIfInBounds_toArray, List.set_cons_zero, List.set_cons_succ]
            refine wpAny_ready (rs := [11]) (by kernel_rfl) (by simp) ?_
            refine AllReady.cons rfl (fun K hK => ?_) AllReady.nil
            go_simp
            refine hK _ _ ?_
            clear hK K
            try simp only [Act.put, List.getElem_toArray, List.getElem_cons_zero, List.getElem_cons_succ, List.setIfInBounds_toArray, List.set_cons_zero, List.set_cons_succ]
            refine wpAny_done (by kernel_rfl) ?_ _
            simp only [OnlyNormal]
            have hW : Wrote W ((W.setCell ⟨w.heap.size, x.1.1 * 2, none⟩ (.int .i64 x.1.2.2.rc.seq)).setCell ⟨w.heap.size, x.1.1 * 2 + 1, none⟩ (.int .i64 sp.2)) w.heap.size (x.1.1 * 2) (Spn (lowOf sp x.1.2.2.rc.seq, max sp.2 x.1.2.2.rc.seq)) := by
              rw [hlo.out, hmv.out]
              exact wrote_setRow w.heap.size [.int .i64 x.1.2.2.rc.seq, .int .i64 sp.2] (x.1.1 * 2) W (fun j hj => by
                match j, hj with
                | 0, _ => exact ⟨_, l0⟩
                | 1, _ => exact ⟨_, l1⟩)
            have hBL : Below w.heap.size W ((W.setCell ⟨w.heap.size, x.1.1 * 2, none⟩ (.int .i64 x.1.2.2.rc.seq)).setCell ⟨w.heap.size, x.1.1 * 2 + 1, none⟩ (.int .i64 sp.2)).drew.drew := ((((Below.refl w.heap.size W).setCell (p := ⟨w.heap.size, x.1.1 * 2, none⟩) (Nat.le_refl _) (.int .i64 x.1.2.2.rc.seq)).setCell (p := ⟨w.heap.size, x.1.1 * 2 + 1, none⟩) (Nat.le_refl _) (.int .i64 sp.2)).drew).drew
            have hBX : Boxed ((W.setCell ⟨w.heap.size, x.1.1 * 2, none⟩ (.int .i64 x.1.2.2.rc.seq)).setCell ⟨w.heap.size, x.1.1 * 2 + 1, none⟩ (.int .i64 sp.2)).drew.drew (w.heap.size + 1) 141 (.slice (some ⟨w.heap.size, 0, none⟩) 4 4) := (hW.block (w.heap.size + 1) (by omega)).trans bV1
            have hRW : Row ((W.setCell ⟨w.heap.size, x.1.1 * 2, none⟩ (.int .i64 x.1.2.2.rc.seq)).setCell ⟨w.heap.size, x.1.1 * 2 + 1, none⟩ (.int .i64 sp.2)).drew.drew (some ⟨w.heap.size, 0, none⟩) (spv (spOf ((pre ++ [x]).map Subtype.val))) := (HROW.out _ hW).drew.drew
            clear hW HROW
            gi_wp2
            exact ⟨((((KeepsOthers.setCell _ _ _).trans (KeepsOthers.setCell _ _ _)).trans (KeepsOthers.drew _)).trans (KeepsOthers.drew _)).from _, hBL, ⟨hBX, hRW⟩, hB1.trans hBL⟩
          · go_simp
            refine hK _ _ ?_
            clear hK K
            try simp only [Act.put, List.getElem_toArray, List.getElem_cons_zero, List.getElem_cons_succ, List.setIfInBounds_toArray, List.set_cons_zero, List.set_cons_succ]
            refine wpAny_ready (rs := [4]) (by kernel_rfl) (by simp) ?_
            refine AllReady.cons rfl (fun K hK => ?_) AllReady.nil
            go_simp
            refine hK _ _ ?_
            clear hK K
            try simp only [Act.put, List.getElem_toArray, List.getElem_cons_zero, List.getElem_cons_succ, List.setIfInBounds_toArray, List.set_cons_zero, List.set_cons_succ]
            refine wpAny_take (i := 8) (v := ?vb38x7) rfl (by kernel_rfl) (by kernel_rfl) (by kernel_rfl) (fun _ _ _ h => h) (Or.inl ⟨by rfl, ?yb38x7⟩) ?rb38x7
            case yb38x7 => (intro w'; (try go_simp); (try with_reducible rfl))
            try simp only [Act.put, List.getElem_toArray, List.getElem_cons_zero, List.getElem_cons_succ, List.setIfInBounds_toArray, List.set_cons_zero, List.set_cons_succ]
            refine wpAny_take (i := 9) (v := ?vb39x7) rfl (by kernel_rfl) (by kernel_rfl) (by kernel_rfl) (fun _ _ _ h => h) (Or.inl ⟨by rfl, ?yb39x7⟩) ?rb39x7
            case yb39x7 => (intro w'; (try go_simp); (try with_reducible rfl))
            try simp only [Act.put, List.getElem_toArray, List.getElem_cons_zero, List.getElem_cons_succ, List.setIfInBounds_toArray, List.set_cons_zero, List.set_cons_succ]
            refine wpAny_take (i := 10) (v := ?vb310x7) rfl (by kernel_rfl) (by kernel_rfl) (by kernel_rfl) (fun _ _ _ h => h) (Or.inl ⟨by rfl, ?yb310x7⟩) ?rb310x7
            case yb310x7 => (intro w'; (try go_simp); (try with_reducible rfl))
            try simp only [Act.put, List.getElem_toArray, List.getElem_cons_zero, List.getElem_cons_succ, List.setIfInBounds_toArray, List.set_cons_zero, List.set_cons_succ]
            refine wpAny_ready (rs := [11]) (by kernel_rfl) (by simp) ?_
            refine AllReady.cons rfl (fun K hK => ?_) AllReady.nil
            go_simp
            refine hK _ _ ?_
            clear hK K
            try simp only [Act.put, List.getElem_toArray, List.getElem_cons_zero, List.getElem_cons_succ, List.setIfInBounds_toArray, List.set_cons_zero, List.set_cons_succ]
            refine wpAny_done (by kernel_rfl) ?_ _
            simp only [OnlyNormal]
            have hW : Wrote W ((W.setCell ⟨w.heap.size, x.1.1 * 2, none⟩ (.int .i64 x.1.2.2.rc.seq)).setCell ⟨w.heap.size, x.1.1 * 2 + 1, none⟩ (.int .i64 sp.2)) w.heap.size (x.1.1 * 2) (Spn (lowOf sp x.1.2.2.rc.seq, max sp.2 x.1.2.2.rc.seq)) := by
              rw [hlo.out, hmv.out]
              exact wrote_setRow w.heap.size [.int .i64 x.1.2.2.rc.seq, .int .i64 sp.2] (x.1.1 * 2) W (fun j hj => by
                match j, hj with
                | 0, _ => exact ⟨_, l0⟩
                | 1, _ => exact ⟨_, l1⟩)
            have hBL : Below w.heap.size W ((W.setCell ⟨w.heap.size, x.1.1 * 2, none⟩ (.int .i64 x.1.2.2.rc.seq)).setCell ⟨w.heap.size, x.1.1 * 2 + 1, none⟩ (.int .i64 sp.2)).drew.drew := ((((Below.refl w.heap.size W).setCell (p := ⟨w.heap.size, x.1.1 * 2, none⟩) (Nat.le_refl _) (.int .i64 x.1.2.2.rc.seq)).setCell (p := ⟨w.heap.size, x.1.1 * 2 + 1, none⟩) (Nat.le_refl _) (.int .i64 sp.2)).drew).drew
            have hBX : Boxed ((W.setCell ⟨w.heap.size, x.1.1 * 2, none⟩ (.int .i64 x.1.2.2.rc.seq)).setCell ⟨w.heap.size, x.1.1 * 2 + 1, none⟩ (.int .i64 sp.2)).drew.drew (w.heap.size + 1) 141 (.slice (some ⟨w.heap.size, 0, none⟩) 4 4) := (hW.block (w.heap.size + 1) (by omega)).trans bV1
            have hRW : Row ((W.setCell ⟨w.heap.size, x.1.1 * 2, none⟩ (.int .i64 x.1.2.2.rc.seq)).setCell ⟨w.heap.size, x.1.1 * 2 + 1, none⟩ (.int .i64 sp.2)).drew.drew (some ⟨w.heap.size, 0, none⟩) (spv (spOf ((pre ++ [x]).map Subtype.val))) := (HROW.out _ hW).drew.drew
            clear hW HROW
            gi_wp2
            exact ⟨((((KeepsOthers.setCell _ _ _).trans (KeepsOthers.setCell _ _ _)).trans (KeepsOthers.drew _)).trans (KeepsOthers.drew _)).from _, hBL, ⟨hBX, hRW⟩, hB1.trans hBL⟩
      · have hz' : (sp.1 == 0) = false := by simpa using hz
        by_cases hq : x.1.2.2.rc.seq < sp.1
        · have hlo : Hid (lowOf sp x.1.2.2.rc.seq = x.1.2.2.rc.seq) := by unfold Hid lowOf; rw [if_pos (.inr hq)]
          gi_wp2
          refine region_round_held (S := fun w' => w'.cell? ⟨w.heap.size, x.1.1 * 2, none⟩ = some (.int .i64 sp.1) ∧ w'.cell? ⟨B5, 2, none⟩ = some (.int .i64 x.1.2.2.rc.seq)) (by kernel_rfl) (by kernel_rfl) ⟨l0, x2⟩ (fun hHeld => ?_)
          refine wpAnyH_take (i := 0) (v := ?va40) rfl (by kernel_rfl) (by kernel_rfl) (by kernel_rfl) (fun _ _ _ h => h) (Or.inl ⟨by rfl, ?ya40⟩) hHeld ?ra40
          case ya40 => (intro w' hS; (try dsimp only at hS); obtain ⟨s0, s1⟩ := hS; (try go_simp); (try with_reducible rfl))
          try simp only [Act.put, List.getElem_toArray, List.getElem_cons_zero, List.getElem_cons_succ, List.setIfInBounds_toArray, List.set_cons_zero, List.set_cons_succ]
          refine wpAnyH_take (i := 1) (v := ?va41) rfl (by kernel_rfl) (by kernel_rfl) (by kernel_rfl) (fun _ _ _ h => h) (Or.inl ⟨by rfl, ?ya41⟩) hHeld ?ra41
          case ya41 => (intro w' hS; (try dsimp only at hS); obtain ⟨s0, s1⟩ := hS; (try go_simp); (try with_reducible rfl))
          try simp only [Act.put, List.getElem_toArray, List.getElem_cons_zero, List.getElem_cons_succ, List.setIfInBounds_toArray, List.set_cons_zero, List.set_cons_succ]
          refine wpAnyH_take (i := 2) (v := ?va42) rfl (by kernel_rfl) (by kernel_rfl) (by kernel_rfl) (fun _ _ _ h => h) (Or.inl ⟨by rfl, ?ya42⟩) hHeld ?ra42
          case ya42 => (intro w' hS; (try dsimp only at hS); obtain ⟨s0, s1⟩ := hS; (try go_simp); (try with_reducible rfl))
          try simp only [Act.put, List.getElem_toArray, List.getElem_cons_zero, List.getElem_cons_succ, List.setIfInBounds_toArray, List.set_cons_zero, List.set_cons_succ]
          refine wpAnyH_take (i := 3) (v := ?va43) rfl (by kernel_rfl) (by kernel_rfl) (by kernel_rfl) (fun _ _ _ h => h) (Or.inl ⟨by rfl, ?ya43⟩) hHeld ?ra43
          case ya43 => (intro w' hS; (try dsimp only at hS); obtain ⟨s0, s1⟩ := hS; (try go_simp); (try with_reducible rfl))
          try simp only [Act.put, List.getElem_toArray, List.getElem_cons_zero, List.getElem_cons_succ, List.setIfInBounds_toArray, List.set_cons_zero, List.set_cons_succ]
          refine wpAnyH_take (i := 4) (v := ?va44) rfl (by kernel_rfl) (by kernel_rfl) (by kernel_rfl) (fun _ _ _ h => h) (Or.inl ⟨by rfl, ?ya44⟩) hHeld ?ra44
          case ya44 => (intro w' hS; (try dsimp only at hS); obtain ⟨s0, s1⟩ := hS; (try go_simp); (try with_reducible rfl))
          try simp only [Act.put, List.getElem_toArray, List.getElem_cons_zero, List.getElem_cons_succ, List.setIfInBounds_toArray, List.set_cons_zero, List.set_cons_succ]
          refine wpAnyH_take (i := 5) (v := ?va45) rfl (by kernel_rfl) (by kernel_rfl) (by kernel_rfl) (fun _ _ _ h => h) (Or.inl ⟨by rfl, ?ya45⟩) hHeld ?ra45
          case ya45 => (intro w' hS; (try dsimp only at hS); obtain ⟨s0, s1⟩ := hS; (try go_simp); (try with_reducible rfl))
          try simp only [Act.put, List.getElem_toArray, List.getElem_cons_zero, List.getElem_cons_succ, List.setIfInBounds_toArray, List.set_cons_zero, List.set_cons_succ]
          refine wpAnyH_take (i := 6) (v := ?va46) rfl (by kernel_rfl) (by kernel_rfl) (by kernel_rfl) (fun _ _ _ h => h) (Or.inl ⟨by rfl, ?ya46⟩) hHeld ?ra46
          case ya46 => (intro w' hS; (try dsimp only at hS); obtain ⟨s0, s1⟩ := hS; (try go_simp); (try with_reducible rfl))
          try simp only [Act.put, List.getElem_toArray, List.getElem_cons_zero, List.getElem_cons_succ, List.setIfInBounds_toArray, List.set_cons_zero, List.set_cons_succ]
          refine wpAnyH_take (i := 7) (v := ?va47) rfl (by kernel_rfl) (by kernel_rfl) (by kernel_rfl) (fun _ _ _ h => h) (Or.inl ⟨by rfl, ?ya47⟩) hHeld ?ra47
          case ya47 => (intro w' hS; (try dsimp only at hS); obtain ⟨s0, s1⟩ := hS; (try go_simp); (try with_reducible rfl))
          try simp only [Act.put, List.getElem_toArray, List.getElem_cons_zero, List.getElem_cons_succ, List.setIfInBounds_toArray, List.set_cons_zero, List.set_cons_succ]
          refine wpAnyH_take (i := 8) (v := ?va48) rfl (by kernel_rfl) (by kernel_rfl) (by kernel_rfl) (fun _ _ _ h => h) (Or.inl ⟨by rfl, ?ya48⟩) hHeld ?ra48
          case ya48 => (intro w' hS; (try dsimp only at hS); obtain ⟨s0, s1⟩ := hS; (try go_simp); (try with_reducible rfl))
          try simp only [Act.put, List.getElem_toArray, List.getElem_cons_zero, List.getElem_cons_succ, List.setIfInBounds_toArray, List.set_cons_zero, List.set_cons_succ]
          refine wpAnyH_take (i := 9) (v := ?va49) rfl (by kernel_rfl) (by kernel_rfl) (by kernel_rfl) (fun _ _ _ h => h) (Or.inl ⟨by rfl, ?ya49⟩) hHeld ?ra49
          case ya49 => (intro w' hS; (try dsimp only at hS); obtain ⟨s0, s1⟩ := hS; (try go_simp); (try with_reducible rfl))
          try simp only [Act.put, List.getElem_toArray, List.getElem_cons_zero, List.getElem_cons_succ, List.setIfInBounds_toArray, List.set_cons_zero, List.set_cons_succ]
          refine wpAnyH_take (i := 10) (v := ?va410) rfl (by kernel_rfl) (by kernel_rfl) (by kernel_rfl) (fun _ _ _ h => h) (Or.inl ⟨by rfl, ?ya410⟩) hHeld ?ra410
          case ya410 => (intro w' hS; (try dsimp only at hS); obtain ⟨s0, s1⟩ := hS; (try go_simp); (try with_reducible rfl))
          try simp only [Act.put, List.getElem_toArray, List.getElem_cons_zero, List.getElem_cons_succ, List.setIfInBounds_toArray, List.set_cons_zero, List.set_cons_succ]
          refine wpAnyH_take (i := 11) (v := ?va411) rfl (by kernel_rfl) (by kernel_rfl) (by kernel_rfl) (fun _ _ _ h => h) (Or.inl ⟨by rfl, ?ya411⟩) hHeld ?ra411
          case ya411 => (intro w' hS; (try dsimp only at hS); obtain ⟨s0, s1⟩ := hS; (try go_simp); (try with_reducible rfl))
          try simp only [Act.put, List.getElem_toArray, List.getElem_cons_zero, List.getElem_cons_succ, List.setIfInBounds_toArray, List.set_cons_zero, List.set_cons_succ]
          refine wpAnyH_take (i := 12) (v := ?va412) rfl (by kernel_rfl) (by kernel_rfl) (by kernel_rfl) (fun _ _ _ h => h) (Or.inl ⟨by rfl, ?ya412⟩) hHeld ?ra412
          case ya412 => (intro w' hS; (try dsimp only at hS); obtain ⟨s0, s1⟩ := hS; (try go_simp); (try with_reducible rfl))
          try simp only [Act.put, List.getElem_toArray, List.getElem_cons_zero, List.getElem_cons_succ, List.setIfInBounds_toArray, List.set_cons_zero, List.set_cons_succ]
          refine wpAnyH_take (i := 13) (v := ?va413) rfl (by kernel_rfl) (by kernel_rfl) (by kernel_rfl) (fun _ _ _ h => h) (Or.inl ⟨by rfl, ?ya413⟩) hHeld ?ra413
          case ya413 => (intro w' hS; (try dsimp only at hS); obtain ⟨s0, s1⟩ := hS; (try go_simp); (try with_reducible rfl))
          try simp only [Act.put, List.getElem_toArray, List.getElem_cons_zero, List.getElem_cons_succ, List.setIfInBounds_toArray, List.set_cons_zero, List.set_cons_succ]
          refine wpAnyH_take (i := 14) (v := ?va414) rfl (by kernel_rfl) (by kernel_rfl) (by kernel_rfl) (fun _ _ _ h => h) (Or.inl ⟨by rfl, ?ya414⟩) hHeld ?ra414
          case ya414 => (intro w' hS; (try dsimp only at hS); obtain ⟨s0, s1⟩ := hS; (try go_simp); (try with_reducible rfl))
          try simp only [Act.put, List.getElem_toArray, List.getElem_cons_zero, List.getElem_cons_succ, List.setIfInBounds_toArray, List.set_cons_zero, List.set_cons_succ]
          refine wpAnyH_done (by kernel_rfl) ?_ _
          simp only [OnlyNormal]
          gi_wp2
          by_cases hmx : sp.2 < x.1.2.2.rc.seq
          · have hmv : Hid (max sp.2 x.1.2.2.rc.seq = x.1.2.2.rc.seq) := by unfold Hid; omega
            refine region_round (by kernel_rfl) (by kernel_rfl) ?_
            refine wpAny_take (i := 0) (v := ?vb50) rfl (by kernel_rfl) (by kernel_rfl) (by kernel_rfl) (fun _ _ _ h => h) (Or.inl ⟨by rfl, ?yb50⟩) ?rb50
            case yb50 => (intro w'; (try go_simp); (try with_reducible rfl))
            try simp only [Act.put, List.getElem_toArray, List.getElem_cons_zero, List.getElem_cons_succ, List.setIfInBounds_toArray, List.set_cons_zero, List.set_cons_succ]
            refine wpAny_take (i := 1) (v := ?vb51) rfl (by kernel_rfl) (by kernel_rfl) (by kernel_rfl) (fun _ _ _ h => h) (Or.inl ⟨by rfl, ?yb51⟩) ?rb51
            case yb51 => (intro w'; (try go_simp); (try with_reducible rfl))
            try simp only [Act.put, List.getElem_toArray, List.getElem_cons_zero, List.getElem_cons_succ, List.setIfInBounds_toArray, List.set_cons_zero, List.set_cons_succ]
            refine wpAny_take (i := 2) (v := ?vb52) rfl (by kernel_rfl) (by kernel_rfl) (by kernel_rfl) (fun _ _ _ h => h) (Or.inl ⟨by rfl, ?yb52⟩) ?rb52
            case yb52 => (intro w'; (try go_simp); (try with_reducible rfl))
            try simp only [Act.put, List.getElem_toArray, List.getElem_cons_zero, List.getElem_cons_succ, List.setIfInBounds_toArray, List.set_cons_zero, List.set_cons_succ]
            refine wpAny_take (i := 3) (v := ?vb53) rfl (by kernel_rfl) (by kernel_rfl) (by kernel_rfl) (fun _ _ _ h => h) (Or.inl ⟨by rfl, ?yb53⟩) ?rb53
            case yb53 => (intro w'; (try go_simp); (try with_reducible rfl))
            try simp only [Act.put, List.getElem_toArray, List.getElem_cons_zero, List.getElem_cons_succ, List.setIfInBounds_toArray, List.set_cons_zero, List.set_cons_succ]
            refine wpAny_take (i := 5) (v := ?vb55) rfl (by kernel_rfl) (by kernel_rfl) (by kernel_rfl) (fun _ _ _ h => h) (Or.inl ⟨by rfl, ?yb55⟩) ?rb55
            case yb55 => (intro w'; (try go_simp); (try with_reducible rfl))
            try simp only [Act.put, List.getElem_toArray, List.getElem_cons_zero, List.getElem_cons_succ, List.setIfInBounds_toArray, List.set_cons_zero, List.set_cons_succ]
            refine wpAny_take (i := 6) (v := ?vb56) rfl (by kernel_rfl) (by kernel_rfl) (by kernel_rfl) (fun _ _ _ h => h) (Or.inl ⟨by rfl, ?yb56⟩) ?rb56
            case yb56 => (intro w'; (try go_simp); (try with_reducible rfl))
            try simp only [Act.put, List.getElem_toArray, List.getElem_cons_zero, List.getElem_cons_succ, List.setIfInBounds_toArray, List.set_cons_zero, List.set_cons_succ]
            refine wpAny_ready (rs := [4, 7]) (by kernel_rfl) (by simp) ?_
            refine AllReady.cons rfl (fun K hK => ?_) (AllReady.cons rfl (fun K hK => ?_) AllReady.nil)
            · go_simp
              refine hK _ _ ?_
              clear hK K
              try simp only [Act.put, List.getElem_toArray, List.getElem_cons_zero, List.getElem_cons_succ, List.setIfInBounds_toArray, List.set_cons_zero, List.set_cons_succ]
              refine wpAny_ready (rs := [7]) (by kernel_rfl) (by simp) ?_
              refine AllReady.cons rfl (fun K hK => ?_) AllReady.nil
              go_simp
              refine hK _ _ ?_
              clear hK K
              try simp only [Act.put, List.getElem_toArray, List.getElem_cons_zero, List.getElem_cons_succ, List.setIfInBounds_toArray, List.set_cons_zero, List.set_cons_succ]
              refine wpAny_take (i := 8) (v := ?vb58x4) rfl (by kernel_rfl) (by kernel_rfl) (by kernel_rfl) (fun _ _ _ h => h) (Or.inl ⟨by rfl, ?yb58x4⟩) ?rb58x4
              case yb58x4 => (intro w'; (try go_simp); (try with_reducible rfl))
              try simp only [Act.put, List.getElem_toArray, List.getElem_cons_zero, List.getElem_cons_succ, List.setIfInBounds_toArray, List.set_cons_zero, List.set_cons_succ]
              refine wpAny_take (i := 9) (v := ?vb59x4) rfl (by kernel_rfl) (by kernel_rfl) (by kernel_rfl) (fun _ _ _ h => h) (Or.inl ⟨by rfl, ?yb59x4⟩) ?rb59x4
              case yb59x4 => (intro w'; (try go_simp); (try with_reducible rfl))
              try simp only [Act.put, List.getElem_toArray, List.getElem_cons_zero, List.getElem_cons_succ, List.setIfInBounds_toArray, List.set_cons_zero, List.set_cons_succ]
              refine wpAny_take (i := 10) (v := ?vb510x4) rfl (by kernel_rfl) (by kernel_rfl) (by kernel_rfl) (fun _ _ _ h => h) (Or.inl ⟨by rfl, ?yb510x4⟩) ?rb510x4
              case yb510x4 => (intro w'; (try go_simp); (try with_reducible rfl))
              try simp only [Act.put, List.getElem_toArray, List.getElem_cons_zero, List.getElem_cons_succ, List.setIfInBounds_toArray, List.set_cons_zero, List.set_cons_succ]
              refine wpAny_ready (rs := [11]) (by kernel_rfl) (by simp) ?_
              refine AllReady.cons rfl (fun K hK => ?_) AllReady.nil
              go_simp
              refine hK _ _ ?_
              clear hK K
              try simp only [Act.put, List.getElem_toArray, List.getElem_cons_zero, List.getElem_cons_succ, List.setIfInBounds_toArray, List.set_cons_zero, List.set_cons_succ]
              refine wpAny_done (by kernel_rfl) ?_ _
              simp only [OnlyNormal]
              have hW : Wrote W ((W.setCell ⟨w.heap.size, x.1.1 * 2, none⟩ (.int .i64 x.1.2.2.rc.seq)).setCell ⟨w.heap.size, x.1.1 * 2 + 1, none⟩ (.int .i64 x.1.2.2.rc.seq)) w.heap.size (x.1.1 * 2) (Spn (lowOf sp x.1.2.2.rc.seq, max sp.2 x.1.2.2.rc.seq)) := by
                rw [hlo.out, hmv.out]
                exact wrote_setRow w.heap.size [.int .i64 x.1.2.2.rc.seq, .int .i64 x.1.2.2.rc.seq] (x.1.1 * 2) W (fun j hj => by
                  match j, hj with
                  | 0, _ => exact ⟨_, l0⟩
                  | 1, _ => exact ⟨_, l1⟩)
              have hBL : Below w.heap.size W ((W.setCell ⟨w.heap.size, x.1.1 * 2, none⟩ (.int .i64 x.1.2.2.rc.seq)).setCell ⟨w.heap.size, x.1.1 * 2 + 1, none⟩ (.int .i64 x.1.2.2.rc.seq)).drew.drew := ((((Below.refl w.heap.size W).setCell (p := ⟨w.heap.size, x.1.1 * 2, none⟩) (Nat.le_refl _) (.int .i64 x.1.2.2.rc.seq)).setCell (p := ⟨w.heap.size, x.1.1 * 2 + 1, none⟩) (Nat.le_refl _) (.int .i64 x.1.2.2.rc.seq)).drew).drew
              have hBX : Boxed ((W.setCell ⟨w.heap.size, x.1.1 * 2, none⟩ (.int .i64 x.1.2.2.rc.seq)).setCell ⟨w.heap.size, x.1.1 * 2 + 1, none⟩ (.int .i64 x.1.2.2.rc.seq)).drew.drew (w.heap.size + 1) 141 (.slice (some ⟨w.heap.size, 0, none⟩) 4 4) := (hW.block (w.heap.size + 1) (by omega)).trans bV1
              have hRW : Row ((W.setCell ⟨w.heap.size, x.1.1 * 2, none⟩ (.int .i64 x.1.2.2.rc.seq)).setCell ⟨w.heap.size, x.1.1 * 2 + 1, none⟩ (.int .i64 x.1.2.2.rc.seq)).drew.drew (some ⟨w.heap.size, 0, none⟩) (spv (spOf ((pre ++ [x]).map Subtype.val))) := (HROW.out _ hW).drew.drew
              clear hW HROW
              gi_wp2
              exact ⟨((((KeepsOthers.setCell _ _ _).trans (KeepsOthers.setCell _ _ _)).trans (KeepsOthers.drew _)).trans (KeepsOthers.drew _)).from _, hBL, ⟨hBX, hRW⟩, hB1.trans hBL⟩
            · go_simp
              refine hK _ _ ?_
              clear hK K
              try simp only [Act.put, List.getElem_toArray, List.getElem_cons_zero, List.getElem_cons_succ, List.setIfInBounds_toArray, List.set_cons_zero, List.set_cons_succ]
              refine wpAny_ready (rs := [4]) (by kernel_rfl) (by simp) ?_
              refine AllReady.cons rfl (fun K hK => ?_) AllReady.nil
              go_simp
              refine hK _ _ ?_
              clear hK K
              try simp only [Act.put, List.getElem_toArray, List.getElem_cons_zero, List.getElem_cons_succ, List.setIfInBounds_toArray, List.set_cons_zero, List.set_cons_succ]
              refine wpAny_take (i := 8) (v := ?vb58x7) rfl (by kernel_rfl) (by kernel_rfl) (by kernel_rfl) (fun _ _ _ h => h) (Or.inl ⟨by rfl, ?yb58x7⟩) ?rb58x7
              case yb58x7 => (intro w'; (try go_simp); (try with_reducible rfl))
              try simp only [Act.put, List.getElem_toArray, List.getElem_cons_zero, List.getElem_cons_succ, List.setIfInBounds_toArray, List.set_cons_zero, List.set_cons_succ]
              refine wpAny_take (i := 9) (v := ?vb59x7) rfl (by kernel_rfl) (by kernel_rfl) (by kernel_rfl) (fun _ _ _ h => h) (Or.inl ⟨by rfl, ?yb59x7⟩) ?rb59x7
              case yb59x7 => (intro w'; (try go_simp); (try with_reducible rfl))
              try simp only [Act.put, List.getElem_toArray, List.getElem_cons_zero, List.getElem_cons_succ, List.setIfInBounds_toArray, List.set_cons_zero, List.set_cons_succ]
              refine wpAny_take (i := 10) (v := ?vb510x7) rfl (by kernel_rfl) (by kernel_rfl) (by kernel_rfl) (fun _ _ _ h => h) (Or.inl ⟨by rfl, ?yb510x7⟩) ?rb510x7
              case yb510x7 => (intro w'; (try go_simp); (try with_reducible rfl))
              try simp only [Act.put, List.getElem_toArray, List.getElem_cons_zero, List.getElem_cons_succ, List.setIfInBounds_toArray, List.set_cons_zero, List.set_cons_succ]
              refine wpAny_ready (rs := [11]) (by kernel_rfl) (by simp) ?_
              refine AllReady.cons rfl (fun K hK => ?_) AllReady.nil
              go_simp
              refine hK _ _ ?_
              clear hK K
              try simp only [Act.put, List.getElem_toArray, List.getElem_cons_zero, List.getElem_cons_succ, List.setIfInBounds_toArray, List.set_cons_zero, List.set_cons_succ]
              refine wpAny_done (by kernel_rfl) ?_ _
              simp only [OnlyNormal]
              have hW : Wrote W ((W.setCell ⟨w.heap.size, x.1.1 * 2, none⟩ (.int .i64 x.1.2.2.rc.seq)).setCell ⟨w.heap.size, x.1.1 * 2 + 1, none⟩ (.int .i64 x.1.2.2.rc.seq)) w.heap.size (x.1.1 * 2) (Spn (lowOf sp x.1.2.2.rc.seq, max sp.2 x.1.2.2.rc.seq)) := by
                rw [hlo.out, hmv.out]
                exact wrote_setRow w.heap.size [.int .i64 x.1.2.2.rc.seq, .int .i64 x.1.2.2.rc.seq] (x.1.1 * 2) W (fun j hj => by
                  match j, hj with
                  | 0, _ => exact ⟨_, l0⟩
                  | 1, _ => exact ⟨_, l1⟩)
              have hBL : Below w.heap.size W ((W.setCell ⟨w.heap.size, x.1.1 * 2, none⟩ (.int .i64 x.1.2.2.rc.seq)).setCell ⟨w.heap.size, x.1.1 * 2 + 1, none⟩ (.int .i64 x.1.2.2.rc.seq)).drew.drew := ((((Below.refl w.heap.size W).setCell (p := ⟨w.heap.size, x.1.1 * 2, none⟩) (Nat.le_refl _) (.int .i64 x.1.2.2.rc.seq)).setCell (p := ⟨w.heap.size, x.1.1 * 2 + 1, none⟩) (Nat.le_refl _) (.int .i64 x.1.2.2.rc.seq)).drew).drew
              have hBX : Boxed ((W.setCell ⟨w.heap.size, x.1.1 * 2, none⟩ (.int .i64 x.1.2.2.rc.seq)).setCell ⟨w.heap.size, x.1.1 * 2 + 1, none⟩ (.int .i64 x.1.2.2.rc.seq)).drew.drew (w.heap.size + 1) 141 (.slice (some ⟨w.heap.size, 0, none⟩) 4 4) := (hW.block (w.heap.size + 1) (by omega)).trans bV1
              have hRW : Row ((W.setCell ⟨w.heap.size, x.1.1 * 2, none⟩ (.int .i64 x.1.2.2.rc.seq)).setCell ⟨w.heap.size, x.1.1 * 2 + 1, none⟩ (.int .i64 x.1.2.2.rc.seq)).drew.drew (some ⟨w.heap.size, 0, none⟩) (spv (spOf ((pre ++ [x]).map Subtype.val))) := (HROW.out _ hW).drew.drew
              clear hW HROW
              gi_wp2
              exact ⟨((((KeepsOthers.setCell _ _ _).trans (KeepsOthers.setCell _ _ _)).trans (KeepsOthers.drew _)).trans (KeepsOthers.drew _)).from _, hBL, ⟨hBX, hRW⟩, hB1.trans hBL⟩
          · have hmv : Hid (max sp.2 x.1.2.2.rc.seq = sp.2) := by unfold Hid; omega
            refine region_round (by kernel_rfl) (by kernel_rfl) ?_
            refine wpAny_take (i := 0) (v := ?vb60) rfl (by kernel_rfl) (by kernel_rfl) (by kernel_rfl) (fun _ _ _ h => h) (Or.inl ⟨by rfl, ?yb60⟩) ?rb60
            case yb60 => (intro w'; (try go_simp); (try with_reducible rfl))
            try simp only [Act.put, List.getElem_toArray, List.getElem_cons_zero, List.getElem_cons_succ, List.setIfInBounds_toArray, List.set_cons_zero, List.set_cons_succ]
            refine wpAny_take (i := 1) (v := ?vb61) rfl (by kernel_rfl) (by kernel_rfl) (by kernel_rfl) (fun _ _ _ h => h) (Or.inl ⟨by rfl, ?yb61⟩) ?rb61
            case yb61 => (intro w'; (try go_simp); (try with_reducible rfl))
            try simp only [Act.put, List.getElem_toArray, List.getElem_cons_zero, List.getElem_cons_succ, List.setIfInBounds_toArray, List.set_cons_zero, List.set_cons_succ]
            refine wpAny_take (i := 2) (v := ?vb62) rfl (by kernel_rfl) (by kernel_rfl) (by kernel_rfl) (fun _ _ _ h => h) (Or.inl ⟨by rfl, ?yb62⟩) ?rb62
            case yb62 => (intro w'; (try go_simp); (try with_reducible rfl))
            try simp only [Act.put, List.getElem_toArray, List.getElem_cons_zero, List.getElem_cons_succ, List.setIfInBounds_toArray, List.set_cons_zero, List.set_cons_succ]
            refine wpAny_take (i := 3) (v := ?vb63) rfl (by kernel_rfl) (by kernel_rfl) (by kernel_rfl) (fun _ _ _ h => h) (Or.inl ⟨by rfl, ?yb63⟩) ?rb63
            case yb63 => (intro w'; (try go_simp); (try with_reducible rfl))
            try simp only [Act.put, List.getElem_toArray, List.getElem_cons_zero, List.getElem_cons_succ, List.setIfInBounds_toArray, List.set_cons_zero, List.set_cons_succ]
            refine wpAny_take (i := 5) (v := ?vb65) rfl (by kernel_rfl) (by kernel_rfl) (by kernel_rfl) (fun _ _ _ h => h) (Or.inl ⟨by rfl, ?yb65⟩) ?rb65
            case yb65 => (intro w'; (try go_simp); (try with_reducible rfl))
            try simp only [Act.put, List.getElem_toArray, List.getElem_cons_zero, List.getElem_cons_succ, List.setIfInBounds_toArray, List.set_cons_zero, List.set_cons_succ]
            refine wpAny_take (i := 6) (v := ?vb66) rfl (by kernel_rfl) (by kernel_rfl) (by kernel_rfl) (fun _ _ _ h => h) (Or.inl ⟨by rfl, ?yb66⟩) ?rb66
            case yb66 => (intro w'; (try go_simp); (try with_reducible rfl))
            try simp only [Act.put, List.getElem_toArray, List.getElem_cons_zero, List.getElem_cons_succ, List.setIfInBounds_toArray, List.set_cons_zero, List.set_cons_succ]
            refine wpAny_ready (rs := [4, 7]) (by kernel_rfl) (by simp) ?_
            refine AllReady.cons rfl (fun K hK => ?_) (AllReady.cons rfl (fun K hK => ?_) AllReady.nil)
            · go_simp
              refine hK _ _ ?_
              clear hK K
              try simp only [Act.put, List.getElem_toArray, List.getElem_cons_zero, List.getElem_cons_succ, List.setIfInBounds_toArray, List.set_cons_zero, List.set_cons_succ]
              refine wpAny_ready (rs := [7]) (by kernel_rfl) (by simp) ?_
              refine AllReady.cons rfl (fun K hK => ?_) AllReady.nil
              go_simp
              refine hK _ _ ?_
              clear hK K
              try simp only [Act.put, List.getElem_toArray, List.getElem_cons_zero, List.getElem_cons_succ, List.setIfInBounds_toArray, List.set_cons_zero, List.set_cons_succ]
              refine wpAny_take (i := 8) (v := ?vb68x4) rfl (by kernel_rfl) (by kernel_rfl) (by kernel_rfl) (fun _ _ _ h => h) (Or.inl ⟨by rfl, ?yb68x4⟩) ?rb68x4
              case yb68x4 => (intro w'; (try go_simp); (try with_reducible rfl))
              try simp only [Act.put, List.getElem_toArray, List.getElem_cons_zero, List.getElem_cons_succ, List.setIfInBounds_toArray, List.set_cons_zero, List.set_cons_succ]
              refine wpAny_take (i := 9) (v := ?vb69x4) rfl (by kernel_rfl) (by kernel_rfl) (by kernel_rfl) (fun _ _ _ h => h) (Or.inl ⟨by rfl, ?yb69x4⟩) ?rb69x4
              case yb69x4 => (intro w'; (try go_simp); (try with_reducible rfl))
              try simp only [Act.put, List.getElem_toArray, List.getElem_cons_zero, List.getElem_cons_succ, List.setIfInBounds_toArray, List.set_cons_zero, List.set_cons_succ]
              refine wpAny_take (i := 10) (v := ?vb610x4) rfl (by kernel_rfl) (by kernel_rfl) (by kernel_rfl) (fun _ _ _ h => h) (Or.inl ⟨by rfl, ?yb610x4⟩) ?rb610x4
              case yb610x4 => (intro w'; (try go_simp); (try with_reducible rfl))
              try simp only [Act.put, List.getElem_toArray, List.getElem_cons_zero, List.getElem_cons_succ, List.setIfInBounds_toArray, List.set_cons_zero, List.set_cons_succ]
              refine wpAny_ready (rs := [11]) (by kernel_rfl) (by simp) ?_
              refine AllReady.cons rfl (fun K hK => ?_) AllReady.nil
              go_simp
              refine hK _ _ ?_
              clear hK K
              try simp only [Act.put, List.getElem_toArray, List.getElem_cons_zero, List.getElem_cons_succ, List.setIfInBounds_toArray, List.set_cons_zero, List.set_cons_succ]
              refine wpAny_done (by kernel_rfl) ?_ _
              simp only [OnlyNormal]
              have hW : Wrote W ((W.setCell ⟨w.heap.size, x.1.1 * 2, none⟩ (.int .i64 x.1.2.2.rc.seq)).setCell ⟨w.heap.size, x.1.1 * 2 + 1, none⟩ (.int .i64 sp.2)) w.heap.size (x.1.1 * 2) (Spn (lowOf sp x.1.2.2.rc.seq, max sp.2 x.1.2.2.rc.seq)) := by
                rw [hlo.out, hmv.out]
                exact wrote_setRow w.heap.size [.int .i64 x.1.2.2.rc.seq, .int .i64 sp.2] (x.1.1 * 2) W (fun j hj => by
                  match j, hj with
                  | 0, _ => exact ⟨_, l0⟩
                  | 1, _ => exact ⟨_, l1⟩)
              have hBL : Below w.heap.size W ((W.setCell ⟨w.heap.size, x.1.1 * 2, none⟩ (.int .i64 x.1.2.2.rc.seq)).setCell ⟨w.heap.size, x.1.1 * 2 + 1, none⟩ (.int .i64 sp.2)).drew.drew := ((((Below.refl w.heap.size W).setCell (p := ⟨w.heap.size, x.1.1 * 2, none⟩) (Nat.le_refl _) (.int .i64 x.1.2.2.rc.seq)).setCell (p := ⟨w.heap.size, x.1.1 * 2 + 1, none⟩) (Nat.le_refl _) (.int .i64 sp.2)).drew).drew
              have hBX : Boxed ((W.setCell ⟨w.heap.size, x.1.1 * 2, none⟩ (.int .i64 x.1.2.2.rc.seq)).setCell ⟨w.heap.size, x.1.1 * 2 + 1, none⟩ (.int .i64 sp.2)).drew.drew (w.heap.size + 1) 141 (.slice (some ⟨w.heap.size, 0, none⟩) 4 4) := (hW.block (w.heap.size + 1) (by omega)).trans bV1
              have hRW : Row ((W.setCell ⟨w.heap.size, x.1.1 * 2, none⟩ (.int .i64 x.1.2.2.rc.seq)).setCell ⟨w.heap.size, x.1.1 * 2 + 1, none⟩ (.int .i64 sp.2)).drew.drew (some ⟨w.heap.size, 0, none⟩) (spv (spOf ((pre ++ [x]).map Subtype.val))) := (HROW.out _ hW).drew.drew
              clear hW HROW
              gi_wp2
              exact ⟨((((KeepsOthers.setCell _ _ _).trans (KeepsOthers.setCell _ _ _)).trans (KeepsOthers.drew _)).trans (KeepsOthers.drew _)).from _, hBL, ⟨hBX, hRW⟩, hB1.trans hBL⟩
            · go_simp
              refine hK _ _ ?_
              clear hK K
              try simp only [Act.put, List.getElem_toArray, List.getElem_cons_zero, List.getElem_cons_succ, List.setIfInBounds_toArray, List.set_cons_zero, List.set_cons_succ]
              refine wpAny_ready (rs := [4]) (by kernel_rfl) (by simp) ?_
              refine AllReady.cons rfl (fun K hK => ?_) AllReady.nil
              go_simp
              refine hK _ _ ?_
              clear hK K
              try simp only [Act.put, List.getElem_toArray, List.getElem_cons_zero, List.getElem_cons_succ, List.setIfInBounds_toArray, List.set_cons_zero, List.set_cons_succ]
              refine wpAny_take (i := 8) (v := ?vb68x7) rfl (by kernel_rfl) (by kernel_rfl) (by kernel_rfl) (fun _ _ _ h => h) (Or.inl ⟨by rfl, ?yb68x7⟩) ?rb68x7
              case yb68x7 => (intro w'; (try go_simp); (try with_reducible rfl))
              try simp only [Act.put, List.getElem_toArray, List.getElem_cons_zero, List.getElem_cons_succ, List.setIfInBounds_toArray, List.set_cons_zero, List.set_cons_succ]
              refine wpAny_take (i := 9) (v := ?vb69x7) rfl (by kernel_rfl) (by kernel_rfl) (by kernel_rfl) (fun _ _ _ h => h) (Or.inl ⟨by rfl, ?yb69x7⟩) ?rb69x7
              case yb69x7 => (intro w'; (try go_simp); (try with_reducible rfl))
              try simp only [Act.put, List.getElem_toArray, List.getElem_cons_zero, List.getElem_cons_succ, List.setIfInBounds_toArray, List.set_cons_zero, List.set_cons_succ]
              refine wpAny_take (i := 10) (v := ?vb610x7) rfl (by kernel_rfl) (by kernel_rfl) (by kernel_rfl) (fun _ _ _ h => h) (Or.inl ⟨by rfl, ?yb610x7⟩) ?rb610x7
              case yb610x7 => (intro w'; (try go_simp); (try with_reducible rfl))
              try simp only [Act.put, List.getElem_toArray, List.getElem_cons_zero, List.getElem_cons_succ, List.setIfInBounds_toArray, List.set_cons_zero, List.set_cons_succ]
              refine wpAny_ready (rs := [11]) (by kernel_rfl) (by simp) ?_
              refine AllReady.cons rfl (fun K hK => ?_) AllReady.nil
              go_simp
              refine hK _ _ ?_
              clear hK K
              try simp only [Act.put, List.getElem_toArray, List.getElem_cons_zero, List.getElem_cons_succ, List.setIfInBounds_toArray, List.set_cons_zero, List.set_cons_succ]
              refine wpAny_done (by kernel_rfl) ?_ _
              simp only [OnlyNormal]
              have hW : Wrote W ((W.setCell ⟨w.heap.size, x.1.1 * 2, none⟩ (.int .i64 x.1.2.2.rc.seq)).setCell ⟨w.heap.size, x.1.1 * 2 + 1, none⟩ (.int .i64 sp.2)) w.heap.size (x.1.1 * 2) (Spn (lowOf sp x.1.2.2.rc.seq, max sp.2 x.1.2.2.rc.seq)) := by
                rw [hlo.out, hmv.out]
                exact wrote_setRow w.heap.size [.int .i64 x.1.2.2.rc.seq, .int .i64 sp.2] (x.1.1 * 2) W (fun j hj => by
                  match j, hj with
                  | 0, _ => exact ⟨_, l0⟩
                  | 1, _ => exact ⟨_, l1⟩)
              have hBL : Below w.heap.size W ((W.setCell ⟨w.heap.size, x.1.1 * 2, none⟩ (.int .i64 x.1.2.2.rc.seq)).setCell ⟨w.heap.size, x.1.1 * 2 + 1, none⟩ (.int .i64 sp.2)).drew.drew := ((((Below.refl w.heap.size W).setCell (p := ⟨w.heap.size, x.1.1 * 2, none⟩) (Nat.le_refl _) (.int .i64 x.1.2.2.rc.seq)).setCell (p := ⟨w.heap.size, x.1.1 * 2 + 1, none⟩) (Nat.le_refl _) (.int .i64 sp.2)).drew).drew
              have hBX : Boxed ((W.setCell ⟨w.heap.size, x.1.1 * 2, none⟩ (.int .i64 x.1.2.2.rc.seq)).setCell ⟨w.heap.size, x.1.1 * 2 + 1, none⟩ (.int .i64 sp.2)).drew.drew (w.heap.size + 1) 141 (.slice (some ⟨w.heap.size, 0, none⟩) 4 4) := (hW.block (w.heap.size + 1) (by omega)).trans bV1
              have hRW : Row ((W.setCell ⟨w.heap.size, x.1.1 * 2, none⟩ (.int .i64 x.1.2.2.rc.seq)).setCell ⟨w.heap.size, x.1.1 * 2 + 1, none⟩ (.int .i64 sp.2)).drew.drew (some ⟨w.heap.size, 0, none⟩) (spv (spOf ((pre ++ [x]).map Subtype.val))) := (HROW.out _ hW).drew.drew
              clear hW HROW
              gi_wp2
              exact ⟨((((KeepsOthers.setCell _ _ _).trans (KeepsOthers.setCell _ _ _)).trans (KeepsOthers.drew _)).trans (KeepsOthers.drew _)).from _, hBL, ⟨hBX, hRW⟩, hB1.trans hBL⟩
        · have hlo : Hid (lowOf sp x.1.2.2.rc.seq = sp.1) := by unfold Hid lowOf; rw [if_neg (by rintro (h | h); exact hz h; exact hq h)]
          gi_wp2
          refine region_round_held (S := fun w' => w'.cell? ⟨w.heap.size, x.1.1 * 2, none⟩ = some (.int .i64 sp.1) ∧ w'.cell? ⟨B5, 2, none⟩ = some (.int .i64 x.1.2.2.rc.seq)) (by kernel_rfl) (by kernel_rfl) ⟨l0, x2⟩ (fun hHeld => ?_)
          refine wpAnyH_take (i := 0) (v := ?va70) rfl (by kernel_rfl) (by kernel_rfl) (by kernel_rfl) (fun _ _ _ h => h) (Or.inl ⟨by rfl, ?ya70⟩) hHeld ?ra70
          case ya70 => (intro w' hS; (try dsimp only at hS); obtain ⟨s0, s1⟩ := hS; (try go_simp); (try with_reducible rfl))
          try simp only [Act.put, List.getElem_toArray, List.getElem_cons_zero, List.getElem_cons_succ, List.setIfInBounds_toArray, List.set_cons_zero, List.set_cons_succ]
          refine wpAnyH_take (i := 1) (v := ?va71) rfl (by kernel_rfl) (by kernel_rfl) (by kernel_rfl) (fun _ _ _ h => h) (Or.inl ⟨by rfl, ?ya71⟩) hHeld ?ra71
          case ya71 => (intro w' hS; (try dsimp only at hS); obtain ⟨s0, s1⟩ := hS; (try go_simp); (try with_reducible rfl))
          try simp only [Act.put, List.getElem_toArray, List.getElem_cons_zero, List.getElem_cons_succ, List.setIfInBounds_toArray, List.set_cons_zero, List.set_cons_succ]
          refine wpAnyH_take (i := 2) (v := ?va72) rfl (by kernel_rfl) (by kernel_rfl) (by kernel_rfl) (fun _ _ _ h => h) (Or.inl ⟨by rfl, ?ya72⟩) hHeld ?ra72
          case ya72 => (intro w' hS; (try dsimp only at hS); obtain ⟨s0, s1⟩ := hS; (try go_simp); (try with_reducible rfl))
          try simp only [Act.put, List.getElem_toArray, List.getElem_cons_zero, List.getElem_cons_succ, List.setIfInBounds_toArray, List.set_cons_zero, List.set_cons_succ]
          refine wpAnyH_take (i := 3) (v := ?va73) rfl (by kernel_rfl) (by kernel_rfl) (by kernel_rfl) (fun _ _ _ h => h) (Or.inl ⟨by rfl, ?ya73⟩) hHeld ?ra73
          case ya73 => (intro w' hS; (try dsimp only at hS); obtain ⟨s0, s1⟩ := hS; (try go_simp); (try with_reducible rfl))
          try simp only [Act.put, List.getElem_toArray, List.getElem_cons_zero, List.getElem_cons_succ, List.setIfInBounds_toArray, List.set_cons_zero, List.set_cons_succ]
          refine wpAnyH_take (i := 4) (v := ?va74) rfl (by kernel_rfl) (by kernel_rfl) (by kernel_rfl) (fun _ _ _ h => h) (Or.inl ⟨by rfl, ?ya74⟩) hHeld ?ra74
          case ya74 => (intro w' hS; (try dsimp only at hS); obtain ⟨s0, s1⟩ := hS; (try go_simp); (try with_reducible rfl))
          try simp only [Act.put, List.getElem_toArray, List.getElem_cons_zero, List.getElem_cons_succ, List.setIfInBounds_toArray, List.set_cons_zero, List.set_cons_succ]
          refine wpAnyH_take (i := 5) (v := ?va75) rfl (by kernel_rfl) (by kernel_rfl) (by kernel_rfl) (fun _ _ _ h => h) (Or.inl ⟨by rfl, ?ya75⟩) hHeld ?ra75
          case ya75 => (intro w' hS; (try dsimp only at hS); obtain ⟨s0, s1⟩ := hS; (try go_simp); (try with_reducible rfl))
          try simp only [Act.put, List.getElem_toArray, List.getElem_cons_zero, List.getElem_cons_succ, List.setIfInBounds_toArray, List.set_cons_zero, List.set_cons_succ]
          refine wpAnyH_take (i := 6) (v := ?va76) rfl (by kernel_rfl) (by kernel_rfl) (by kernel_rfl) (fun _ _ _ h => h) (Or.inl ⟨by rfl, ?ya76⟩) hHeld ?ra76
          case ya76 => (intro w' hS; (try dsimp only at hS); obtain ⟨s0, s1⟩ := hS; (try go_simp); (try with_reducible rfl))
          try simp only [Act.put, List.getElem_toArray, List.getElem_cons_zero, List.getElem_cons_succ, List.setIfInBounds_toArray, List.set_cons_zero, List.set_cons_succ]
          refine wpAnyH_take (i := 7) (v := ?va77) rfl (by kernel_rfl) (by kernel_rfl) (by kernel_rfl) (fun _ _ _ h => h) (Or.inl ⟨by rfl, ?ya77⟩) hHeld ?ra77
          case ya77 => (intro w' hS; (try dsimp only at hS); obtain ⟨s0, s1⟩ := hS; (try go_simp); (try with_reducible rfl))
          try simp only [Act.put, List.getElem_toArray, List.getElem_cons_zero, List.getElem_cons_succ, List.setIfInBounds_toArray, List.set_cons_zero, List.set_cons_succ]
          refine wpAnyH_take (i := 8) (v := ?va78) rfl (by kernel_rfl) (by kernel_rfl) (by kernel_rfl) (fun _ _ _ h => h) (Or.inl ⟨by rfl, ?ya78⟩) hHeld ?ra78
          case ya78 => (intro w' hS; (try dsimp only at hS); obtain ⟨s0, s1⟩ := hS; (try go_simp); (try with_reducible rfl))
          try simp only [Act.put, List.getElem_toArray, List.getElem_cons_zero, List.getElem_cons_succ, List.setIfInBounds_toArray, List.set_cons_zero, List.set_cons_succ]
          refine wpAnyH_take (i := 9) (v := ?va79) rfl (by kernel_rfl) (by kernel_rfl) (by kernel_rfl) (fun _ _ _ h => h) (Or.inl ⟨by rfl, ?ya79⟩) hHeld ?ra79
          case ya79 => (intro w' hS; (try dsimp only at hS); obtain ⟨s0, s1⟩ := hS; (try go_simp); (try with_reducible rfl))
          try simp only [Act.put, List.getElem_toArray, List.getElem_cons_zero, List.getElem_cons_succ, List.setIfInBounds_toArray, List.set_cons_zero, List.set_cons_succ]
          refine wpAnyH_take (i := 10) (v := ?va710) rfl (by kernel_rfl) (by kernel_rfl) (by kernel_rfl) (fun _ _ _ h => h) (Or.inl ⟨by rfl, ?ya710⟩) hHeld ?ra710
          case ya710 => (intro w' hS; (try dsimp only at hS); obtain ⟨s0, s1⟩ := hS; (try go_simp); (try with_reducible rfl))
          try simp only [Act.put, List.getElem_toArray, List.getElem_cons_zero, List.getElem_cons_succ, List.setIfInBounds_toArray, List.set_cons_zero, List.set_cons_succ]
          refine wpAnyH_take (i := 11) (v := ?va711) rfl (by kernel_rfl) (by kernel_rfl) (by kernel_rfl) (fun _ _ _ h => h) (Or.inl ⟨by rfl, ?ya711⟩) hHeld ?ra711
          case ya711 => (intro w' hS; (try dsimp only at hS); obtain ⟨s0, s1⟩ := hS; (try go_simp); (try with_reducible rfl))
          try simp only [Act.put, List.getElem_toArray, List.getElem_cons_zero, List.getElem_cons_succ, List.setIfInBounds_toArray, List.set_cons_zero, List.set_cons_succ]
          refine wpAnyH_take (i := 12) (v := ?va712) rfl (by kernel_rfl) (by kernel_rfl) (by kernel_rfl) (fun _ _ _ h => h) (Or.inl ⟨by rfl, ?ya712⟩) hHeld ?ra712
          case ya712 => (intro w' hS; (try dsimp only at hS); obtain ⟨s0, s1⟩ := hS; (try go_simp); (try with_reducible rfl))
          try simp only [Act.put, List.getElem_toArray, List.getElem_cons_zero, List.getElem_cons_succ, List.setIfInBounds_toArray, List.set_cons_zero, List.set_cons_succ]
          refine wpAnyH_take (i := 13) (v := ?va713) rfl (by kernel_rfl) (by kernel_rfl) (by kernel_rfl) (fun _ _ _ h => h) (Or.inl ⟨by rfl, ?ya713⟩) hHeld ?ra713
          case ya713 => (intro w' hS; (try dsimp only at hS); obtain ⟨s0, s1⟩ := hS; (try go_simp); (try with_reducible rfl))
          try simp only [Act.put, List.getElem_toArray, List.getElem_cons_zero, List.getElem_cons_succ, List.setIfInBounds_toArray, List.set_cons_zero, List.set_cons_succ]
          refine wpAnyH_take (i := 14) (v := ?va714) rfl (by kernel_rfl) (by kernel_rfl) (by kernel_rfl) (fun _ _ _ h => h) (Or.inl ⟨by rfl, ?ya714⟩) hHeld ?ra714
          case ya714 => (intro w' hS; (try dsimp only at hS); obtain ⟨s0, s1⟩ := hS; (try go_simp); (try with_reducible rfl))
          try simp only [Act.put, List.getElem_toArray, List.getElem_cons_zero, List.getElem_cons_succ, List.setIfInBounds_toArray, List.set_cons_zero, List.set_cons_succ]
          refine wpAnyH_done (by kernel_rfl) ?_ _
          simp only [OnlyNormal]
          gi_wp2
          by_cases hmx : sp.2 < x.1.2.2.rc.seq
          · have hmv : Hid (max sp.2 x.1.2.2.rc.seq = x.1.2.2.rc.seq) := by unfold Hid; omega
            refine region_round (by kernel_rfl) (by kernel_rfl) ?_
            refine wpAny_take (i := 0) (v := ?vb80) rfl (by kernel_rfl) (by kernel_rfl) (by kernel_rfl) (fun _ _ _ h => h) (Or.inl ⟨by rfl, ?yb80⟩) ?rb80
            case yb80 => (intro w'; (try go_simp); (try with_reducible rfl))
            try simp only [Act.put, List.getElem_toArray, List.getElem_cons_zero, List.getElem_cons_succ, List.setIfInBounds_toArray, List.set_cons_zero, List.set_cons_succ]
            refine wpAny_take (i := 1) (v := ?vb81) rfl (by kernel_rfl) (by kernel_rfl) (by kernel_rfl) (fun _ _ _ h => h) (Or.inl ⟨by rfl, ?yb81⟩) ?rb81
            case yb81 => (intro w'; (try go_simp); (try with_reducible rfl))
            try simp only [Act.put, List.getElem_toArray, List.getElem_cons_zero, List.getElem_cons_succ, List.setIfInBounds_toArray, List.set_cons_zero, List.set_cons_succ]
            refine wpAny_take (i := 2) (v := ?vb82) rfl (by kernel_rfl) (by kernel_rfl) (by kernel_rfl) (fun _ _ _ h => h) (Or.inl ⟨by rfl, ?yb82⟩) ?rb82
            case yb82 => (intro w'; (try go_simp); (try with_reducible rfl))
            try simp only [Act.put, List.getElem_toArray, List.getElem_cons_zero, List.getElem_cons_succ, List.setIfInBounds_toArray, List.set_cons_zero, List.set_cons_succ]
            refine wpAny_take (i := 3) (v := ?vb83) rfl (by kernel_rfl) (by kernel_rfl) (by kernel_rfl) (fun _ _ _ h => h) (Or.inl ⟨by rfl, ?yb83⟩) ?rb83
            case yb83 => (intro w'; (try go_simp); (try with_reducible rfl))
            try simp only [Act.put, List.getElem_toArray, List.getElem_cons_zero, List.getElem_cons_succ, List.setIfInBounds_toArray, List.set_cons_zero, List.set_cons_succ]
            refine wpAny_take (i := 5) (v := ?vb85) rfl (by kernel_rfl) (by kernel_rfl) (by kernel_rfl) (fun _ _ _ h => h) (Or.inl ⟨by rfl, ?yb85⟩) ?rb85
            case yb85 => (intro w'; (try go_simp); (try with_reducible rfl))
            try simp only [Act.put, List.getElem_toArray, List.getElem_cons_zero, List.getElem_cons_succ, List.setIfInBounds_toArray, List.set_cons_zero, List.set_cons_succ]
            refine wpAny_take (i := 6) (v := ?vb86) rfl (by kernel_rfl) (by kernel_rfl) (by kernel_rfl) (fun _ _ _ h => h) (Or.inl ⟨by rfl, ?yb86⟩) ?rb86
            case yb86 => (intro w'; (try go_simp); (try with_reducible rfl))
            try simp only [Act.put, List.getElem_toArray, List.getElem_cons_zero, List.getElem_cons_succ, List.setIfInBounds_toArray, List.set_cons_zero, List.set_cons_succ]
            refine wpAny_ready (rs := [4, 7]) (by kernel_rfl) (by simp) ?_
            refine AllReady.cons rfl (fun K hK => ?_) (AllReady.cons rfl (fun K hK => ?_) AllReady.nil)
            · go_simp
              refine hK _ _ ?_
              clear hK K
              try simp only [Act.put, List.getElem_toArray, List.getElem_cons_zero, List.getElem_cons_succ, List.setIfInBounds_toArray, List.set_cons_zero, List.set_cons_succ]
              refine wpAny_ready (rs := [7]) (by kernel_rfl) (by simp) ?_
              refine AllReady.cons rfl (fun K hK => ?_) AllReady.nil
              go_simp
              refine hK _ _ ?_
              clear hK K
              try simp only [Act.put, List.getElem_toArray, List.getElem_cons_zero, List.getElem_cons_succ, List.setIfInBounds_toArray, List.set_cons_zero, List.set_cons_succ]
              refine wpAny_take (i := 8) (v := ?vb88x4) rfl (by kernel_rfl) (by kernel_rfl) (by kernel_rfl) (fun _ _ _ h => h) (Or.inl ⟨by rfl, ?yb88x4⟩) ?rb88x4
              case yb88x4 => (intro w'; (try go_simp); (try with_reducible rfl))
              try simp only [Act.put, List.getElem_toArray, List.getElem_cons_zero, List.getElem_cons_succ, List.setIfInBounds_toArray, List.set_cons_zero, List.set_cons_succ]
              refine wpAny_take (i := 9) (v := ?vb89x4) rfl (by kernel_rfl) (by kernel_rfl) (by kernel_rfl) (fun _ _ _ h => h) (Or.inl ⟨by rfl, ?yb89x4⟩) ?rb89x4
              case yb89x4 => (intro w'; (try go_simp); (try with_reducible rfl))
              try simp only [Act.put, List.getElem_toArray, List.getElem_cons_zero, List.getElem_cons_succ, List.setIfInBounds_toArray, List.set_cons_zero, List.set_cons_succ]
              refine wpAny_take (i := 10) (v := ?vb810x4) rfl (by kernel_rfl) (by kernel_rfl) (by kernel_rfl) (fun _ _ _ h => h) (Or.inl ⟨by rfl, ?yb810x4⟩) ?rb810x4
              case yb810x4 => (intro w'; (try go_simp); (try with_reducible rfl))
              try simp only [Act.put, List.getElem_toArray, List.getElem_cons_zero, List.getElem_cons_succ, List.setIfInBounds_toArray, List.set_cons_zero, List.set_cons_succ]
              refine wpAny_ready (rs := [11]) (by kernel_rfl) (by simp) ?_
              refine AllReady.cons rfl (fun K hK => ?_) AllReady.nil
              go_simp
              refine hK _ _ ?_
              clear hK K
              try simp only [Act.put, List.getElem_toArray, List.getElem_cons_zero, List.getElem_cons_succ, List.setIfInBounds_toArray, List.set_cons_zero, List.set_cons_succ]
              refine wpAny_done (by kernel_rfl) ?_ _
              simp only [OnlyNormal]
              have hW : Wrote W (W.setCell ⟨w.heap.size, x.1.1 * 2 + 1, none⟩ (.int .i64 x.1.2.2.rc.seq)) w.heap.size (x.1.1 * 2) (Spn (lowOf sp x.1.2.2.rc.seq, max sp.2 x.1.2.2.rc.seq)) := by
                rw [hlo.out, hmv.out]
                exact (wrote_one l1 (.int .i64 x.1.2.2.rc.seq)).less l0
              have hBL : Below w.heap.size W (W.setCell ⟨w.heap.size, x.1.1 * 2 + 1, none⟩ (.int .i64 x.1.2.2.rc.seq)).drew.drew := (((Below.refl w.heap.size W).setCell (p := ⟨w.heap.size, x.1.1 * 2 + 1, none⟩) (Nat.le_refl _) (.int .i64 x.1.2.2.rc.seq)).drew).drew
              have hBX : Boxed (W.setCell ⟨w.heap.size, x.1.1 * 2 + 1, none⟩ (.int .i64 x.1.2.2.rc.seq)).drew.drew (w.heap.size + 1) 141 (.slice (some ⟨w.heap.size, 0, none⟩) 4 4) := (hW.block (w.heap.size + 1) (by omega)).trans bV1
              have hRW : Row (W.setCell ⟨w.heap.size, x.1.1 * 2 + 1, none⟩ (.int .i64 x.1.2.2.rc.seq)).drew.drew (some ⟨w.heap.size, 0, none⟩) (spv (spOf ((pre ++ [x]).map Subtype.val))) := (HROW.out _ hW).drew.drew
              clear hW HROW
              gi_wp2
              exact ⟨(((KeepsOthers.setCell _ _ _).trans (KeepsOthers.drew _)).trans (KeepsOthers.drew _)).from _, hBL, ⟨hBX, hRW⟩, hB1.trans hBL⟩
            · go_simp
              refine hK _ _ ?_
              clear hK K
              try simp only [Act.put, List.getElem_toArray, List.getElem_cons_zero, List.getElem_cons_succ, List.setIfInBounds_toArray, List.set_cons_zero, List.set_cons_succ]
              refine wpAny_ready (rs := [4]) (by kernel_rfl) (by simp) ?_
              refine AllReady.cons rfl (fun K hK => ?_) AllReady.nil
              go_simp
              refine hK _ _ ?_
              clear hK K
              try simp only [Act.put, List.getElem_toArray, List.getElem_cons_zero, List.getElem_cons_succ, List.setIfInBounds_toArray, List.set_cons_zero, List.set_cons_succ]
              refine wpAny_take (i := 8) (v := ?vb88x7) rfl (by kernel_rfl) (by kernel_rfl) (by kernel_rfl) (fun _ _ _ h => h) (Or.inl ⟨by rfl, ?yb88x7⟩) ?rb88x7
              case yb88x7 => (intro w'; (try go_simp); (try with_reducible rfl))
              try simp only [Act.put, List.getElem_toArray, List.getElem_cons_zero, List.getElem_cons_succ, List.setIfInBounds_toArray, List.set_cons_zero, List.set_cons_succ]
              refine wpAny_take (i := 9) (v := ?vb89x7) rfl (by kernel_rfl) (by kernel_rfl) (by kernel_rfl) (fun _ _ _ h => h) (Or.inl ⟨by rfl, ?yb89x7⟩) ?rb89x7
              case yb89x7 => (intro w'; (try go_simp); (try with_reducible rfl))
              try simp only [Act.put, List.getElem_toArray, List.getElem_cons_zero, List.getElem_cons_succ, List.setIfInBounds_toArray, List.set_cons_zero, List.set_cons_succ]
              refine wpAny_take (i := 10) (v := ?vb810x7) rfl (by kernel_rfl) (by kernel_rfl) (by kernel_rfl) (fun _ _ _ h => h) (Or.inl ⟨by rfl, ?yb810x7⟩) ?rb810x7
              case yb810x7 => (intro w'; (try go_simp); (try with_reducible rfl))
              try simp only [Act.put, List.getElem_toArray, List.getElem_cons_zero, List.getElem_cons_succ, List.setIfInBounds_toArray, List.set_cons_zero, List.set_cons_succ]
              refine wpAny_ready (rs := [11]) (by kernel_rfl) (by simp) ?_
              refine AllReady.cons rfl (fun K hK => ?_) AllReady.nil
              go_simp
              refine hK _ _ ?_
              clear hK K
              try simp only [Act.put, List.getElem_toArray, List.getElem_cons_zero, List.getElem_cons_succ, List.setIfInBounds_toArray, List.set_cons_zero, List.set_cons_succ]
              refine wpAny_done (by kernel_rfl) ?_ _
              simp only [OnlyNormal]
              have hW : Wrote W (W.setCell ⟨w.heap.size, x.1.1 * 2 + 1, none⟩ (.int .i64 x.1.2.2.rc.seq)) w.heap.size (x.1.1 * 2) (Spn (lowOf sp x.1.2.2.rc.seq, max sp.2 x.1.2.2.rc.seq)) := by
                rw [hlo.out, hmv.out]
                exact (wrote_one l1 (.int .i64 x.1.2.2.rc.seq)).less l0
              have hBL : Below w.heap.size W (W.setCell ⟨w.heap.size, x.1.1 * 2 + 1, none⟩ (.int .i64 x.1.2.2.rc.seq)).drew.drew := (((Below.refl w.heap.size W).setCell (p := ⟨w.heap.size, x.1.1 * 2 + 1, none⟩) (Nat.le_refl _) (.int .i64 x.1.2.2.rc.seq)).drew).drew
              have hBX : Boxed (W.setCell ⟨w.heap.size, x.1.1 * 2 + 1, none⟩ (.int .i64 x.1.2.2.rc.seq)).drew.drew (w.heap.size + 1) 141 (.slice (some ⟨w.heap.size, 0, none⟩) 4 4) := (hW.block (w.heap.size + 1) (by omega)).trans bV1
              have hRW : Row (W.setCell ⟨w.heap.size, x.1.1 * 2 + 1, none⟩ (.int .i64 x.1.2.2.rc.seq)).drew.drew (some ⟨w.heap.size, 0, none⟩) (spv (spOf ((pre ++ [x]).map Subtype.val))) := (HROW.out _ hW).drew.drew
              clear hW HROW
              gi_wp2
              exact ⟨(((KeepsOthers.setCell _ _ _).trans (KeepsOthers.drew _)).trans (KeepsOthers.drew _)).from _, hBL, ⟨hBX, hRW⟩, hB1.trans hBL⟩
          · have hmv : Hid (max sp.2 x.1.2.2.rc.seq = sp.2) := by unfold Hid; omega
            refine region_round (by kernel_rfl) (by kernel_rfl) ?_
            refine wpAny_take (i := 0) (v := ?vb90) rfl (by kernel_rfl) (by kernel_rfl) (by kernel_rfl) (fun _ _ _ h => h) (Or.inl ⟨by rfl, ?yb90⟩) ?rb90
            case yb90 => (intro w'; (try go_simp); (try with_reducible rfl))
            try simp only [Act.put, List.getElem_toArray, List.getElem_cons_zero, List.getElem_cons_succ, List.setIfInBounds_toArray, List.set_cons_zero, List.set_cons_succ]
            refine wpAny_take (i := 1) (v := ?vb91) rfl (by kernel_rfl) (by kernel_rfl) (by kernel_rfl) (fun _ _ _ h => h) (Or.inl ⟨by rfl, ?yb91⟩) ?rb91
            case yb91 => (intro w'; (try go_simp); (try with_reducible rfl))
            try simp only [Act.put, List.getElem_toArray, List.getElem_cons_zero, List.getElem_cons_succ, List.setIfInBounds_toArray, List.set_cons_zero, List.set_cons_succ]
            refine wpAny_take (i := 2) (v := ?vb92) rfl (by kernel_rfl) (by kernel_rfl) (by kernel_rfl) (fun _ _ _ h => h) (Or.inl ⟨by rfl, ?yb92⟩) ?rb92
            case yb92 => (intro w'; (try go_simp); (try with_reducible rfl))
            try simp only [Act.put, List.getElem_toArray, List.getElem_cons_zero, List.getElem_cons_succ, List.setIfInBounds_toArray, List.set_cons_zero, List.set_cons_succ]
            refine wpAny_take (i := 3) (v := ?vb93) rfl (by kernel_rfl) (by kernel_rfl) (by kernel_rfl) (fun _ _ _ h => h) (Or.inl ⟨by rfl, ?yb93⟩) ?rb93
            case yb93 => (intro w'; (try go_simp); (try with_reducible rfl))
            try simp only [Act.put, List.getElem_toArray, List.getElem_cons_zero, List.getElem_cons_succ, List.setIfInBounds_toArray, List.set_cons_zero, List.set_cons_succ]
            refine wpAny_take (i := 5) (v := ?vb95) rfl (by kernel_rfl) (by kernel_rfl) (by kernel_rfl) (fun _ _ _ h => h) (Or.inl ⟨by rfl, ?yb95⟩) ?rb95
            case yb95 => (intro w'; (try go_simp); (try with_reducible rfl))
            try simp only [Act.put, List.getElem_toArray, List.getElem_cons_zero, List.getElem_cons_succ, List.setIfInBounds_toArray, List.set_cons_zero, List.set_cons_succ]
            refine wpAny_take (i := 6) (v := ?vb96) rfl (by kernel_rfl) (by kernel_rfl) (by kernel_rfl) (fun _ _ _ h => h) (Or.inl ⟨by rfl, ?yb96⟩) ?rb96
            case yb96 => (intro w'; (try go_simp); (try with_reducible rfl))
            try simp only [Act.put, List.getElem_toArray, List.getElem_cons_zero, List.getElem_cons_succ, List.setIfInBounds_toArray, List.set_cons_zero, List.set_cons_succ]
            refine wpAny_ready (rs := [4, 7]) (by kernel_rfl) (by simp) ?_
            refine AllReady.cons rfl (fun K hK => ?_) (AllReady.cons rfl (fun K hK => ?_) AllReady.nil)
            · go_simp
              refine hK _ _ ?_
              clear hK K
              try simp only [Act.put, List.getElem_toArray, List.getElem_cons_zero, List.getElem_cons_succ, List.setIfInBounds_toArray, List.set_cons_zero, List.set_cons_succ]
              refine wpAny_ready (rs := [7]) (by kernel_rfl) (by simp) ?_
              refine AllReady.cons rfl (fun K hK => ?_) AllReady.nil
              go_simp
              refine hK _ _ ?_
              clear hK K
              try simp only [Act.put, List.getElem_toArray, List.getElem_cons_zero, List.getElem_cons_succ, List.setIfInBounds_toArray, List.set_cons_zero, List.set_cons_succ]
              refine wpAny_take (i := 8) (v := ?vb98x4) rfl (by kernel_rfl) (by kernel_rfl) (by kernel_rfl) (fun _ _ _ h => h) (Or.inl ⟨by rfl, ?yb98x4⟩) ?rb98x4
              case yb98x4 => (intro w'; (try go_simp); (try with_reducible rfl))
              try simp only [Act.put, List.getElem_toArray, List.getElem_cons_zero, List.getElem_cons_succ, List.setIfInBounds_toArray, List.set_cons_zero, List.set_cons_succ]
              refine wpAny_take (i := 9) (v := ?vb99x4) rfl (by kernel_rfl) (by kernel_rfl) (by kernel_rfl) (fun _ _ _ h => h) (Or.inl ⟨by rfl, ?yb99x4⟩) ?rb99x4
              case yb99x4 => (intro w'; (try go_simp); (try with_reducible rfl))
              try simp only [Act.put, List.getElem_toArray, List.getElem_cons_zero, List.getElem_cons_succ, List.setIfInBounds_toArray, List.set_cons_zero, List.set_cons_succ]
              refine wpAny_take (i := 10) (v := ?vb910x4) rfl (by kernel_rfl) (by kernel_rfl) (by kernel_rfl) (fun _ _ _ h => h) (Or.inl ⟨by rfl, ?yb910x4⟩) ?rb910x4
              case yb910x4 => (intro w'; (try go_simp); (try with_reducible rfl))
              try simp only [Act.put, List.getElem_toArray, List.getElem_cons_zero, List.getElem_cons_succ, List.setIfInBounds_toArray, List.set_cons_zero, List.set_cons_succ]
              refine wpAny_ready (rs := [11]) (by kernel_rfl) (by simp) ?_
              refine AllReady.cons rfl (fun K hK => ?_) AllReady.nil
              go_simp
              refine hK _ _ ?_
              clear hK K
              try simp only [Act.put, List.getElem_toArray, List.getElem_cons_zero, List.getElem_cons_succ, List.setIfInBounds_toArray, List.set_cons_zero, List.set_cons_succ]
              refine wpAny_done (by kernel_rfl) ?_ _
              simp only [OnlyNormal]
              have hW : Wrote W (W.setCell ⟨w.heap.size, x.1.1 * 2 + 1, none⟩ (.int .i64 sp.2)) w.heap.size (x.1.1 * 2) (Spn (lowOf sp x.1.2.2.rc.seq, max sp.2 x.1.2.2.rc.seq)) := by
                rw [hlo.out, hmv.out]
                exact (wrote_one l1 (.int .i64 sp.2)).less l0
              have hBL : Below w.heap.size W (W.setCell ⟨w.heap.size, x.1.1 * 2 + 1, none⟩ (.int .i64 sp.2)).drew.drew := (((Below.refl w.heap.size W).setCell (p := ⟨w.heap.size, x.1.1 * 2 + 1, none⟩) (Nat.le_refl _) (.int .i64 sp.2)).drew).drew
              have hBX : Boxed (W.setCell ⟨w.heap.size, x.1.1 * 2 + 1, none⟩ (.int .i64 sp.2)).drew.drew (w.heap.size + 1) 141 (.slice (some ⟨w.heap.size, 0, none⟩) 4 4) := (hW.block (w.heap.size + 1) (by omega)).trans bV1
              have hRW : Row (W.setCell ⟨w.heap.size, x.1.1 * 2 + 1, none⟩ (.int .i64 sp.2)).drew.drew (some ⟨w.heap.size, 0, none⟩) (spv (spOf ((pre ++ [x]).map Subtype.val))) := (HROW.out _ hW).drew.drew
              clear hW HROW
              gi_wp2
              exact ⟨(((KeepsOthers.setCell _ _ _).trans (KeepsOthers.drew _)).trans (KeepsOthers.drew _)).from _, hBL, ⟨hBX, hRW⟩, hB1.trans hBL⟩
            · go_simp
              refine hK _ _ ?_
              clear hK K
              try simp only [Act.put, List.getElem_toArray, List.getElem_cons_zero, List.getElem_cons_succ, List.setIfInBounds_toArray, List.set_cons_zero, List.set_cons_succ]
              refine wpAny_ready (rs := [4]) (by kernel_rfl) (by simp) ?_
              refine AllReady.cons rfl (fun K hK => ?_) AllReady.nil
              go_simp
              refine hK _ _ ?_
              clear hK K
              try simp only [Act.put, List.getElem_toArray, List.getElem_cons_zero, List.getElem_cons_succ, List.setIfInBounds_toArray, List.set_cons_zero, List.set_cons_succ]
              refine wpAny_take (i := 8) (v := ?vb98x7) rfl (by kernel_rfl) (by kernel_rfl) (by kernel_rfl) (fun _ _ _ h => h) (Or.inl ⟨by rfl, ?yb98x7⟩) ?rb98x7
              case yb98x7 => (intro w'; (try go_simp); (try with_reducible rfl))
              try simp only [Act.put, List.getElem_toArray, List.getElem_cons_zero, List.getElem_cons_succ, List.setIfInBounds_toArray, List.set_cons_zero, List.set_cons_succ]
              refine wpAny_take (i := 9) (v := ?vb99x7) rfl (by kernel_rfl) (by kernel_rfl) (by kernel_rfl) (fun _ _ _ h => h) (Or.inl ⟨by rfl, ?yb99x7⟩) ?rb99x7
              case yb99x7 => (intro w'; (try go_simp); (try with_reducible rfl))
              try simp only [Act.put, List.getElem_toArray, List.getElem_cons_zero, List.getElem_cons_succ, List.setIfInBounds_toArray, List.set_cons_zero, List.set_cons_succ]
              refine wpAny_take (i := 10) (v := ?vb910x7) rfl (by kernel_rfl) (by kernel_rfl) (by kernel_rfl) (fun _ _ _ h => h) (Or.inl ⟨by rfl, ?yb910x7⟩) ?rb910x7
              case yb910x7 => (intro w'; (try go_simp); (try with_reducible rfl))
              try simp only [Act.put, List.getElem_toArray, List.getElem_cons_zero, List.getElem_cons_succ, List.setIfInBounds_toArray, List.set_cons_zero, List.set_cons_succ]
              refine wpAny_ready (rs := [11]) (by kernel_rfl) (by simp) ?_
              refine AllReady.cons rfl (fun K hK => ?_) AllReady.nil
              go_simp
              refine hK _ _ ?_
              clear hK K
              try simp only [Act.put, List.getElem_toArray, List.getElem_cons_zero, List.getElem_cons_succ, List.setIfInBounds_toArray, List.set_cons_zero, List.set_cons_succ]
              refine wpAny_done (by kernel_rfl) ?_ _
              simp only [OnlyNormal]
              have hW : Wrote W (W.setCell ⟨w.heap.size, x.1.1 * 2 + 1, none⟩ (.int .i64 sp.2)) w.heap.size (x.1.1 * 2) (Spn (lowOf sp x.1.2.2.rc.seq, max sp.2 x.1.2.2.rc.seq)) := by
                rw [hlo.out, hmv.out]
                exact (wrote_one l1 (.int .i64 sp.2)).less l0
              have hBL : Below w.heap.size W (W.setCell ⟨w.heap.size, x.1.1 * 2 + 1, none⟩ (.int .i64 sp.2)).drew.drew := (((Below.refl w.heap.size W).setCell (p := ⟨w.heap.size, x.1.1 * 2 + 1, none⟩) (Nat.le_refl _) (.int .i64 sp.2)).drew).drew
              have hBX : Boxed (W.setCell ⟨w.heap.size, x.1.1 * 2 + 1, none⟩ (.int .i64 sp.2)).drew.drew (w.heap.size + 1) 141 (.slice (some ⟨w.heap.size, 0, none⟩) 4 4) := (hW.block (w.heap.size + 1) (by omega)).trans bV1
              have hRW : Row (W.setCell ⟨w.heap.size, x.1.1 * 2 + 1, none⟩ (.int .i64 sp.2)).drew.drew (some ⟨w.heap.size, 0, none⟩) (spv (spOf ((pre ++ [x]).map Subtype.val))) := (HROW.out _ hW).drew.drew
              clear hW HROW
              gi_wp2
              exact ⟨(((KeepsOthers.setCell _ _ _).trans (KeepsOthers.drew _)).trans (KeepsOthers.drew _)).from _, hBL, ⟨hBX, hRW⟩, hB1.trans hBL⟩
    · have h1' : (x.1.2.2.state != 1) = true := by simpa using h1
      gi_wp2
      exact ⟨KeepsFrom.refl _ _, Below.refl _ _, ⟨bV1, by rw [hst.out]; unfold spStep; rw [if_neg h1]; exact hR1⟩, hB1⟩
  case done =>
    rintro D ys W hD hys ⟨⟨bV1, hR1⟩, hB1⟩ hK
    have cV := bV1.cell
    gi_wp2
    refine ⟨by simp, .inl ⟨_, _, rfl, run_takeDeferred hK, ?_⟩⟩
    refine ⟨_, results_tmp rfl _ _ _, w.heap.size, rfl, Nat.le_refl _, ?_, hB1.trans (belowK_b (w := w) (Nat.le_refl _) W D _ _ (by omega) hK rfl rfl)⟩
    rw [← hys]
    exact row_own _ _ w.heap.size () W _ (some D) hR1 (grownBy_putObj' W D _) (fun r e => by cases e; exact ⟨by omega, _, hK, rfl⟩)
  case stop =>
    rintro D c pre W _ _ h _
    exact h.elim
end Go.Proofs.Ytbekihiiildgmaa
