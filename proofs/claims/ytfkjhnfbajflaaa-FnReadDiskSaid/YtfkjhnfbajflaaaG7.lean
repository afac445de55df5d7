/- Walks: the reference's steps: room. -/
import Derived.Test.YtfkjhnfbajflaaaG5
import Derived.Test.YtfkjhnfbajflaaaG6
import Derived.Test.YtfkjhnfbajflaaaS4
import Derived.Deep.AppendLies
import Derived.Deep.Onto
import Derived.OwnWalk
namespace Go.Proofs.Ytfkjhnfbajflaaa
set_option linter.unusedVariables false
set_option linter.unusedSimpArgs false
open Go.RowKit Go.Maps
set_option maxHeartbeats 400000
theorem Try.info3_step : (Try.prog.info? 115).map (fun i => (i.zero, i.size, i.bytes)) = some (some (.agg #[.int .i64 0, .int .i64 0, .int .i64 0, .int .i64 0, .int .i64 0, .int .i64 0, .int .i64 0, .int .i64 0]), 8, 64) := by kernel_rfl
theorem spec_l3Open' (n : Nat) (f : List Bk) (A : Option Addr) (c : Nat) (w : World) (hn : n = f.length) (hl : f.length < 1000000000000) (hp : ∀ b ∈ f, b.pages.length < 1000000000000) (hF : Fl w A f) :
    Calls Try.prog 35 #[.slice A n c] w fun e w' => e = .returned (.tuple #[.int .i64 (openB f).1, .bool (openB f).2]) ∧ 0 ≤ (openB f).1 ∧ (f ≠ [] → (openB f).1 < f.length) ∧ Below w.heap.size w w' := by subst hn; exact spec_l3Open f A c w hl hp hF
theorem spec_l3Old' (n : Nat) (f : List Bk) (A : Option Addr) (c : Nat) (w : World) (hn : n = f.length) (hl : f.length < 1000000000000) (h0 : 0 < f.length) (hp : ∀ b ∈ f, b.pages.length < 1000000000000) (hF : Fl w A f) :
    Calls Try.prog 86 #[.slice A n c] w fun e w' => e = .returned (.int .i64 (old f)) ∧ old f < f.length ∧ Below w.heap.size w w' := by subst hn; exact spec_l3Old f A c w hl h0 hp hF
theorem spec_l3Next' (n : Nat) (f : List Bk) (A : Option Addr) (c : Nat) (w : World) (hn : n = f.length) (hl : f.length < 1000000000000) (hp : ∀ b ∈ f, b.pages.length < 1000000000000) (hm : ∀ b ∈ f, most b < 1000000000000) (hF : Fl w A f) :
    Calls Try.prog 83 #[.slice A n c] w fun e w' => e = .returned (.int .i64 (next f)) ∧ Below w.heap.size w w' := by subst hn; exact spec_l3Next f A c w hl hp hm hF
theorem spec_l3Live' (n : Nat) (f : List Bk) (p : Pg) (A : Option Addr) (c : Nat) (w : World) (hn : n = f.length) (hl : f.length < 1000000000000) (hp : ∀ b ∈ f, b.pages.length < 1000000000000) (hF : Fl w A f) :
    Calls Try.prog 87 #[.slice A n c, .agg #[.int .i64 p.state, .int .i64 p.rc.kind, .int .i64 p.rc.seq, .int .i64 p.rc.addr, .int .i64 p.rc.val]] w fun e w' => e = .returned (.bool (live f p)) ∧ Below w.heap.size w w' := by subst hn; exact spec_l3Live f p A c w hl hp hF
theorem spec_l3Last' (n : Nat) (f : List Bk) (addr : Int) (A : Option Addr) (c : Nat) (w : World) (hn : n = f.length) (hl : f.length < 1000000000000) (hp : ∀ b ∈ f, b.pages.length < 1000000000000) (hF : Fl w A f) :
    Calls Try.prog 55 #[.slice A n c, .int .i64 addr] w fun e w' => e = .returned (.tuple #[.agg #[.int .i64 (last f addr).kind, .int .i64 (last f addr).seq, .int .i64 (last f addr).addr, .int .i64 (last f addr).val], .bool (decide (0 < (last f addr).seq))]) ∧ Below w.heap.size w w' := by subst hn; exact spec_l3Last f addr A c w hl hp hF
theorem spec_l11Dirty' (n : Nat) (f : List Bk) (a : Int) (A D : Option Addr) (c m d : Nat) (w : World) (hn : n = f.length) (hl : f.length < 1000000000000) (hp : ∀ b ∈ f, b.pages.length < 1000000000000) (hF : Fl w A f) :
    Calls Try.prog 80 #[.agg #[.slice A n c, .slice D m d], .int .i64 a] w fun e w' => e = .returned (.bool (dirty f a)) ∧ Below w.heap.size w w' := by subst hn; exact spec_l11Dirty f a A D c m d w hl hp hF
theorem spec_l11Read' (n : Nat) (s : St) (a : Int) (A D : Option Addr) (c d : Nat) (w : World) (hn : n = s.flash.length) (hl : s.flash.length < 1000000000000) (hp : ∀ b ∈ s.flash, b.pages.length < 1000000000000) (hd : s.disk.length = 6) (ha : 1 ≤ a) (ha2 : a ≤ 6) (hF : Fl w A s.flash) (hD : Row w D (ints s.disk)) :
    Calls Try.prog 54 #[.agg #[.slice A n c, .slice D 6 d], .int .i64 a] w fun e w' => e = .returned (.int .i64 (readV s a)) ∧ Below w.heap.size w w' := by subst hn; exact spec_l11Read s a A D c d w hl hp hd ha ha2 hF hD
/-- a row of steps of one's own, in a block from base on -/
def OwnS (w : World) (base : Nat) (v : Value) (xs : List Sp) : Prop := w.ownsRow base 115 8 v xs.length (sps xs)
theorem ownsRow_keep {w w' : World} {base : Nat} {e : TypeId} {size n : Nat} {v : Value} {xs : List Value} (h : w.ownsRow base e size v n xs) (hk : ∀ b, v.ownBlock = some b → b < w.heap.size → w'.heap[b]? = w.heap[b]?) : w'.ownsRow base e size v n xs := by
  refine ⟨h.1, ?_⟩
  rcases h.2 with hn | ⟨g, cap, cur, hv, hb, hg, rest⟩
  · exact .inl hn
  · have hl : g < w.heap.size := by
      rcases Nat.lt_or_ge g w.heap.size with hl | hl
      · exact hl
      · rw [Array.getElem?_eq_none hl] at hg; cases hg
    exact .inr ⟨g, cap, cur, hv, hb, by rw [hk g (by rw [hv]; rfl) hl]; exact hg, rest⟩
theorem OwnS.below {w w' : World} {base B : Nat} {v : Value} {xs : List Sp} (h : OwnS w base v xs) (hb : Below B w w') (hB : w.heap.size ≤ B) : OwnS w' base v xs := ownsRow_keep h fun b _ hl => hb.block b (by omega)
theorem OwnS.agr {w w' : World} {base : Nat} {v : Value} {xs : List Sp} {S : Nat → Prop} (h : OwnS w base v xs) (hb : Agr S w w') (hS : ∀ b, base ≤ b → ¬ S b) : OwnS w' base v xs := by
  refine ownsRow_keep h fun b hbl hl => hb.block b hl (hS b ?_)
  exact (World.ownsRow.lt h b hbl).1
theorem OwnS.mono {w : World} {base base' : Nat} {v : Value} {xs : List Sp} (h : OwnS w base v xs) (hb : base' ≤ base) : OwnS w base' v xs := World.ownsRow.mono h hb
theorem OwnS.nil (w : World) (base : Nat) (hb : base ≤ w.heap.size) : OwnS (w.alloc (.cells #[] 115)) base (.slice (some ⟨w.heap.size, 0, none⟩) 0 0) [] := World.ownsRow_lit w #[] 0 hb (by unfold maxLen; omega) rfl
theorem OwnS.shape {w : World} {base : Nat} {v : Value} {xs : List Sp} (h : OwnS w base v xs) : ∃ A c, v = .slice A xs.length c ∧ xs.length ≤ c ∧ Row w A (sps xs) ∧ ∀ b, blk A b → base ≤ b ∧ b < w.heap.size := by
  rcases h.2 with ⟨hv, hn⟩ | ⟨g, cap, cur, hv, hb, hg, hc, rest⟩
  · exact ⟨none, 0, by rw [hv, hn], by omega, by have : xs = [] := List.length_eq_zero_iff.1 hn; subst this; exact Row.nil _ _, fun b hb => by simp [blk] at hb⟩
  · refine ⟨some ⟨g, 0, none⟩, cap, hv, hc, Row.of_own (by rw [← hv]; exact h), fun b hbb => ?_⟩
    rw [blk_some] at hbb
    subst hbb
    exact ⟨hb, (World.ownsRow.lt h g (by rw [hv]; rfl)).2⟩
theorem OwnS.snoc {w : World} {base g n c : Nat} {xs : List Sp} {x : Sp} (hn : n = xs.length + 1) (h : w.ownsRow base 115 8 (.slice (some ⟨g, 0, none⟩) (xs.length + 1) c) (xs.length + 1) (sps xs ++ x.vs)) : OwnS w base (.slice (some ⟨g, 0, none⟩) n c) (xs ++ [x]) := by
  subst hn
  unfold OwnS
  rw [List.length_append, sps, List.flatMap_append, show [x].flatMap Sp.vs = x.vs by simp]
  exact h
theorem tells_snoc (f : List Bk) (xs : List Sp) (p : Pg) (r : List Pg) : xs ++ tells f (p :: r) = (if told f p then xs ++ [tellP p] else xs) ++ tells f r := by
  unfold tells
  rw [List.filter_cons]
  split
  · simp
  · rfl
theorem old_lt {f : List Bk} : ∀ (r : List Bk) (i out : Nat), i + r.length = f.length → out < f.length → oldGo f i out r < f.length
  | [], _, _, _, h => h
  | b :: r, i, out, hi, h => by
    rw [List.length_cons] at hi
    unfold oldGo
    split
    · exact old_lt r _ _ (by omega) (by omega)
    · exact old_lt r _ _ (by omega) h
set_option maxHeartbeats 4000000 in
set_option maxRecDepth 100000 in
theorem spec_l12Room (f : List Bk) (A D : Option Addr) (c m d : Nat) (w : World) (hf : f.length = 4) (hp : ∀ b ∈ f, b.pages.length = 4) (hF : Fl w A f) :
    Calls Try.prog 84 #[.agg #[.slice A 4 c, .slice D m d]] w fun e w' => ∃ v, e = .returned (.tuple #[v, .int .i64 (room f).2.1, .bool (room f).2.2]) ∧ OwnS w' w.heap.size v (room f).1 ∧ Below w.heap.size w w' := by
  obtain ⟨ib, hib, hbz0, hbz1, hbz2⟩ := info_parts Try.info3_step
  have HL := Lib.hid hf
  have HP4 := Lib.hid hp
  have hl4 : f.length < 1000000000000 := by omega
  have h04 : 0 < f.length := by omega
  have HP := Lib.hid (show ∀ b ∈ f, b.pages.length < 1000000000000 from fun b hb => by rw [hp b hb]; omega)
  clear hf hp
  go_enter Try.func84, Try.ntmps84
  go_wp2_with fail
  refine (spec_l3Open' _ f A c _ HL.out.symm hl4 HP.out ((hF.alloc _).alloc _)).mono ?_
  rintro e w1 ⟨rfl, ho0, ho1, hb⟩
  have hB : Below w.heap.size w w1 := Below.trans (by (repeat (first | (with_reducible exact Below.refl _ _) | (with_reducible assumption) | (refine Below.setCell ?_ (by first | omega | exact hB.size | exact hb.size | (have h := hB.size; simp; omega) | (have h := hb.size; simp; omega) | (simp; omega) | simp) _) | (refine Below.alloc ?_ (by first | omega | exact hB.size | exact hb.size | (have h := hB.size; simp; omega) | (have h := hb.size; simp; omega) | (simp; omega) | simp) _) | (refine Below.drew ?_)))) (hb.mono (by simp; omega))
  have hz : w.heap.size + 1 < w1.heap.size := by have := hb.size; simp at this; omega
  obtain ⟨hc, hfz⟩ := bcell hb
  have hO1 : OwnS w1 (w.heap.size + 1) (.slice (some ⟨w.heap.size + 1, 0, none⟩) 0 0) [] := by
    have := (OwnS.nil (w.alloc (.cells #[.slice A 4 c, .slice D m d] 39)) (w.heap.size + 1) (by simp))
    simp only [World.size_alloc] at this
    exact this.below hb (by simp)
  have hb0 : w1.cell? ⟨w.heap.size, 0, none⟩ = some (.slice A 4 c) := (hc _ _ (by simp <;> omega)).trans (by simp)
  clear hb hc hfz
  by_cases h1 : (openB f).2 = true
  · have h3 : Hid (room f = ([], (openB f).1, true)) := by unfold Hid room; rw [if_pos h1]
    rw [h1]
    go_wp2
    go_ret3
    rw [h3.out]
    exact ⟨_, rfl, hO1.mono (by omega), by (repeat (first | (with_reducible exact Below.refl _ _) | (with_reducible assumption) | (refine Below.setCell ?_ (by first | omega | exact hB.size | exact hb.size | (have h := hB.size; simp; omega) | (have h := hb.size; simp; omega) | (simp; omega) | simp) _) | (refine Below.alloc ?_ (by first | omega | exact hB.size | exact hb.size | (have h := hB.size; simp; omega) | (have h := hb.size; simp; omega) | (simp; omega) | simp) _) | (refine Below.drew ?_)))⟩
  · have h3 : Hid (room f = (tells f (f.getD (old f) zbk).pages ++ [⟨2, 0, 0, old f, rc0⟩], (old f : Int), decide ((f.getD (old f) zbk).worn < 200))) := by unfold Hid room; rw [if_neg h1]
    rw [show (openB f).2 = false by simpa using h1]
    clear ho0 ho1
    go_wp2_with fail
    refine (spec_l3Old' _ f A c _ HL.out.symm hl4 h04 HP.out (hF.below hB (Nat.le_refl _))).mono ?_
    rintro e w2 ⟨rfl, hol, hb2⟩
    have hO2 := hO1.below hb2 (Nat.le_refl _)
    have hb0' := (hb2.cell (p := ⟨w.heap.size, 0, none⟩) (by simp; omega)).trans hb0
    have hz2 := hb2.size
    have hB2 := hB.trans (hb2.mono hB.size)
    clear hO1 hb0 hB hb2
    generalize old f = i at *
    obtain ⟨B, hBf⟩ := get_some hol
    rw [HL.out] at hol
    have hgd : f.getD i zbk = B := by rw [List.getD_eq_getElem?_getD, hBf]; rfl
    rw [hgd] at h3
    have hB4 := HP4.out B (List.mem_of_getElem? hBf)
    have HB := Lib.hid hBf
    have HB4 := Lib.hid hB4
    have hi4 : (i : Int) < 4 := by omega
    obtain ⟨g, o, rfl⟩ := (hF.below hB2 (Nat.le_refl _)).choose_spec.addr (by intro e; rw [e] at hBf; simp at hBf)
    have hT : Hid (tells f B.pages = [] ++ tells f (B.pages.drop 0)) := rfl
    clear hgd hBf hB4
    go_wp2
    go_loopw [5, 9] (fun u q wr => ∃ (k : Nat) (xs : List Sp) (v : Value), k ≤ 4 ∧ q = .int .i64 k ∧ v = u ∧ xs.length ≤ k ∧ OwnS wr (w.heap.size + 1) v xs ∧ Below w.heap.size w wr ∧ wr.cell? ⟨w.heap.size, 0, none⟩ = some (.slice (some ⟨g, o, none⟩) 4 c) ∧ w.heap.size + 1 < wr.heap.size ∧ Hid (tells f B.pages = xs ++ tells f (B.pages.drop k))) (fun _ q _ => 4 - (intOf q).toNat)
    case atStart => exact ⟨0, [], _, by omega, rfl, rfl, by simp, hO2, hB2, hb0', by omega, hT⟩
    case round =>
      clear hT hO2 hb0' hz2 hB2 hz
      obtain ⟨k, xs, v, hk, rfl, rfl, hxk, hO, hb, hbx, hz, hT⟩ := hrel
      obtain ⟨hs, hBk⟩ := hF.below hb (Nat.le_refl _)
      obtain ⟨⟨Ap, cp⟩, _, z0, z1, _, _, hR, _⟩ := hBk.at_ HB.out
      dsimp only at z0 hR
      rw [HB4.out] at z0
      by_cases hlt : k < 4
      · obtain ⟨p, hq⟩ := get_some (l := B.pages) (k := k) (by have := HB4.out; omega)
        obtain ⟨pb, po, rfl⟩ := hR.addr (pgs_ne (by intro e; rw [e] at hq; simp at hq))
        obtain ⟨c0, c1, c2, c3, c4⟩ := hR.pg hq
        have hT1 : Hid (tells f B.pages = (if told f p then xs ++ [tellP p] else xs) ++ tells f (B.pages.drop (k + 1))) := by rw [Hid, hT.out, drop_cons hq, tells_snoc]
        have hk4 : (k : Int) < 4 := by omega
        have hzz : w.heap.size < wr.heap.size := by omega
        clear hq hT hBk hR
        go_wp2_with fail
        refine (spec_l3Live' _ f p _ c _ HL.out.symm hl4 HP.out ((hF.below hb (Nat.le_refl _)).alloc _)).mono ?_
        rintro e w3 ⟨rfl, hb3⟩
        have hO3 := (hO.below ((Below.refl wr.heap.size _).alloc (Nat.le_refl _) (.cells #[.int .i64 p.state, .int .i64 p.rc.kind, .int .i64 p.rc.seq, .int .i64 p.rc.addr, .int .i64 p.rc.val] 59)) (Nat.le_refl _)).below hb3 (Nat.le_refl _)
        have hbx3 := (hb3.cell (p := ⟨w.heap.size, 0, none⟩) (by show w.heap.size < _; simp; omega)).trans ((((Below.refl wr.heap.size wr).alloc (Nat.le_refl _) (.cells #[.int .i64 p.state, .int .i64 p.rc.kind, .int .i64 p.rc.seq, .int .i64 p.rc.addr, .int .i64 p.rc.val] 59)).cell (p := ⟨w.heap.size, 0, none⟩) (by show w.heap.size < wr.heap.size; omega)).trans hbx)
        have hB3 : Below w.heap.size w w3 := Below.trans (by (repeat (first | (with_reducible exact Below.refl _ _) | (with_reducible assumption) | (refine Below.setCell ?_ (by first | omega | exact hB.size | exact hb.size | (have h := hB.size; simp; omega) | (have h := hb.size; simp; omega) | (simp; omega) | simp) _) | (refine Below.alloc ?_ (by first | omega | exact hB.size | exact hb.size | (have h := hB.size; simp; omega) | (have h := hb.size; simp; omega) | (simp; omega) | simp) _) | (refine Below.drew ?_)))) (hb3.mono (by simp; omega))
        have hs3 : wr.heap.size + 1 ≤ w3.heap.size := by have := hb3.size; simpa using this
        obtain ⟨hc3, _⟩ := bcell hb3
        have p1 : w3.cell? ⟨wr.heap.size, 1, none⟩ = some (.int .i64 p.rc.kind) := (hc3 _ _ (by simp)).trans (by simp)
        have p3 : w3.cell? ⟨wr.heap.size, 3, none⟩ = some (.int .i64 p.rc.addr) := (hc3 _ _ (by simp)).trans (by simp)
        have p4 : w3.cell? ⟨wr.heap.size, 4, none⟩ = some (.int .i64 p.rc.val) := (hc3 _ _ (by simp)).trans (by simp)
        have htd : Hid (told f p = (live f p && decide (p.rc.kind = 1))) := rfl
        clear hb3 hc3 hO hbx hb c0 c1 c2 c3 c4 z0 z1
        generalize live f p = lv at *
        by_cases hd : lv = true ∧ p.rc.kind = 1
        · obtain ⟨rfl, hk1⟩ := hd
          have hT2 : Hid (tells f B.pages = (xs ++ [tellP p]) ++ tells f (B.pages.drop (k + 1))) := by rw [Hid, hT1.out, if_pos (by rw [htd.out]; simp [hk1])]
          rw [hk1] at p1
          clear hT1 htd
          have hO4 := hO3.below ((Below.refl w3.heap.size _).alloc (Nat.le_refl _) (.cells #[.int .i64 1, .int .i64 p.rc.addr, .int .i64 p.rc.val, .int .i64 0, .int .i64 0, .int .i64 0, .int .i64 0, .int .i64 0] 115)) (Nat.le_refl _)
          have hnb : v.ownBlock = none ∨ ∃ b, v.ownBlock = some b ∧ w.heap.size + 1 ≤ b ∧ b < w3.heap.size := by
            rcases h : v.ownBlock with _ | b
            · exact .inl rfl
            · have := World.ownsRow.lt hO3 b h; exact .inr ⟨b, rfl, this.1, this.2⟩
          go_wp2_with (at_builtin; refine wpList_append_lies _ rfl (.tmp 47) (.tmp 55) _ rfl (w.heap.size + 1) 115 ib _ 8 64 Try.underlying110 hib hbz0 hbz1 hbz2 rfl (by omega) v xs.length (sps xs) rfl hO4 ⟨w3.heap.size, 0, none⟩ 1 1 (tellP p).vs rfl rfl (World.news_of_block (cs := #[.int .i64 1, .int .i64 p.rc.addr, .int .i64 p.rc.val, .int .i64 0, .int .i64 0, .int .i64 0, .int .i64 0, .int .i64 0]) (t := 115) (fr := (0, 0)) (heap_alloc_new w3 _)) (by simp [Value.oneCell', tellP, Sp.vs, rc0]) (by omega) (by unfold maxLen; omega) (by omega) (by simp; omega) (w3.heap.size + 1) (by simp) ?_; intro g2 c2 w4 hown2 hgrow2 hat2 hlt2)
          have hgb : ∀ q, v.ownBlock = some q → w.heap.size + 1 ≤ q := fun q e => by
            rcases hnb with h | ⟨b, h, h1, _⟩
            · rw [h] at e; cases e
            · rw [h] at e; cases e; exact h1
          have hbb : Below (w.heap.size + 1) w3 w4 := ((Below.refl _ _).alloc (by omega) _).grown hgrow2 (by simp; omega) hgb
          have hB4 : Below w.heap.size w w4 := hB3.trans (hbb.mono (by omega))
          have hbx4 := (hbb.cell (p := ⟨w.heap.size, 0, none⟩) (by show w.heap.size < _; omega)).trans hbx3
          have hs4 := hbb.size
          have hOS := OwnS.snoc (x := tellP p) rfl hown2
          go_roundw
          case rel => exact ⟨k + 1, xs ++ [tellP p], _, by omega, by go_num, rfl, by simp; omega, hOS, hB4, hbx4, by omega, hT2⟩
          case measure => simp [intOf]; omega
        · have hT2 : Hid (tells f B.pages = xs ++ tells f (B.pages.drop (k + 1))) := by
            rw [Hid, hT1.out, if_neg (by
              rw [htd.out]
              intro h
              simp at h
              exact hd h)]
          clear hT1 htd
          rcases Bool.eq_false_or_eq_true lv with rfl | rfl
          · have hk1 : ¬ p.rc.kind = 1 := fun h => hd ⟨rfl, h⟩
            go_wp2
            go_roundw
            case rel => exact ⟨k + 1, xs, v, by omega, by go_num, rfl, by omega, hO3, hB3, hbx3, by omega, hT2⟩
            case measure => simp [intOf]; omega
          · go_wp2
            go_roundw
            case rel => exact ⟨k + 1, xs, v, by omega, by go_num, rfl, by omega, hO3, hB3, hbx3, by omega, hT2⟩
            case measure => simp [intOf]; omega
      · obtain rfl : k = 4 := by omega
        have hT2 : Hid (tells f B.pages = xs) := by
          rw [Hid, hT.out, List.drop_of_length_le (by rw [HB4.out]; exact Nat.le_refl _)]
          simp [tells]
        rw [hT2.out] at h3
        have hzz : w.heap.size < wr.heap.size := by omega
        have hnb : ∀ q, v.ownBlock = some q → w.heap.size + 1 ≤ q := fun q e => (World.ownsRow.lt hO q e).1
        have hgl := lt_of_cell z1
        have hs1 := hb.size
        have hgw : g < w.heap.size := by
          obtain ⟨hs', hBk'⟩ := hF
          obtain ⟨_, _, _, z1', _⟩ := hBk'.at_ HB.out
          exact lt_of_cell z1'
        clear hT hBk hR z0
        go_wp2
        go_region_held3 (fun w' => w'.cell? ⟨w.heap.size, 0, none⟩ = some (.slice (some ⟨g, o, none⟩) 4 c) ∧ w'.cell? ⟨g, o + i * 2 + 1, none⟩ = some (.int .i64 B.worn)) (first | go_keep | trivial)
          (first
            | (refine step_append_lies _ (by rfl) (.tmp 57) (.tmp 60) _ (by rfl) (w.heap.size + 1) 115 ib _ 8 64 Try.underlying110 hib hbz0 hbz1 hbz2 rfl (by omega) v xs.length (sps xs) (by rfl) (World.ownsRow.drew (World.ownsRow.alloc hO (.cells #[.int .i64 2, .int .i64 0, .int .i64 0, .int .i64 i, .int .i64 0, .int .i64 0, .int .i64 0, .int .i64 0] 115))) ⟨wr.heap.size, 0, none⟩ 1 1 (⟨2, 0, 0, i, rc0⟩ : Sp).vs (by rfl) (by rfl) (World.news_of_block (cs := #[.int .i64 2, .int .i64 0, .int .i64 0, .int .i64 i, .int .i64 0, .int .i64 0, .int .i64 0, .int .i64 0]) (t := 115) (fr := (0, 0)) (heap_alloc_new wr _)) (by simp [Value.oneCell', Sp.vs, rc0]) (by omega) (by unfold maxLen; omega) (by omega) (by simp; omega) (wr.heap.size + 1) (by simp) ?_; intro g2 c2 w4 hown2 hgrow2 hat2 hlt2; have hbb : Below (w.heap.size + 1) wr w4 := (((Below.refl _ _).alloc (by omega) _).drew).grown hgrow2 (by simp; omega) hnb; have y0 := (hbb.cell (p := ⟨w.heap.size, 0, none⟩) (by show w.heap.size < _; omega)).trans hbx; have y1 : w4.cell? ⟨g, o + i * 2 + 1, none⟩ = some (.int .i64 B.worn) := (hbb.cell (p := ⟨g, o + i * 2 + 1, none⟩) (by show g < _; omega)).trans z1))
        have hOS := OwnS.snoc (x := ⟨2, 0, 0, i, rc0⟩) rfl hown2
        go_wp2
        go_ret3
        rw [h3.out]
        exact ⟨_, rfl, hOS.mono (by omega), hb.trans (hbb.mono (by omega))⟩
theorem tells_len (f : List Bk) (ps : List Pg) : (tells f ps).length ≤ ps.length := by
  unfold tells; rw [List.length_map]; exact List.length_filter_le _ _
theorem room_len {f : List Bk} (hf : f.length = 4) (hp : ∀ b ∈ f, b.pages.length = 4) : (room f).1.length ≤ 5 := by
  unfold room
  split
  · simp
  · have h1 := tells_len f (f.getD (old f) zbk).pages
    have hlt : old f < f.length := old_lt _ _ _ (by simp; omega) (by omega)
    have h2 : (f.getD (old f) zbk).pages.length = 4 := by
      rw [List.getD_eq_getElem?_getD, List.getElem?_eq_getElem hlt]
      exact hp _ (List.getElem_mem hlt)
    rw [List.length_append]; simp only [List.length_cons, List.length_nil]; omega
end Go.Proofs.Ytfkjhnfbajflaaa
