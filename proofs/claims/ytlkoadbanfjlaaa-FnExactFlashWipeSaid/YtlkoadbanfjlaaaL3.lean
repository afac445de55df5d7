/- Walks: from a statement's own blocks to the program's; sizes. -/
import Derived.Test.YtlkoadbanfjlaaaL2
namespace Go.Proofs.Ytlkoadbanfjlaaa
set_option linter.unusedVariables false
set_option linter.unusedSimpArgs false
open Go.RowKit Go.Maps
set_option maxHeartbeats 400000
theorem laws_toBlock (A : Option Addr) (c : Nat) (b : Bk) (w : World) (hl : b.pages.length ≤ 1048576) (hR : RRow w A (pgs b.pages)) :
    Calls Try.prog 32 #[.agg #[.slice A b.pages.length c, .int .i64 b.worn]] w fun e w' => ∃ g, e = .returned (.agg #[.slice (some ⟨g, 0, none⟩) b.pages.length b.pages.length, .int .i64 b.worn]) ∧ w.heap.size ≤ g ∧ g < w'.heap.size ∧ Row w' (some ⟨g, 0, none⟩) (pgs b.pages) ∧ Below w.heap.size w w' := by
  obtain ⟨ps, n⟩ := b
  dsimp only at *
  go_enter Try.func32, Try.ntmps32
  go_wp2_with fail
  refine (laws_toPageS A c ps _ hl (((hR.alloc _).alloc _).alloc _)).mono ?_
  rintro e w1 ⟨g, rfl, h1, h2, h3, hb⟩
  obtain ⟨hc, hf⟩ := bcell hb
  have hz : w.heap.size + 1 + 1 < w1.heap.size := by have := hb.size; simp at this; omega
  have hB : Below w.heap.size w w1 := Below.trans (by (repeat (first | (with_reducible exact Below.refl _ _) | (with_reducible exact hB) | (refine Below.setCell ?_ (by simp <;> omega) _) | (refine Below.alloc ?_ (by simp <;> omega) _) | (refine Below.drew ?_)))) (hb.mono (by simp; omega))
  simp only [World.size_alloc] at h1
  clear hb
  go_wp2
  refine bodyPost_ret (v := .agg #[.slice (some ⟨g, 0, none⟩) ps.length ps.length, .int .i64 n]) (by simp [results, Try.results32, go_sem, hc, hz]) rfl ⟨g, rfl, by omega, by simpa using h2, ?_, ?_⟩
  · refine h3.keep fun d hd hl => ?_
    rw [blk_some] at hd
    subst hd
    repeat (first | rfl | (refine (Below.heap_setCell _ _ _ _ (by simp; omega)).trans ?_))
  · (repeat (first | (with_reducible exact Below.refl _ _) | (with_reducible exact hB) | (refine Below.setCell ?_ (by simp <;> omega) _) | (refine Below.alloc ?_ (by simp <;> omega) _) | (refine Below.drew ?_)))
set_option maxHeartbeats 1000000 in
theorem laws_toBlockS (A : Option Addr) (c : Nat) (f : List Bk) (hs : List (Option Addr × Nat)) (w : World) (hl : f.length ≤ 1048576) (hp : ∀ b ∈ f, b.pages.length ≤ 1048576) (hF : RBks w A f hs) :
    Calls Try.prog 18 #[.slice A f.length c] w fun e w' => ∃ g, e = .returned (.slice (some ⟨g, 0, none⟩) f.length f.length) ∧ OFl w' w.heap.size w'.heap.size (some ⟨g, 0, none⟩) f ∧ Below w.heap.size w w' := by
  obtain ⟨ib, hib, hbz0, hbz1, hbz2⟩ := info_parts Try.info3_block
  have hmk := fun W => run_make_n (P := Try.prog) 22 41 ib _ 2 32 Try.underlying22 hib hbz0 hbz1 hbz2 f.length (by omega) (by omega) W
  have hnew : Bks (w.alloc (.cells (madeCells #[.slice none 0 0, .int .i64 0] (f.length * 2)) 41)) (some ⟨w.heap.size, 0, none⟩) (List.replicate f.length zbk) (List.replicate f.length (none, 0)) := by
    refine Bks.new w f.length _ _ ?_
    rw [made_list (fun _ : Unit => [Value.slice none 0 0, .int .i64 0]) () #[.slice none 0 0, .int .i64 0] 2 rfl rfl (by simp) f.length, hdrs_rep]
  have hB0 : Below w.heap.size w (w.alloc (.cells (madeCells #[.slice none 0 0, .int .i64 0] (f.length * 2)) 41)) := (Below.refl _ _).alloc (Nat.le_refl _) _
  have hmkw := hmk w
  have hsz : (w.alloc (.cells (madeCells #[.slice none 0 0, .int .i64 0] (f.length * 2)) 41)).heap.size = w.heap.size + 1 := by simp
  simp only [Value.cells] at hmkw
  generalize w.alloc (.cells (madeCells #[.slice none 0 0, .int .i64 0] (f.length * 2)) 41) = W at *
  have hszW : w.heap.size < W.heap.size := by omega
  have hA0 : Apt w.heap.size W.heap.size (some ⟨w.heap.size, 0, none⟩) (List.replicate f.length ((none : Option Addr), 0)) := (Apt.new _ _).mono (Nat.le_refl _) (by omega)
  have HP := Lib.hid hp
  clear hmk hsz hp
  go_enter Try.func18, Try.ntmps18
  go_wp2
  go_loopw [4] (fun i wr => ∃ (k : Nat) (ks : List (Option Addr × Nat)), k ≤ f.length ∧ i = .int .i64 k ∧ Below w.heap.size w wr ∧ w.heap.size < wr.heap.size ∧ Bks wr (some ⟨w.heap.size, 0, none⟩) (f.take k ++ (List.replicate f.length zbk).drop k) ks ∧ Apt w.heap.size wr.heap.size (some ⟨w.heap.size, 0, none⟩) ks) (fun i _ => f.length - (intOf i).toNat)
  case atStart => exact ⟨0, _, by omega, rfl, hB0, hszW, by simpa using hnew, hA0⟩
  case round =>
    clear hnew hB0 hszW hmkw hA0
    obtain ⟨k, ks, hk, rfl, hb, hsz, hBk, hApt⟩ := hrel
    by_cases hlt : k < f.length
    · obtain ⟨B, hB⟩ := get_some hlt
      have hBl := HP.out B (List.mem_of_getElem? hB)
      obtain ⟨bk, off, rfl⟩ := hF.addr (by rintro rfl; simp at hlt)
      obtain ⟨⟨Ap, cp⟩, _, c0, c1, hRp⟩ := (hF.below hb (Nat.le_refl _)).at_ hB
      have hget : (f.take k ++ (List.replicate f.length zbk).drop k)[k]? = some zbk := by
        rw [List.getElem?_append_right (by simp; omega), List.getElem?_drop, List.getElem?_replicate, if_pos (by simp; omega)]
      have hk1 : (k : Int) < f.length := by omega
      have HBB := Lib.hid hB
      have HG := Lib.hid hget
      obtain ⟨Ps, wn⟩ := B
      dsimp only at *
      clear hB hget
      go_wp2_with fail
      refine (laws_toBlock Ap cp ⟨Ps, wn⟩ _ hBl hRp).mono ?_
      rintro e w1 ⟨b, rfl, h1, h2, h3, h4⟩
      have hBk1 := hBk.below h4 (Nat.le_refl _)
      obtain ⟨_, _, z0, z1, z2, z3, _, _⟩ := hBk1.at_ HG.out
      have hW := wrote_hdr hBk1 HG.out (.slice (some ⟨b, 0, none⟩) Ps.length Ps.length) (.int .i64 wn)
      obtain ⟨hO, hb5⟩ : _ ∧ _ := ⟨hBk1.setBlock (i := k) (x := (some ⟨b, 0, none⟩, Ps.length)) (c := ⟨Ps, wn⟩) (by simp; omega) (fun j y hy e => (hApt.in_ j y _ hy e).2.2 rfl) (by rw [blk_some]; omega) h3 (Nat.le_refl _) hW, hW.agr⟩
      rw [copy_step zbk f f.length k _ HBB.out rfl] at hO
      have hApt2 := hApt.set (hi' := w1.heap.size) k (some ⟨b, 0, none⟩, Ps.length) (fun d hd => by rw [blk_some] at hd; subst hd; exact ⟨by omega, h2⟩) (by omega) (by omega)
      have hB2 : Below w.heap.size w w1 := hb.trans (h4.mono hb.size)
      have hB3 := hB2.trans (hb5.below (B := w.heap.size) hB2.size (fun i e => by rw [e]; exact Nat.le_refl _))
      have hs4 : w.heap.size < w1.heap.size := by omega
      have HS3 := Lib.hid hW.size
      simp only [Nat.zero_add] at z0 z1 z2 z3 hO hB3 HS3
      clear hW hB2 hBk1 hb5 hBk h4 c0 c1
      go_wp2
      go_roundw
      case rel => exact ⟨k + 1, _, by omega, by go_num, hB3, by rw [HS3.out]; exact hs4, hO, by rw [HS3.out]; exact hApt2⟩
      case measure => simp [intOf]; omega
    · obtain rfl : k = f.length := by omega
      go_wp2
      go_ret
      rw [List.take_of_length_le (Nat.le_refl _), List.drop_of_length_le (by simp), List.append_nil] at hBk
      exact ⟨w.heap.size, rfl, ⟨ks, hBk, hApt⟩, hb⟩

/-- a count goes down, -1 if below nought -/
def down (left : Int) (n : Nat) : Int := if left - n < 0 then -1 else left - n
def szGo : Int → List Bk → Int
  | left, [] => left
  | left, b :: f => if down left b.pages.length < 0 then -1 else szGo (down left b.pages.length) f
def szFl (left : Int) (f : List Bk) : Int := if left - f.length < 0 then -1 else szGo (left - f.length) f
theorem szGo_small : ∀ (f : List Bk) (left : Int), 0 ≤ szGo left f → left ≤ 1048576 → ∀ b ∈ f, b.pages.length ≤ 1048576
  | [], _, _, _ => by simp
  | b :: f, left, h, hl => by
    unfold szGo at h
    by_cases h1 : down left b.pages.length < 0
    · rw [if_pos h1] at h; omega
    · rw [if_neg h1] at h
      have hd : down left b.pages.length = left - b.pages.length := by
        unfold down at h1 ⊢
        by_cases h2 : left - (b.pages.length : Int) < 0
        · rw [if_pos h2] at h1; omega
        · rw [if_neg h2]
      have ih := szGo_small f _ h (by omega)
      intro c hc
      rcases List.mem_cons.1 hc with rfl | hc
      · omega
      · exact ih c hc
theorem szFl_small {f : List Bk} (h : 0 ≤ szFl 1048576 f) : f.length ≤ 1048576 ∧ ∀ b ∈ f, b.pages.length ≤ 1048576 := by
  unfold szFl at h
  by_cases h0 : (1048576 : Int) - f.length < 0
  · rw [if_pos h0] at h; omega
  · rw [if_neg h0] at h
    exact ⟨by omega, szGo_small f _ h (by omega)⟩
theorem laws_szPageS (A : Option Addr) (n c : Nat) (left : Int) (w : World) (h1 : -1 ≤ left) (h2 : left ≤ 1048576) (hn : n ≤ 9223372036854775807) :
    Calls Try.prog 38 #[.slice A n c, .int .i64 left] w fun e w' => e = .returned (.int .i64 (down left n)) ∧ w = w' := by
  go_enter Try.func38, Try.ntmps38
  go_wp2
  all_goals (go_ret; exact ⟨ret_int (by unfold down; first | rw [if_pos (by omega)] | rw [if_neg (by omega)]), rfl⟩)
theorem laws_szBlock (A : Option Addr) (n c : Nat) (worn left : Int) (w : World) (h1 : -1 ≤ left) (h2 : left ≤ 1048576) (hn : n ≤ 9223372036854775807) :
    Calls Try.prog 27 #[.agg #[.slice A n c, .int .i64 worn], .int .i64 left] w fun e w' => e = .returned (.int .i64 (down left n)) ∧ Below w.heap.size w w' := by
  have hd : -1 ≤ down left n := by unfold down; split <;> omega
  go_enter Try.func27, Try.ntmps27
  go_wp2_with (go_at_call 38; refine (laws_szPageS A n c left _ h1 h2 hn).mono ?_; rintro e w1 ⟨rfl, rfl⟩)
  all_goals (go_ret; exact ⟨ret_int (by omega), (Below.refl _ _).alloc (Nat.le_refl _) _⟩)
theorem laws_szBlockS (A : Option Addr) (c : Nat) (f : List Bk) (hs : List (Option Addr × Nat)) (left : Int) (w : World) (h1 : 0 ≤ left) (h2 : left ≤ 1048576) (hn : f.length ≤ 9223372036854775807) (hp : ∀ b ∈ f, b.pages.length ≤ 9223372036854775807) (hF : RBks w A f hs) :
    Calls Try.prog 16 #[.slice A f.length c, .int .i64 left] w fun e w' => e = .returned (.int .i64 (szFl left f)) ∧ Below w.heap.size w w' := by
  have HP := Lib.hid hp
  clear hp
  by_cases h0 : left - f.length < 0
  · have hfin : Hid (szFl left f = -1) := by unfold Hid szFl; rw [if_pos h0]
    go_enter Try.func16, Try.ntmps16
    go_wp2
    go_ret
    exact ⟨ret_int hfin.out.symm, Below.refl _ _⟩
  · have hfin : Hid (szFl left f = szGo (left - f.length) f) := by unfold Hid szFl; rw [if_neg h0]
    go_enter Try.func16, Try.ntmps16
    go_wp2
    go_loopw [1, 5] (fun l i wr => ∃ (k : Nat) (m : Int), k ≤ f.length ∧ i = .int .i64 k ∧ l = .int .i64 m ∧ 0 ≤ m ∧ m ≤ 1048576 ∧ Below w.heap.size w wr ∧ Hid (szFl left f = szGo m (f.drop k))) (fun _ i _ => f.length - (intOf i).toNat)
    case atStart => exact ⟨0, _, by omega, rfl, rfl, by omega, by omega, Below.refl _ _, hfin.out⟩
    case round =>
      obtain ⟨k, m, hk, rfl, rfl, hm0, hm1, hb, hg⟩ := hrel
      by_cases hlt : k < f.length
      · obtain ⟨B, hB⟩ := get_some hlt
        have hBl := HP.out B (List.mem_of_getElem? hB)
        obtain ⟨bk, off, rfl⟩ := hF.addr (by rintro rfl; simp at hlt)
        obtain ⟨⟨Ap, cp⟩, _, c0, c1, _⟩ := (hF.below hb (Nat.le_refl _)).at_ hB
        have hd := Lib.hid (drop_cons hB)
        have hk1 : (k : Int) < f.length := by omega
        obtain ⟨Ps, wn⟩ := B
        dsimp only at *
        clear hB
        have hd1 : down m Ps.length ≤ 1048576 := by unfold down; split <;> omega
        go_wp2_with fail
        refine (laws_szBlock Ap Ps.length cp wn m _ (by omega) (by omega) hBl).mono ?_
        rintro e w1 ⟨rfl, hb1⟩
        have hB1 := hb.trans (hb1.mono hb.size)
        by_cases hn : down m Ps.length < 0
        · have hstep : Hid (szFl left f = -1) := by rw [Hid, hg.out, hd.out, szGo, if_pos hn]
          clear hg hd
          go_wp2
          go_ret
          exact ⟨ret_int hstep.out.symm, hB1⟩
        · have hstep : Hid (szFl left f = szGo (down m Ps.length) (f.drop (k + 1))) := by rw [Hid, hg.out, hd.out, szGo, if_neg hn]
          clear hg hd
          go_wp2
          go_roundw
          case rel => exact ⟨k + 1, _, by omega, by go_num, rfl, by omega, hd1, hB1, hstep⟩
          case measure => simp [intOf]; omega
      · obtain rfl : k = f.length := by omega
        go_wp2
        go_ret
        exact ⟨ret_int (by rw [hg.out, List.drop_of_length_le (Nat.le_refl _)]; rfl), hb⟩
end Go.Proofs.Ytlkoadbanfjlaaa
