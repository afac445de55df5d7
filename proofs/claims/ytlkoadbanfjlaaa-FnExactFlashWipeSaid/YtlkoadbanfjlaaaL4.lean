/- Walks: marks laid into a flash, and held. -/
import Derived.Test.YtlkoadbanfjlaaaC2
namespace Go.Proofs.Ytlkoadbanfjlaaa
set_option linter.unusedVariables false
set_option linter.unusedSimpArgs false
open Go.RowKit Go.Maps
set_option maxHeartbeats 400000
def markPs : Int → List Pg → List Pg
  | _, [] => []
  | k, _ :: ps => ⟨k, ⟨k + 1, k + 1 + 1, k + 1 + 1 + 1, k + 1 + 1 + 1 + 1⟩⟩ :: markPs (k + 1 + 1 + 1 + 1 + 1) ps
def endPs : Int → List Pg → Int
  | k, [] => k
  | k, _ :: ps => endPs (k + 1 + 1 + 1 + 1 + 1) ps
def markFl : Int → List Bk → List Bk
  | _, [] => []
  | k, b :: f => ⟨markPs k b.pages, endPs k b.pages⟩ :: markFl (endPs k b.pages + 1) f
def endFl : Int → List Bk → Int
  | k, [] => k
  | k, b :: f => endFl (endPs k b.pages + 1) f
theorem endPs_eq : ∀ (ps : List Pg) (k : Int), endPs k ps = k + 5 * ps.length
  | [], k => by simp [endPs]
  | _ :: ps, k => by rw [endPs, endPs_eq ps]; simp only [List.length_cons]; omega
theorem markPs_len : ∀ (ps : List Pg) (k : Int), (markPs k ps).length = ps.length
  | [], _ => rfl
  | _ :: ps, k => by simp [markPs, markPs_len ps]
theorem markFl_len : ∀ (f : List Bk) (k : Int), (markFl k f).length = f.length
  | [], _ => rfl
  | _ :: f, k => by simp [markFl, markFl_len f]
theorem markPs_at : ∀ (ps : List Pg) (k : Int) (j : Nat) (p : Pg), ps[j]? = some p → (markPs k ps)[j]? = some ⟨k + 5 * j, ⟨k + 5 * j + 1, k + 5 * j + 1 + 1, k + 5 * j + 1 + 1 + 1, k + 5 * j + 1 + 1 + 1 + 1⟩⟩
  | [], _, _, _, h => by simp at h
  | q :: ps, k, 0, p, h => by simp [markPs]
  | q :: ps, k, j + 1, p, h => by
    rw [markPs, List.getElem?_cons_succ, markPs_at ps _ j p (by simpa using h), show k + 1 + 1 + 1 + 1 + 1 + 5 * (j : Int) = k + 5 * ((j + 1 : Nat) : Int) by omega]
/-- the marks behind j pages, the old pages from there on -/
theorem mark_step (ps : List Pg) (k : Int) (j : Nat) (h : j < ps.length) : ((markPs k ps).take j ++ ps.drop j).set j ⟨k + 5 * j, ⟨k + 5 * j + 1, k + 5 * j + 1 + 1, k + 5 * j + 1 + 1 + 1, k + 5 * j + 1 + 1 + 1 + 1⟩⟩ = (markPs k ps).take (j + 1) ++ ps.drop (j + 1) := by
  have hl := markPs_len ps k
  obtain ⟨p, hp⟩ := get_some h
  rw [List.set_append_right _ _ (by simp; omega), show j - ((markPs k ps).take j).length = 0 by simp; omega, List.drop_eq_getElem_cons h, List.set_cons_zero, List.take_add_one, markPs_at ps k j p hp]
  simp
theorem laws_markPageS (A : Option Addr) (c : Nat) (ps : List Pg) (k : Int) (w : World) (hl : ps.length < 1000000000000) (h0 : 0 ≤ k) (h1 : k < 1000000000000000) (hR : Row w A (pgs ps)) :
    Calls Try.prog 22 #[.slice A ps.length c, .int .i64 k] w fun e w' => e = .returned (.int .i64 (endPs k ps)) ∧ Row w' A (pgs (markPs k ps)) ∧ Agr (blk A) w w' := by
  go_enter Try.func22, Try.ntmps22
  go_wp2
  go_loopw [1, 5] (fun q i wr => ∃ (j : Nat), j ≤ ps.length ∧ i = .int .i64 j ∧ q = .int .i64 (k + 5 * j) ∧ Row wr A (pgs ((markPs k ps).take j ++ ps.drop j)) ∧ Agr (blk A) w wr) (fun _ i _ => ps.length - (intOf i).toNat)
  case atStart => exact ⟨0, by omega, rfl, by simp, by simpa using hR, Agr.refl _ _⟩
  case round =>
    obtain ⟨j, hj, rfl, rfl, hr, hA⟩ := hrel
    have hml := Lib.hid (markPs_len ps k)
    by_cases hlt : j < ps.length
    · obtain ⟨b, o, rfl⟩ := hR.addr (pgs_ne (by rintro rfl; simp at hlt))
      obtain ⟨q, hq⟩ := get_some (l := (markPs k ps).take j ++ ps.drop j) (k := j) (by have := hml.out; simp; omega)
      obtain ⟨c0, c1, c2, c3, c4⟩ := hr.pg hq
      obtain ⟨f0, f1, f2, f3, f4⟩ := hr.pgf hq
      have hW := wrote_page hr hq ⟨k + 5 * j, ⟨k + 5 * j + 1, k + 5 * j + 1 + 1, k + 5 * j + 1 + 1 + 1, k + 5 * j + 1 + 1 + 1 + 1⟩⟩
      have hr2 := hr.setPage (k := j) (by have := hml.out; simp; omega) hW
      rw [mark_step ps k j hlt] at hr2
      have hA2 := hA.trans hW.agr (fun _ _ e => by rw [e]; exact blk_some.2 rfl)
      have hj1 : (j : Int) < ps.length := by omega
      clear hW hq
      go_wp2
      go_roundw
      case rel => exact ⟨j + 1, by omega, by go_num, by congr 1; omega, hr2, hA2⟩
      case measure => simp [intOf]; omega
    · obtain rfl : j = ps.length := by omega
      go_wp2
      go_ret
      rw [List.take_of_length_le (by rw [hml.out]; exact Nat.le_refl _), List.drop_of_length_le (Nat.le_refl _), List.append_nil] at hr
      exact ⟨ret_int (endPs_eq ps k).symm, hr, hA⟩
theorem laws_heldPageS (A : Option Addr) (n c : Nat) (ps : List Pg) (k : Int) (w : World) (hn : n = ps.length) (hl : n < 1000000000000) (h0 : 0 ≤ k) (h1 : k < 1000000000000000) (hR : Row w A (pgs (markPs k ps))) :
    Calls Try.prog 23 #[.slice A n c, .int .i64 k] w fun e w' => e = .returned (.int .i64 (endPs k ps)) ∧ w = w' := by
  have HN := Lib.hid hn
  clear hn
  go_enter Try.func23, Try.ntmps23
  go_wp2
  go_loop [1, 5] (fun q i => ∃ (j : Nat), j ≤ n ∧ i = .int .i64 j ∧ q = .int .i64 (k + 5 * j)) (fun _ i => n - (intOf i).toNat)
  case atStart => exact ⟨0, by omega, rfl, by simp⟩
  case round =>
    obtain ⟨j, hj, rfl, rfl⟩ := hrel
    by_cases hlt : j < n
    · obtain ⟨p, hp⟩ := get_some (l := ps) (k := j) (by have := HN.out; omega)
      have hq := markPs_at ps k j p hp
      obtain ⟨b, o, rfl⟩ := hR.addr (pgs_ne (by intro e; rw [e] at hq; simp at hq))
      obtain ⟨c0, c1, c2, c3, c4⟩ := hR.pg hq
      dsimp only at c0 c1 c2 c3 c4
      have hj1 : (j : Int) < n := by omega
      clear hq hp
      go_wp2
      go_round
      case rel => exact ⟨j + 1, by omega, by go_num, by congr 1; omega⟩
      case measure => simp [intOf]; omega
    · obtain rfl : j = n := by omega
      go_wp2
      go_ret
      exact ⟨ret_int (by rw [endPs_eq, HN.out]), rfl⟩
theorem endFl_le (P : Int) : ∀ (f : List Bk) (k : Int), (∀ b ∈ f, (b.pages.length : Int) ≤ P) → endFl k f ≤ k + (5 * P + 1) * f.length
  | [], k, _ => by simp [endFl]
  | b :: f, k, h => by
    have h1 := endPs_eq b.pages k
    have h2 := endFl_le P f (endPs k b.pages + 1) (fun c hc => h c (List.mem_cons_of_mem _ hc))
    have h3 := h b (List.mem_cons_self ..)
    rw [endFl, List.length_cons]
    have e : (5 * P + 1) * ((f.length + 1 : Nat) : Int) = (5 * P + 1) * f.length + (5 * P + 1) := by rw [Int.natCast_add, Int.mul_add]; simp
    rw [e]; omega
theorem endFl_ge : ∀ (f : List Bk) (k : Int), k ≤ endFl k f
  | [], k => Int.le_refl _
  | b :: f, k => by
    have h1 := endPs_eq b.pages k
    have h2 := endFl_ge f (endPs k b.pages + 1)
    rw [endFl]; omega
/-- where the marks of block j begin -/
def atFl : Int → List Bk → Nat → Int
  | k, _, 0 => k
  | k, [], _ => k
  | k, b :: f, j + 1 => atFl (endPs k b.pages + 1) f j
theorem atFl_succ : ∀ (f : List Bk) (k : Int) (j : Nat) (b : Bk), f[j]? = some b → atFl k f (j + 1) = endPs (atFl k f j) b.pages + 1
  | [], _, _, _, h => by simp at h
  | a :: f, k, 0, b, h => by simp at h; subst h; simp [atFl]
  | a :: f, k, j + 1, b, h => by
    have ih := atFl_succ f (endPs k a.pages + 1) j b (by simpa using h)
    simpa [atFl] using ih
theorem atFl_end : ∀ (f : List Bk) (k : Int) (j : Nat), endFl (atFl k f j) (f.drop j) = endFl k f
  | [], k, j => by cases j <;> simp [atFl, endFl]
  | a :: f, k, 0 => by simp [atFl]
  | a :: f, k, j + 1 => by rw [atFl, List.drop_succ_cons, atFl_end f]; rfl
theorem atFl_ge : ∀ (f : List Bk) (k : Int) (j : Nat), k ≤ atFl k f j
  | [], k, j => by cases j <;> simp [atFl]
  | a :: f, k, 0 => by simp [atFl]
  | a :: f, k, j + 1 => by
    have h1 := endPs_eq a.pages k
    have h2 := atFl_ge f (endPs k a.pages + 1) j
    rw [atFl]; omega
theorem markFl_at : ∀ (f : List Bk) (k : Int) (j : Nat) (b : Bk), f[j]? = some b → (markFl k f)[j]? = some ⟨markPs (atFl k f j) b.pages, endPs (atFl k f j) b.pages⟩
  | [], _, _, _, h => by simp at h
  | a :: f, k, 0, b, h => by simp at h; subst h; simp [markFl, atFl]
  | a :: f, k, j + 1, b, h => by
    rw [markFl, List.getElem?_cons_succ, markFl_at f _ j b (by simpa using h)]; rfl
theorem markFl_step (f : List Bk) (k : Int) (j : Nat) (b : Bk) (h : f[j]? = some b) : ((markFl k f).take j ++ f.drop j).set j ⟨markPs (atFl k f j) b.pages, endPs (atFl k f j) b.pages⟩ = (markFl k f).take (j + 1) ++ f.drop (j + 1) := by
  have hl := markFl_len f k
  have hlt := (List.getElem?_eq_some_iff.1 h).1
  rw [List.set_append_right _ _ (by simp; omega), show j - ((markFl k f).take j).length = 0 by simp; omega, List.drop_eq_getElem_cons hlt, List.set_cons_zero, List.take_add_one, markFl_at f k j b h]
  simp
/-- the blocks that a flash lies in -/
def fblk (A : Option Addr) (hs : List (Option Addr × Nat)) (b : Nat) : Prop := blk A b ∨ ∃ (i : Nat) (x : Option Addr × Nat), hs[i]? = some x ∧ blk x.1 b
set_option maxHeartbeats 1000000 in
theorem laws_markBlockS' (A : Option Addr) (n c : Nat) (f : List Bk) (hs : List (Option Addr × Nat)) (k : Int) (lo hi : Nat) (w : World) (hn : n = f.length) (hl : f.length < 1000000000000) (hp : ∀ b ∈ f, b.pages.length < 1000000000000) (h0 : 0 ≤ k) (h1 : endFl k f < 1000000000000000) (hBk : Bks w A f hs) (hApt : Apt lo hi A hs) :
    Calls Try.prog 9 #[.slice A n c, .int .i64 k] w fun e w' => e = .returned (.int .i64 (endFl k f)) ∧ Bks w' A (markFl k f) hs ∧ Agr (fblk A hs) w w' := by
  subst hn
  have HP := Lib.hid hp
  have HML := Lib.hid (markFl_len f k)
  clear hp
  go_enter Try.func9, Try.ntmps9
  go_wp2
  go_loopw [1, 5] (fun q i wr => ∃ (j : Nat), j ≤ f.length ∧ i = .int .i64 j ∧ q = .int .i64 (atFl k f j) ∧ Bks wr A ((markFl k f).take j ++ f.drop j) hs ∧ Agr (fblk A hs) w wr) (fun _ i _ => f.length - (intOf i).toNat)
  case atStart => exact ⟨0, by omega, rfl, by cases f <;> rfl, by simpa using hBk, Agr.refl _ _⟩
  case round =>
    obtain ⟨j, hj, rfl, rfl, hb2, hA⟩ := hrel
    by_cases hlt : j < f.length
    · obtain ⟨B, hB⟩ := get_some hlt
      have hBl := HP.out B (List.mem_of_getElem? hB)
      obtain ⟨g, o, rfl⟩ := hBk.addr (by rintro rfl; simp at hlt)
      have hget : ((markFl k f).take j ++ f.drop j)[j]? = some B := by
        have := HML.out
        rw [List.getElem?_append_right (by simp; omega), List.getElem?_drop, ← hB]; congr 1; simp; omega
      obtain ⟨x, hx, c0, c1, f0, f1, hr, _⟩ := hb2.at_ hget
      have ha0 := atFl_ge f k j
      have hae := atFl_end f k j
      rw [drop_cons hB] at hae
      have hge := endFl_ge (f.drop (j + 1)) (endPs (atFl k f j) B.pages + 1)
      rw [endFl] at hae
      have hpe := endPs_eq B.pages (atFl k f j)
      have hm0 : 0 ≤ atFl k f j := by omega
      have hm1 : atFl k f j < 1000000000000000 := by omega
      have he0 : 0 ≤ endPs (atFl k f j) B.pages := by omega
      have he1 : endPs (atFl k f j) B.pages < 1000000000000000 := by omega
      have hj1 : (j : Int) < f.length := by omega
      have HS := Lib.hid (atFl_succ f k j B hB)
      have HST := Lib.hid (markFl_step f k j B hB)
      have HG := Lib.hid hget
      have HX := Lib.hid hx
      clear hae hge hpe hB hget hx
      go_wp2_with fail
      refine (laws_markPageS x.1 x.2 B.pages (atFl k f j) _ hBl hm0 hm1 hr).mono ?_
      rintro e w1 ⟨rfl, hr1, hA1⟩
      have hb3 := hb2.newPages hApt HG.out HX.out (markPs_len _ _) hr1 hA1
      have hget3 : (((markFl k f).take j ++ f.drop j).set j { B with pages := markPs (atFl k f j) B.pages })[j]? = some { B with pages := markPs (atFl k f j) B.pages } := by
        have := HML.out
        rw [List.getElem?_set_self (by simp; omega)]
      obtain ⟨_, _, d0, d1, g0, g1, _, _⟩ := hb3.at_ hget3
      have hW := wrote_one d1 (.int .i64 (endPs (atFl k f j) B.pages))
      have hb4 := hb3.setHdr (n := endPs (atFl k f j) B.pages) hApt hget3 HX.out (by
        obtain ⟨y, hy, e0, _⟩ := hb3.at_ hget3
        rw [HX.out] at hy; cases hy
        exact hW.less e0)
      rw [List.set_set] at hb4
      dsimp only at hb4
      rw [HST.out] at hb4
      have hgl := hApt.top g (by rw [blk_some])
      have hA4 := (hA.trans hA1 (S := fblk (some ⟨g, o, none⟩) hs) (fun i _ hi' => .inr ⟨j, x, HX.out, hi'⟩)).trans hW.agr (fun i _ e => .inl (by rw [e, blk_some]))
      clear hW hb3 hget3 hA1 hr1 c0 c1 hr
      go_wp2
      go_roundw
      case rel => exact ⟨j + 1, by omega, by go_num, by rw [HS.out], hb4, hA4⟩
      case measure => simp [intOf]; omega
    · obtain rfl : j = f.length := by omega
      go_wp2
      go_ret
      have := HML.out
      rw [List.take_of_length_le (by omega), List.drop_of_length_le (Nat.le_refl _), List.append_nil] at hb2
      have he := atFl_end f k f.length
      rw [List.drop_of_length_le (Nat.le_refl _), endFl] at he
      exact ⟨ret_int he, hb2, hA⟩
theorem laws_markBlockS (A : Option Addr) (c : Nat) (f : List Bk) (k : Int) (lo hi : Nat) (w : World) (hl : f.length < 1000000000000) (hp : ∀ b ∈ f, b.pages.length < 1000000000000) (h0 : 0 ≤ k) (h1 : endFl k f < 1000000000000000) (hF : OFl w lo hi A f) :
    Calls Try.prog 9 #[.slice A f.length c, .int .i64 k] w fun e w' => e = .returned (.int .i64 (endFl k f)) ∧ OFl w' lo hi A (markFl k f) ∧ Agr (fun b => lo ≤ b ∧ b < hi) w w' := by
  obtain ⟨hs, hBk, hApt⟩ := hF
  refine (laws_markBlockS' A _ c f hs k lo hi w rfl hl hp h0 h1 hBk hApt).mono ?_
  rintro e w1 ⟨h1, h2, h3⟩
  refine ⟨h1, ⟨hs, h2, hApt⟩, h3.mono fun b hb => ?_⟩
  rcases hb with hb | ⟨i, x, hx, hb⟩
  · exact hApt.top b hb
  · have := hApt.in_ i x b hx hb; exact ⟨this.1, this.2.1⟩
theorem laws_heldBlockS (A : Option Addr) (n c : Nat) (f : List Bk) (k : Int) (w : World) (hn : n = f.length) (hl : n < 1000000000000) (hp : ∀ b ∈ f, b.pages.length < 1000000000000) (h0 : 0 ≤ k) (h1 : endFl k f < 1000000000000000) (hF : Fl w A (markFl k f)) :
    Calls Try.prog 10 #[.slice A n c, .int .i64 k] w fun e w' => e = .returned (.int .i64 (endFl k f)) ∧ w = w' := by
  obtain ⟨hs, hBk⟩ := hF
  have HP := Lib.hid hp
  have HN := Lib.hid hn
  clear hp hn
  go_enter Try.func10, Try.ntmps10
  go_wp2
  go_loop [1, 5] (fun q i => ∃ (j : Nat), j ≤ n ∧ i = .int .i64 j ∧ q = .int .i64 (atFl k f j)) (fun _ i => n - (intOf i).toNat)
  case atStart => exact ⟨0, by omega, rfl, by cases f <;> rfl⟩
  case round =>
    obtain ⟨j, hj, rfl, rfl⟩ := hrel
    by_cases hlt : j < n
    · obtain ⟨B, hB⟩ := get_some (l := f) (k := j) (by have := HN.out; omega)
      have hBl := HP.out B (List.mem_of_getElem? hB)
      have hget := markFl_at f k j B hB
      obtain ⟨g, o, rfl⟩ := hBk.addr (by intro e; rw [e] at hget; simp at hget)
      obtain ⟨x, hx, c0, c1, f0, f1, hr, _⟩ := hBk.at_ hget
      dsimp only at c0 c1 hr
      have ha0 := atFl_ge f k j
      have hae := atFl_end f k j
      rw [drop_cons hB] at hae
      have hge := endFl_ge (f.drop (j + 1)) (endPs (atFl k f j) B.pages + 1)
      rw [endFl] at hae
      have hpe := endPs_eq B.pages (atFl k f j)
      have hm0 : 0 ≤ atFl k f j := by omega
      have hm1 : atFl k f j < 1000000000000000 := by omega
      have he0 : 0 ≤ endPs (atFl k f j) B.pages := by omega
      have he1 : endPs (atFl k f j) B.pages < 1000000000000000 := by omega
      have hj1 : (j : Int) < n := by omega
      have HS := Lib.hid (atFl_succ f k j B hB)
      have hml := markPs_len B.pages (atFl k f j)
      have hml1 : (markPs (atFl k f j) B.pages).length < 1000000000000 := by omega
      have HML := Lib.hid hml
      clear hae hge hpe hB hget hx hml
      go_wp2_with fail
      refine (laws_heldPageS x.1 _ x.2 B.pages (atFl k f j) _ HML.out hml1 hm0 hm1 hr).mono ?_
      rintro e w1 ⟨rfl, rfl⟩
      go_wp2
      go_round
      case rel => exact ⟨j + 1, by omega, by go_num, by rw [HS.out]⟩
      case measure => simp [intOf]; omega
    · obtain rfl : j = n := by omega
      go_wp2
      go_ret
      have he := atFl_end f k f.length
      rw [List.drop_of_length_le (Nat.le_refl _), endFl] at he
      exact ⟨ret_int (by rw [HN.out]; exact he), rfl⟩
end Go.Proofs.Ytlkoadbanfjlaaa
