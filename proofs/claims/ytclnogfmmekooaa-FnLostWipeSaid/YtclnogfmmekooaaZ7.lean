/- What the laws' walks share: words, plain laws, and the walks of functions, part 7. -/
import Derived.Deep.RegionHeld3
import Derived.BigQuiet
import Derived.Deep.RegionWith
import Derived.Test.YtclnogfmmekooaaZ6
namespace Go.Proofs.Ytclnogfmmekooaa
set_option linter.unusedVariables false
set_option linter.unusedSimpArgs false
open Go.RowKit Go.Maps
set_option maxHeartbeats 400000
theorem Below.drewN' (B : Nat) (w : World) (n : Nat) : Below B w (w.drewN n) := ⟨rfl, rfl, rfl, Nat.le_refl _, fun _ _ => rfl⟩
/-- all blocks but one are alike -/
def others (f g : List Bk) (k : Int) : Prop := f.length = g.length ∧ ∀ j : Nat, (j : Int) ≠ k → f[j]? = g[j]?
end Go.Proofs.Ytclnogfmmekooaa
namespace Go.Proofs.Ytclnogfmmekooaa
set_option linter.unusedVariables false
set_option linter.unusedSimpArgs false
open Go.RowKit Go.Maps
set_option maxHeartbeats 400000
theorem laws_eqRec (r s : Rc) (w : World) : Calls Try.prog 95 #[.agg #[.int .i64 r.kind, .int .i64 r.seq, .int .i64 r.addr, .int .i64 r.val], .agg #[.int .i64 s.kind, .int .i64 s.seq, .int .i64 s.addr, .int .i64 s.val]] w fun e w' => e = .returned (.bool (decide (r = s))) ∧ Below w.heap.size w w' := by
 obtain ⟨k, q, a, v⟩ := r
 obtain ⟨k', q', a', v'⟩ := s
 dsimp only
 go_enter Try.func95, Try.ntmps95
 go_wp2
 all_goals (go_ret; exact ⟨ret_bool (by simp_all), ((Below.refl _ _).alloc (Nat.le_refl _) _).alloc (by simp) _⟩)
theorem laws_eqPage (p q : Pg) (w : World) : Calls Try.prog 85 #[.agg #[.int .i64 p.state, .int .i64 p.rc.kind, .int .i64 p.rc.seq, .int .i64 p.rc.addr, .int .i64 p.rc.val], .agg #[.int .i64 q.state, .int .i64 q.rc.kind, .int .i64 q.rc.seq, .int .i64 q.rc.addr, .int .i64 q.rc.val]] w
 fun e w' => e = .returned (.bool (decide (p = q))) ∧ Below w.heap.size w w' := by
 obtain ⟨st, r⟩ := p
 obtain ⟨st', s⟩ := q
 dsimp only
 by_cases hst : st = st'
 · subst hst
   have hq : Hid (decide ((⟨st, r⟩ : Pg) = ⟨st, s⟩) = decide (r = s)) := by unfold Hid; simp
   go_enter Try.func85, Try.ntmps85
   go_wp2_with (go_at_call 95; refine (laws_eqRec r s _).mono ?_; rintro e w1 ⟨rfl, hb⟩)
   all_goals (go_ret; exact ⟨ret_bool (by rw [hq.out]; simp_all), (((Below.refl _ _).alloc (Nat.le_refl _) _).alloc (by simp) _).trans (hb.mono (by simp; omega))⟩)
 · have hq : Hid (decide ((⟨st, r⟩ : Pg) = ⟨st', s⟩) = false) := by unfold Hid; simp [hst]
   go_enter Try.func85, Try.ntmps85
   go_wp2
   go_ret
   exact ⟨ret_bool hq.out.symm, ((Below.refl _ _).alloc (Nat.le_refl _) _).alloc (by simp) _⟩
theorem eq_drop {α : Type} [DecidableEq α] {l m : List α} {k : Nat} {x y : α} (hx : l[k]? = some x) (hy : m[k]? = some y) : decide (l.drop k = m.drop k) = (decide (x = y) && decide (l.drop (k + 1) = m.drop (k + 1))) := by
 rw [drop_cons hx, drop_cons hy, Bool.eq_iff_iff]
 simp
theorem laws_eqPageS (A A' : Option Addr) (c c' : Nat) (ps qs : List Pg) (w : World) (hl : ps.length < 1000000000000) (hl' : qs.length < 1000000000000) (hR : Row w A (pgs ps)) (hR' : Row w A' (pgs qs)) :
 Calls Try.prog 55 #[.slice A ps.length c, .slice A' qs.length c'] w fun e w' => e = .returned (.bool (decide (ps = qs))) ∧ Below w.heap.size w w' := by
 by_cases hn : ps.length = qs.length
 · have HN := Lib.hid hn
   rw [← hn]
   clear hn hl'
   go_enter Try.func55, Try.ntmps55
   go_wp2
   go_loopw [5] (fun i wr => ∃ (k : Nat), k ≤ ps.length ∧ i = .int .i64 k ∧ Below w.heap.size w wr ∧ Hid (decide (ps = qs) = decide (ps.drop k = qs.drop k))) (fun i _ => ps.length - (intOf i).toNat)
   case atStart => exact ⟨0, by omega, rfl, Below.refl _ _, by simp [Hid]⟩
   case round =>
    obtain ⟨k, hk, rfl, hb, hg⟩ := hrel
    by_cases hlt : k < ps.length
    · obtain ⟨p, hp⟩ := get_some hlt
      obtain ⟨q, hq⟩ := get_some (l := qs) (k := k) (by have := HN.out; omega)
      have hd := Lib.hid (eq_drop hp hq)
      obtain ⟨b, o, rfl⟩ := hR.addr (pgs_ne (by rintro rfl; simp at hlt))
      obtain ⟨b', o', rfl⟩ := hR'.addr (pgs_ne (by rintro rfl; simp at hq))
      have hRk := hR.below hb (Nat.le_refl _)
      have hRk' := hR'.below hb (Nat.le_refl _)
      obtain ⟨c0, c1, c2, c3, c4⟩ := hRk.pg hp
      obtain ⟨d0, d1, d2, d3, d4⟩ := hRk'.pg hq
      have hk1 : (k : Int) < ps.length := by omega
      have HP := Lib.hid hp
      have HQ := Lib.hid hq
      clear hp hq
      go_wp2
      go_region_held3 (fun w' => w'.cell? ⟨b, o + k * 5, none⟩ = some (.int .i64 p.state) ∧ w'.cell? ⟨b, o + k * 5 + 1, none⟩ = some (.int .i64 p.rc.kind) ∧ w'.cell? ⟨b, o + k * 5 + 2, none⟩ = some (.int .i64 p.rc.seq) ∧ w'.cell? ⟨b, o + k * 5 + 3, none⟩ = some (.int .i64 p.rc.addr) ∧ w'.cell? ⟨b, o + k * 5 + 4, none⟩ = some (.int .i64 p.rc.val) ∧
       w'.cell? ⟨b', o' + k * 5, none⟩ = some (.int .i64 q.state) ∧ w'.cell? ⟨b', o' + k * 5 + 1, none⟩ = some (.int .i64 q.rc.kind) ∧ w'.cell? ⟨b', o' + k * 5 + 2, none⟩ = some (.int .i64 q.rc.seq) ∧ w'.cell? ⟨b', o' + k * 5 + 3, none⟩ = some (.int .i64 q.rc.addr) ∧ w'.cell? ⟨b', o' + k * 5 + 4, none⟩ = some (.int .i64 q.rc.val))
       (first | go_keep | trivial)
       (first | (go_at_call 85; refine (laws_eqPage p q _).mono ?_; rintro e w1 ⟨rfl, hb1⟩; replace hb1 := undrew hb1; obtain ⟨e0, e1, e2, e3, e4⟩ := (hRk.below hb1 (Nat.le_refl _)).pg HP.out; obtain ⟨g0, g1, g2, g3, g4⟩ := (hRk'.below hb1 (Nat.le_refl _)).pg HQ.out))
      have hB1 := hb.trans (hb1.mono hb.size)
      go_wp2
      · have hne : (!decide (p = q)) = true := by assumption
        have hne' : decide (p = q) = false := by simpa using hne
        go_ret
        exact ⟨ret_bool (by rw [hg.out, hd.out, hne']; rfl), hB1⟩
      · have heq : (!decide (p = q)) = false := by assumption
        have heq' : decide (p = q) = true := by simpa using heq
        go_roundw
        case rel => exact ⟨k + 1, by omega, by go_num, hB1, by rw [Hid, hg.out, hd.out, heq', Bool.true_and]⟩
        case measure => simp [intOf]; omega
    · obtain rfl : k = ps.length := by omega
      go_wp2
      go_ret
      exact ⟨ret_bool (by rw [hg.out, List.drop_of_length_le (Nat.le_refl _), List.drop_of_length_le (by have := HN.out; omega)]; rfl), hb⟩
 · have hq : Hid (decide (ps = qs) = false) := by unfold Hid; simp; intro e; exact hn (by rw [e])
   go_enter Try.func55, Try.ntmps55
   go_wp2
   go_ret
   exact ⟨ret_bool hq.out.symm, Below.refl _ _⟩
theorem laws_eqBlock (a b : Bk) (A A' : Option Addr) (c c' : Nat) (w : World) (hl : a.pages.length < 1000000000000) (hl' : b.pages.length < 1000000000000) (hR : Row w A (pgs a.pages)) (hR' : Row w A' (pgs b.pages)) :
 Calls Try.prog 33 #[.agg #[.slice A a.pages.length c, .int .i64 a.worn], .agg #[.slice A' b.pages.length c', .int .i64 b.worn]] w fun e w' => e = .returned (.bool (decide (a = b))) ∧ Below w.heap.size w w' := by
 obtain ⟨ps, n⟩ := a
 obtain ⟨qs, m⟩ := b
 dsimp only at *
 have hB0 : Below w.heap.size w ((w.alloc (.cells #[.slice A ps.length c, .int .i64 n] 35)).alloc (.cells #[.slice A' qs.length c', .int .i64 m] 35)) := ((Below.refl _ _).alloc (Nat.le_refl _) _).alloc (by simp) _
 go_enter Try.func33, Try.ntmps33
 go_wp2_with fail
 refine (laws_eqPageS A A' c c' ps qs _ hl hl' ((hR.alloc _).alloc _) ((hR'.alloc _).alloc _)).mono ?_
 rintro e w1 ⟨rfl, hb1⟩
 have hB1 := hB0.trans (hb1.mono hB0.size)
 have x1 : w1.cell? ⟨w.heap.size, 1, none⟩ = some (.int .i64 n) := (hb1.cell (by simp; omega)).trans (by simp)
 have y1 : w1.cell? ⟨w.heap.size + 1, 1, none⟩ = some (.int .i64 m) := (hb1.cell (by simp)).trans (by simp)
 clear hb1 hB0
 by_cases hpq : ps = qs
 · subst hpq
   have hq : Hid (∀ x, x = decide (n = m) → decide ((⟨ps, n⟩ : Bk) = ⟨ps, m⟩) = x) := by intro x hx; rw [hx]; simp
   rw [show decide (ps = ps) = true from by simp]
   go_wp2
   all_goals (go_ret; exact ⟨ret_bool (hq.out _ (by simp_all)).symm, hB1⟩)
 · have hq : Hid (decide ((⟨ps, n⟩ : Bk) = ⟨qs, m⟩) = false) := by unfold Hid; simp [hpq]
   rw [show decide (ps = qs) = false from by simpa using hpq]
   clear hpq
   go_wp2
   go_ret
   exact ⟨ret_bool hq.out.symm, hB1⟩
set_option maxHeartbeats 1000000 in
theorem laws_eqBlockS (A A' : Option Addr) (c c' : Nat) (f g : List Bk) (w : World) (hl : f.length < 1000000000000) (hl' : g.length < 1000000000000) (hp : ∀ b ∈ f, b.pages.length < 1000000000000) (hp' : ∀ b ∈ g, b.pages.length < 1000000000000) (hF : Fl w A f) (hF' : Fl w A' g) :
 Calls Try.prog 15 #[.slice A f.length c, .slice A' g.length c'] w fun e w' => e = .returned (.bool (decide (f = g))) ∧ Below w.heap.size w w' := by
 obtain ⟨hs, hF⟩ := hF
 obtain ⟨ks, hF'⟩ := hF'
 by_cases hn : f.length = g.length
 · have HN := Lib.hid hn
   have HP := Lib.hid hp
   have HP' := Lib.hid hp'
   rw [← hn]
   clear hn hl' hp hp'
   go_enter Try.func15, Try.ntmps15
   go_wp2
   go_loopw [5] (fun i wr => ∃ (k : Nat), k ≤ f.length ∧ i = .int .i64 k ∧ Below w.heap.size w wr ∧ Hid (decide (f = g) = decide (f.drop k = g.drop k))) (fun i _ => f.length - (intOf i).toNat)
   case atStart => exact ⟨0, by omega, rfl, Below.refl _ _, by simp [Hid]⟩
   case round =>
    obtain ⟨k, hk, rfl, hb, hg⟩ := hrel
    by_cases hlt : k < f.length
    · obtain ⟨p, hp⟩ := get_some hlt
      obtain ⟨q, hq⟩ := get_some (l := g) (k := k) (by have := HN.out; omega)
      have hd := Lib.hid (eq_drop hp hq)
      have hpl := HP.out p (List.mem_of_getElem? hp)
      have hql := HP'.out q (List.mem_of_getElem? hq)
      obtain ⟨b, o, rfl⟩ := hF.addr (by rintro rfl; simp at hlt)
      obtain ⟨b', o', rfl⟩ := hF'.addr (by rintro rfl; simp at hq)
      have hFk := hF.below hb (Nat.le_refl _)
      have hFk' := hF'.below hb (Nat.le_refl _)
      obtain ⟨⟨Ap, cp⟩, _, c0, c1, _, _, hRp, _⟩ := hFk.at_ hp
      obtain ⟨⟨Aq, cq⟩, _, d0, d1, _, _, hRq, _⟩ := hFk'.at_ hq
      have hk1 : (k : Int) < f.length := by omega
      dsimp only at *
      have hbb := lt_of_cell c0
      have hbb' := lt_of_cell d0
      clear hp hq
      go_wp2
      go_region_held3 (fun w' => w'.cell? ⟨b, o + k * 2, none⟩ = some (.slice Ap p.pages.length cp) ∧ w'.cell? ⟨b, o + k * 2 + 1, none⟩ = some (.int .i64 p.worn) ∧ w'.cell? ⟨b', o' + k * 2, none⟩ = some (.slice Aq q.pages.length cq) ∧ w'.cell? ⟨b', o' + k * 2 + 1, none⟩ = some (.int .i64 q.worn))
       (first | go_keep | trivial)
       (first | (go_at_call 33; refine (laws_eqBlock p q Ap Aq cp cq _ hpl hql hRp.drew hRq.drew).mono ?_; rintro e w1 ⟨rfl, hb1⟩; replace hb1 := undrew hb1; have e0 := (hb1.cell (p := ⟨b, o + k * 2, none⟩) hbb).trans c0; have e1 := (hb1.cell (p := ⟨b, o + k * 2 + 1, none⟩) hbb).trans c1; have g0 := (hb1.cell (p := ⟨b', o' + k * 2, none⟩) hbb').trans d0; have g1 := (hb1.cell (p := ⟨b', o' + k * 2 + 1, none⟩) hbb').trans d1))
      have hB1 := hb.trans (hb1.mono hb.size)
      go_wp2
      · have hne : (!decide (p = q)) = true := by assumption
        have hne' : decide (p = q) = false := by simpa using hne
        go_ret
        exact ⟨ret_bool (by rw [hg.out, hd.out, hne']; rfl), hB1⟩
      · have heq : (!decide (p = q)) = false := by assumption
        have heq' : decide (p = q) = true := by simpa using heq
        go_roundw
        case rel => exact ⟨k + 1, by omega, by go_num, hB1, by rw [Hid, hg.out, hd.out, heq', Bool.true_and]⟩
        case measure => simp [intOf]; omega
    · obtain rfl : k = f.length := by omega
      go_wp2
      go_ret
      exact ⟨ret_bool (by rw [hg.out, List.drop_of_length_le (Nat.le_refl _), List.drop_of_length_le (by have := HN.out; omega)]; rfl), hb⟩
 · have hq : Hid (decide (f = g) = false) := by unfold Hid; simp; intro e; exact hn (by rw [e])
   go_enter Try.func15, Try.ntmps15
   go_wp2
   go_ret
   exact ⟨ret_bool hq.out.symm, Below.refl _ _⟩
end Go.Proofs.Ytclnogfmmekooaa
namespace Go.Proofs.Ytclnogfmmekooaa
set_option linter.unusedVariables false
set_option linter.unusedSimpArgs false
open Go.RowKit Go.Maps
set_option maxHeartbeats 400000
def markPs : Int → List Pg → List Pg
 | _, [] => []
 | k, _ :: ps => ⟨k, ⟨k + 1, k + 1 + 1, k + 1 + 1 + 1, k + 1 + 1 + 1 + 1⟩⟩ :: markPs (k + 1 + 1 + 1 + 1 + 1) ps
def endPs : Int → List Pg → Int
 | k, [] => k
 | k, _ :: ps => endPs (k + 1 + 1 + 1 + 1 + 1) ps
def markFl : Int → List Bk → List Bk
 | _, [] => []
 | k, b :: f => ⟨markPs k b.pages, endPs k b.pages⟩ :: markFl (endPs k b.pages + 1) f
def endFl : Int → List Bk → Int
 | k, [] => k
 | k, b :: f => endFl (endPs k b.pages + 1) f
theorem endPs_eq : ∀ (ps : List Pg) (k : Int), endPs k ps = k + 5 * ps.length
 | [], k => by simp [endPs]
 | _ :: ps, k => by rw [endPs, endPs_eq ps]; simp only [List.length_cons]; omega
theorem markPs_len : ∀ (ps : List Pg) (k : Int), (markPs k ps).length = ps.length
 | [], _ => rfl
 | _ :: ps, k => by simp [markPs, markPs_len ps]
theorem markFl_len : ∀ (f : List Bk) (k : Int), (markFl k f).length = f.length
 | [], _ => rfl
 | _ :: f, k => by simp [markFl, markFl_len f]
theorem markPs_at : ∀ (ps : List Pg) (k : Int) (j : Nat) (p : Pg), ps[j]? = some p → (markPs k ps)[j]? = some ⟨k + 5 * j, ⟨k + 5 * j + 1, k + 5 * j + 1 + 1, k + 5 * j + 1 + 1 + 1, k + 5 * j + 1 + 1 + 1 + 1⟩⟩
 | [], _, _, _, h => by simp at h
 | q :: ps, k, 0, p, h => by simp [markPs]
 | q :: ps, k, j + 1, p, h => by
   rw [markPs, List.getElem?_cons_succ, markPs_at ps _ j p (by simpa using h), show k + 1 + 1 + 1 + 1 + 1 + 5 * (j : Int) = k + 5 * ((j + 1 : Nat) : Int) by omega]
/-- the marks behind j pages, the old pages from there on -/
theorem mark_step (ps : List Pg) (k : Int) (j : Nat) (h : j < ps.length) : ((markPs k ps).take j ++ ps.drop j).set j ⟨k + 5 * j, ⟨k + 5 * j + 1, k + 5 * j + 1 + 1, k + 5 * j + 1 + 1 + 1, k + 5 * j + 1 + 1 + 1 + 1⟩⟩ = (markPs k ps).take (j + 1) ++ ps.drop (j + 1) := by
 have hl := markPs_len ps k
 obtain ⟨p, hp⟩ := get_some h
 rw [List.set_append_right _ _ (by simp; omega), show j - ((markPs k ps).take j).length = 0 by simp; omega, List.drop_eq_getElem_cons h, List.set_cons_zero, List.take_add_one, markPs_at ps k j p hp]
 simp
theorem endFl_le (P : Int) : ∀ (f : List Bk) (k : Int), (∀ b ∈ f, (b.pages.length : Int) ≤ P) → endFl k f ≤ k + (5 * P + 1) * f.length
 | [], k, _ => by simp [endFl]
 | b :: f, k, h => by
   have h1 := endPs_eq b.pages k
   have h2 := endFl_le P f (endPs k b.pages + 1) (fun c hc => h c (List.mem_cons_of_mem _ hc))
   have h3 := h b (List.mem_cons_self ..)
   rw [endFl, List.length_cons]
   have e : (5 * P + 1) * ((f.length + 1 : Nat) : Int) = (5 * P + 1) * f.length + (5 * P + 1) := by rw [Int.natCast_add, Int.mul_add]; simp
   rw [e]; omega
theorem endFl_ge : ∀ (f : List Bk) (k : Int), k ≤ endFl k f
 | [], k => Int.le_refl _
 | b :: f, k => by
   have h1 := endPs_eq b.pages k
   have h2 := endFl_ge f (endPs k b.pages + 1)
   rw [endFl]; omega
/-- where the marks of block j begin -/
def atFl : Int → List Bk → Nat → Int
 | k, _, 0 => k
 | k, [], _ => k
 | k, b :: f, j + 1 => atFl (endPs k b.pages + 1) f j
theorem atFl_succ : ∀ (f : List Bk) (k : Int) (j : Nat) (b : Bk), f[j]? = some b → atFl k f (j + 1) = endPs (atFl k f j) b.pages + 1
 | [], _, _, _, h => by simp at h
 | a :: f, k, 0, b, h => by simp at h; subst h; simp [atFl]
 | a :: f, k, j + 1, b, h => by
   have ih := atFl_succ f (endPs k a.pages + 1) j b (by simpa using h)
   simpa [atFl] using ih
theorem atFl_end : ∀ (f : List Bk) (k : Int) (j : Nat), endFl (atFl k f j) (f.drop j) = endFl k f
 | [], k, j => by cases j <;> simp [atFl, endFl]
 | a :: f, k, 0 => by simp [atFl]
 | a :: f, k, j + 1 => by rw [atFl, List.drop_succ_cons, atFl_end f]; rfl
theorem atFl_ge : ∀ (f : List Bk) (k : Int) (j : Nat), k ≤ atFl k f j
 | [], k, j => by cases j <;> simp [atFl]
 | a :: f, k, 0 => by simp [atFl]
 | a :: f, k, j + 1 => by
   have h1 := endPs_eq a.pages k
   have h2 := atFl_ge f (endPs k a.pages + 1) j
   rw [atFl]; omega
theorem markFl_at : ∀ (f : List Bk) (k : Int) (j : Nat) (b : Bk), f[j]? = some b → (markFl k f)[j]? = some ⟨markPs (atFl k f j) b.pages, endPs (atFl k f j) b.pages⟩
 | [], _, _, _, h => by simp at h
 | a :: f, k, 0, b, h => by simp at h; subst h; simp [markFl, atFl]
 | a :: f, k, j + 1, b, h => by
   rw [markFl, List.getElem?_cons_succ, markFl_at f _ j b (by simpa using h)]; rfl
theorem markFl_step (f : List Bk) (k : Int) (j : Nat) (b : Bk) (h : f[j]? = some b) : ((markFl k f).take j ++ f.drop j).set j ⟨markPs (atFl k f j) b.pages, endPs (atFl k f j) b.pages⟩ = (markFl k f).take (j + 1) ++ f.drop (j + 1) := by
 have hl := markFl_len f k
 have hlt := (List.getElem?_eq_some_iff.1 h).1
 rw [List.set_append_right _ _ (by simp; omega), show j - ((markFl k f).take j).length = 0 by simp; omega, List.drop_eq_getElem_cons hlt, List.set_cons_zero, List.take_add_one, markFl_at f k j b h]
 simp
end Go.Proofs.Ytclnogfmmekooaa
namespace Go.Proofs.Ytclnogfmmekooaa
set_option linter.unusedVariables false
set_option linter.unusedSimpArgs false
open Go.RowKit Go.Maps
set_option maxHeartbeats 400000
theorem flashNew_len : flashNew.length = 4 := rfl
theorem flashNew_pages : ∀ b ∈ flashNew, b.pages.length < 1000000000000 := by
 intro b hb
 rw [flashNew, List.mem_replicate] at hb
 rw [hb.2]; decide
theorem flashNew_end : endFl 1 flashNew = 85 := by decide
theorem OFl.far {w w' : World} {lo hi lo' hi' : Nat} {A : Option Addr} {f : List Bk} (h : OFl w lo hi A f) (ha : Agr (fun b => lo' ≤ b ∧ b < hi') w w') (hd : hi ≤ lo' ∨ hi' ≤ lo) : OFl w' lo hi A f :=
 h.agr ha fun b h1 h2 h3 => by omega
end Go.Proofs.Ytclnogfmmekooaa
namespace Go.Proofs.Ytclnogfmmekooaa
set_option linter.unusedVariables false
set_option linter.unusedSimpArgs false
open Go.RowKit Go.Maps
set_option maxHeartbeats 400000
/-- a store of one's own: a flash and a row of numbers, in blocks from lo on and below hi -/
def OSt (w : World) (lo hi : Nat) (A : Option Addr) (f : List Bk) (D : Option Addr) (xs : List Int) : Prop :=
 ∃ hs, Bks w A f hs ∧ Apt lo hi A hs ∧ Row w D (ints xs) ∧ ∀ b, blk D b → lo ≤ b ∧ b < hi ∧ ¬ blk A b ∧ ∀ (i : Nat) (x : Option Addr × Nat), hs[i]? = some x → ¬ blk x.1 b
theorem OSt.keep {w w' : World} {lo hi : Nat} {A D : Option Addr} {f : List Bk} {xs : List Int} (h : OSt w lo hi A f D xs) (hk : ∀ b, lo ≤ b → b < hi → b < w.heap.size → w'.heap[b]? = w.heap[b]?) : OSt w' lo hi A f D xs := by
 obtain ⟨hs, h1, h2, h3, h4⟩ := h
 refine ⟨hs, h1.keep fun b hb hl => ?_, h2, h3.keep fun b hb hl => hk b (h4 b hb).1 (h4 b hb).2.1 hl, h4⟩
 rcases hb with hb | ⟨x, hx, hb⟩
 · have := h2.top b hb; exact hk b this.1 this.2 hl
 · obtain ⟨i, hi'⟩ := List.getElem?_of_mem hx
   have := h2.in_ i x b hi' hb; exact hk b this.1 this.2.1 hl
theorem OSt.below {w w' : World} {lo hi B : Nat} {A D : Option Addr} {f : List Bk} {xs : List Int} (h : OSt w lo hi A f D xs) (hb : Below B w w') (hB : w.heap.size ≤ B) : OSt w' lo hi A f D xs := h.keep fun b _ _ hl => hb.block b (by omega)
theorem OSt.far {w w' : World} {lo hi lo' hi' : Nat} {A D : Option Addr} {f : List Bk} {xs : List Int} (h : OSt w lo hi A f D xs) (ha : Agr (fun b => lo' ≤ b ∧ b < hi') w w') (hd : hi ≤ lo' ∨ hi' ≤ lo) : OSt w' lo hi A f D xs :=
 h.keep fun b h1 h2 hl => ha.block b hl (by omega)
theorem OSt.ofl {w : World} {lo hi : Nat} {A D : Option Addr} {f : List Bk} {xs : List Int} (h : OSt w lo hi A f D xs) : OFl w lo hi A f := by obtain ⟨hs, h1, h2, _⟩ := h; exact ⟨hs, h1, h2⟩
theorem OSt.disk {w : World} {lo hi : Nat} {A D : Option Addr} {f : List Bk} {xs : List Int} (h : OSt w lo hi A f D xs) : Row w D (ints xs) := by obtain ⟨hs, _, _, h3, _⟩ := h; exact h3
theorem OSt.mono {w : World} {lo hi lo' hi' : Nat} {A D : Option Addr} {f : List Bk} {xs : List Int} (h : OSt w lo hi A f D xs) (h1 : lo' ≤ lo) (h2 : hi ≤ hi') : OSt w lo' hi' A f D xs := by
 obtain ⟨hs, a, b, c, d⟩ := h
 exact ⟨hs, a, b.mono h1 h2, c, fun x hx => by have := d x hx; exact ⟨by omega, by omega, this.2.2⟩⟩
/-- the flash lies in some blocks, the numbers in others -/
theorem OSt.mk' {w : World} {lo hi lf hf d o : Nat} {A : Option Addr} {f : List Bk} {xs : List Int} (h : OFl w lf hf A f) (hr : Row w (some ⟨d, o, none⟩) (ints xs)) (h1 : lo ≤ lf) (h2 : hf ≤ hi) (h3 : lo ≤ d) (h4 : d < hi) (h5 : d < lf ∨ hf ≤ d) : OSt w lo hi A f (some ⟨d, o, none⟩) xs := by
 obtain ⟨hs, a, b⟩ := h
 refine ⟨hs, a, b.mono h1 h2, hr, fun x hx => ?_⟩
 rw [blk_some] at hx
 subst hx
 exact ⟨h3, h4, fun e => by have := b.top d e; omega, fun i y hy e => by have := b.in_ i y d hy e; omega⟩
theorem make_disk (w : World) : (Instr.makeSlice 92 (.int .i64 6) (.int .i64 6)).run Try.prog w = .ok (.slice (some ⟨w.heap.size, 0, none⟩) 6 6) (w.alloc (.cells #[.int .i64 0, .int .i64 0, .int .i64 0, .int .i64 0, .int .i64 0, .int .i64 0] 3)) := by kernel_rfl
def disk0 : List Int := [0, 0, 0, 0, 0, 0]
/-- what StoreNew answers -/
def StNewPost (w : World) (e : Ending) (w' : World) : Prop :=
 ∃ A c D, e = .returned (.agg #[.slice A 4 c, .slice D 6 6]) ∧ 4 ≤ c ∧ OSt w' w.heap.size w'.heap.size A flashNew D disk0 ∧ Below w.heap.size w w'
theorem spec_StoreNew (w : World) : Calls Try.prog 86 #[] w (StNewPost w) := by
 have hmk := make_disk
 go_enter Try.func86, Try.ntmps86
 go_wp2_with fail
 go_region_with (first | (go_at_call 96; refine (spec_FlashNew _).mono ?_; rintro e w1 ⟨g, c, rfl, hc, hO, hb⟩; have r0 : w1.cell? ⟨w.heap.size, 0, none⟩ = some (.slice none 0 0) := (hb.cell (p := ⟨w.heap.size, 0, none⟩) (by simp <;> omega)).trans (by simp); have r1 : w1.cell? ⟨w.heap.size, 1, none⟩ = some (.slice none 0 0) := (hb.cell (p := ⟨w.heap.size, 1, none⟩) (by simp <;> omega)).trans (by simp); have r2 : w1.frozen? ⟨w.heap.size, 0, none⟩ = false := (hb.frozen (p := ⟨w.heap.size, 0, none⟩) (by simp <;> omega)).trans (by simp); have r3 : w1.frozen? ⟨w.heap.size, 1, none⟩ = false := (hb.frozen (p := ⟨w.heap.size, 1, none⟩) (by simp <;> omega)).trans (by simp); have hz : w.heap.size < w1.heap.size := by have := hb.size; simp at this; omega))
 · -- the flash first
   have hB : Below w.heap.size w w1 := Below.trans (by (repeat (first | (with_reducible exact Below.refl _ _) | (with_reducible assumption) | (refine Below.setCell ?_ (by first | omega | exact hB.size | exact hb.size | (have h := hB.size; simp; omega) | (have h := hb.size; simp; omega) | (simp; omega) | simp) _) | (refine Below.alloc ?_ (by first | omega | exact hB.size | exact hb.size | (have h := hB.size; simp; omega) | (have h := hb.size; simp; omega) | (simp; omega) | simp) _) | (refine Below.drew ?_)))) (hb.mono (by simp <;> omega))
   have hO2 : OFl w1 (w.heap.size + 1) w1.heap.size (some ⟨g, 0, none⟩) flashNew := hO.mono (by simp <;> omega) (Nat.le_refl _)
   clear hO hb
   go_wp2
   refine bodyPost_ret (v := .agg #[.slice (some ⟨g, 0, none⟩) 4 c, .slice (some ⟨w1.heap.size, 0, none⟩) 6 6]) (by simp [results, Try.results86, go_sem, hz, r0, r1]) rfl ⟨_, _, _, rfl, hc, ?_, ?_⟩
   · refine OSt.mk' (lf := w.heap.size + 1) (hf := w1.heap.size) (hO2.keep fun d h1 h2 hl => ?_) ?_ (by omega) (by simp) (by omega) (by simp) (.inr (Nat.le_refl _))
     · rw [Below.heap_alloc _ _ _ (by simpa using hl), Below.heap_setCell _ _ _ _ (by simp; omega), Below.heap_setCell _ _ _ _ (by simp; omega)]
     · have := Row.new ((w1.setCell ⟨w.heap.size, 0, none⟩ (.slice (some ⟨g, 0, none⟩) 4 c)).setCell ⟨w.heap.size, 1, none⟩ (.slice (some ⟨w1.heap.size, 0, none⟩) 6 6)) #[.int .i64 0, .int .i64 0, .int .i64 0, .int .i64 0, .int .i64 0, .int .i64 0] 3
       simp only [World.size_setCell] at this
       exact this
   · (repeat (first | (with_reducible exact Below.refl _ _) | (with_reducible assumption) | (refine Below.setCell ?_ (by first | omega | exact hB.size | exact hb.size | (have h := hB.size; simp; omega) | (have h := hb.size; simp; omega) | (simp; omega) | simp) _) | (refine Below.alloc ?_ (by first | omega | exact hB.size | exact hb.size | (have h := hB.size; simp; omega) | (have h := hb.size; simp; omega) | (simp; omega) | simp) _) | (refine Below.drew ?_)))
 · -- the numbers first
   have hB : Below w.heap.size w w1 := Below.trans (by (repeat (first | (with_reducible exact Below.refl _ _) | (with_reducible assumption) | (refine Below.setCell ?_ (by first | omega | exact hB.size | exact hb.size | (have h := hB.size; simp; omega) | (have h := hb.size; simp; omega) | (simp; omega) | simp) _) | (refine Below.alloc ?_ (by first | omega | exact hB.size | exact hb.size | (have h := hB.size; simp; omega) | (have h := hb.size; simp; omega) | (simp; omega) | simp) _) | (refine Below.drew ?_)))) (hb.mono (by simp <;> omega))
   have hO2 : OFl w1 (w.heap.size + 1 + 1) w1.heap.size (some ⟨g, 0, none⟩) flashNew := hO.mono (by simp <;> omega) (Nat.le_refl _)
   have hD : Row w1 (some ⟨w.heap.size + 1, 0, none⟩) (ints disk0) := by
    have := Row.new (w.alloc (.cells #[.slice none 0 0, .slice none 0 0] 94)) #[.int .i64 0, .int .i64 0, .int .i64 0, .int .i64 0, .int .i64 0, .int .i64 0] 3
    simp only [World.size_alloc] at this
    exact (Row.drew this).below hb (Nat.le_refl _)
   have hz2 : w.heap.size + 1 < w1.heap.size := by have := hb.size; simp at this; omega
   clear hO hb
   go_wp2
   refine bodyPost_ret (v := .agg #[.slice (some ⟨g, 0, none⟩) 4 c, .slice (some ⟨w.heap.size + 1, 0, none⟩) 6 6]) (by simp [results, Try.results86, go_sem, hz, r0, r1]) rfl ⟨_, _, _, rfl, hc, ?_, ?_⟩
   · refine OSt.mk' (lf := w.heap.size + 1 + 1) (hf := w1.heap.size) (hO2.keep fun d h1 h2 hl => ?_) (hD.keep fun d hd hl => ?_) (by omega) (by simp) (by omega) (by simpa using hz2) (.inl (by omega))
     · rw [Below.heap_setCell _ _ _ _ (by simp; omega), Below.heap_setCell _ _ _ _ (by simp; omega)]
     · rw [blk_some] at hd
       rw [Below.heap_setCell _ _ _ _ (by simp; omega), Below.heap_setCell _ _ _ _ (by simp; omega)]
   · (repeat (first | (with_reducible exact Below.refl _ _) | (with_reducible assumption) | (refine Below.setCell ?_ (by first | omega | exact hB.size | exact hb.size | (have h := hB.size; simp; omega) | (have h := hb.size; simp; omega) | (simp; omega) | simp) _) | (refine Below.alloc ?_ (by first | omega | exact hB.size | exact hb.size | (have h := hB.size; simp; omega) | (have h := hb.size; simp; omega) | (simp; omega) | simp) _) | (refine Below.drew ?_)))
end Go.Proofs.Ytclnogfmmekooaa
namespace Go.Proofs.Ytclnogfmmekooaa
set_option linter.unusedVariables false
set_option linter.unusedSimpArgs false
open Go.RowKit Go.Maps
set_option maxHeartbeats 400000
theorem spec_l21Steps (s : St) (e : Ev) (A D : Option Addr) (c d : Nat) (w : World) (hf : s.flash.length = 4) (hp : ∀ b ∈ s.flash, b.pages.length = 4) (hm : ∀ b ∈ s.flash, most b < 1000000000000) (hd : s.disk.length = 6) (hF : Fl w A s.flash) (hD : Row w D (ints s.disk)) :
 Calls Try.prog 99 #[.agg #[.slice A 4 c, .slice D 6 d], .agg #[.int .i64 e.kind, .int .i64 e.a, .int .i64 e.b, .int .i64 e.c, .bool e.torn]] w fun r w' => ∃ v, r = .returned v ∧ OwnS w' w.heap.size v (stepsOf s e) ∧ Below w.heap.size w w' := by
 obtain ⟨k, a, b, cc, t⟩ := e
 dsimp only
 have HL := Lib.hid hf
 have HP4 := Lib.hid hp
 have HM := Lib.hid hm
 have HD := Lib.hid hd
 have hB : Below w.heap.size w ((w.alloc (.cells #[.slice A 4 c, .slice D 6 d] 94)).alloc (.cells #[.int .i64 k, .int .i64 a, .int .i64 b, .int .i64 cc, .bool t] 134)) := by (repeat (first | (with_reducible exact Below.refl _ _) | (with_reducible assumption) | (refine Below.setCell ?_ (by first | omega | exact hB.size | exact hb.size | (have h := hB.size; simp; omega) | (have h := hb.size; simp; omega) | (simp; omega) | simp) _) | (refine Below.alloc ?_ (by first | omega | exact hB.size | exact hb.size | (have h := hB.size; simp; omega) | (have h := hb.size; simp; omega) | (simp; omega) | simp) _) | (refine Below.drew ?_)))
 have hFz := (hF.alloc (.cells #[.slice A 4 c, .slice D 6 d] 94)).alloc (.cells #[.int .i64 k, .int .i64 a, .int .i64 b, .int .i64 cc, .bool t] 134)
 have hDz := (hD.alloc (.cells #[.slice A 4 c, .slice D 6 d] 94)).alloc (.cells #[.int .i64 k, .int .i64 a, .int .i64 b, .int .i64 cc, .bool t] 134)
 have hfin : Hid (stepsOf s ⟨k, a, b, cc, t⟩ = if k = 1 then wr s.flash 1 a b else if k = 2 then flush s a else if k = 3 then fill s a else []) := rfl
 clear hf hp hm hd
 by_cases h1 : k = 1
 · subst h1
   have h3 : Hid (stepsOf s ⟨1, a, b, cc, t⟩ = wr s.flash 1 a b) := by rw [Hid, hfin.out, if_pos rfl]
   go_enter Try.func99, Try.ntmps99
   go_wp2_with fail
   refine (spec_l12Write s.flash 1 a b A D c 6 d _ HL.out HP4.out HM.out hFz).mono ?_
   rintro e w1 ⟨v, rfl, hO, hb⟩
   go_wp2
   go_ret
   rw [h3.out]
   exact ⟨_, rfl, hO.mono (by simp; omega), hB.trans (hb.mono (by simp; omega))⟩
 · by_cases h2 : k = 2
   · subst h2
     have h3 : Hid (stepsOf s ⟨2, a, b, cc, t⟩ = flush s a) := by rw [Hid, hfin.out, if_neg h1, if_pos rfl]
     go_enter Try.func99, Try.ntmps99
     go_wp2_with fail
     refine (spec_l12Flush s a A D c d _ HL.out HP4.out HM.out HD.out hFz hDz).mono ?_
     rintro e w1 ⟨v, rfl, hO, hb⟩
     go_wp2
     go_ret
     rw [h3.out]
     exact ⟨_, rfl, hO.mono (by simp; omega), hB.trans (hb.mono (by simp; omega))⟩
   · by_cases h4 : k = 3
     · subst h4
       have h3 : Hid (stepsOf s ⟨3, a, b, cc, t⟩ = fill s a) := by rw [Hid, hfin.out, if_neg h1, if_neg h2, if_pos rfl]
       go_enter Try.func99, Try.ntmps99
       go_wp2_with fail
       refine (spec_l12Fill s a A D c d _ HL.out HP4.out HM.out HD.out hFz hDz).mono ?_
       rintro e w1 ⟨v, rfl, hO, hb⟩
       go_wp2
       go_ret
       rw [h3.out]
       exact ⟨_, rfl, hO.mono (by simp; omega), hB.trans (hb.mono (by simp; omega))⟩
     · have h3 : Hid (stepsOf s ⟨k, a, b, cc, t⟩ = []) := by rw [Hid, hfin.out, if_neg h1, if_neg h2, if_neg h4]
       have e1 : (k == 1) = false := by simp [h1]
       have e2 : (k == 2) = false := by simp [h2]
       have e3 : (k == 3) = false := by simp [h4]
       have hO := OwnS.nil ((w.alloc (.cells #[.slice A 4 c, .slice D 6 d] 94)).alloc (.cells #[.int .i64 k, .int .i64 a, .int .i64 b, .int .i64 cc, .bool t] 134)) w.heap.size (by simp; omega)
       simp only [World.size_alloc] at hO
       go_enter Try.func99, Try.ntmps99
       go_wp2
       go_ret
       rw [h3.out]
       exact ⟨_, rfl, hO, hB.alloc hB.size _⟩
end Go.Proofs.Ytclnogfmmekooaa
namespace Go.Proofs.Ytclnogfmmekooaa
set_option linter.unusedVariables false
set_option linter.unusedSimpArgs false
open Go.RowKit Go.Maps
set_option maxHeartbeats 400000
theorem OSt.alloc' {w : World} {lo hi : Nat} {A D : Option Addr} {f : List Bk} {xs : List Int} (h : OSt w lo hi A f D xs) (o : Obj) : OSt (w.alloc o) lo hi A f D xs := h.below (B := w.heap.size) ((Below.refl _ _).alloc (Nat.le_refl _) _) (Nat.le_refl _)
theorem cell3 {w : World} {a b c : Obj} {i : Nat} {u : Option Value} (h : (w.alloc a).cell? ⟨w.heap.size, i, none⟩ = u) : (((w.alloc a).alloc b).alloc c).cell? ⟨w.heap.size, i, none⟩ = u :=
 ((((Below.refl (w.heap.size + 1) (w.alloc a)).alloc (by simp) b).alloc (by simp) c).cell (p := ⟨w.heap.size, i, none⟩) (by show w.heap.size < _; omega)).trans h
theorem fz3 {w : World} {a b c : Obj} {i : Nat} {u : Bool} (h : (w.alloc a).frozen? ⟨w.heap.size, i, none⟩ = u) : (((w.alloc a).alloc b).alloc c).frozen? ⟨w.heap.size, i, none⟩ = u :=
 ((((Below.refl (w.heap.size + 1) (w.alloc a)).alloc (by simp) b).alloc (by simp) c).frozen (p := ⟨w.heap.size, i, none⟩) (by show w.heap.size < _; omega)).trans h
theorem top3 (w : World) (a b : Obj) (cs : Array Value) (t : TypeId) : Row (((w.alloc a).alloc b).alloc (.cells cs t)) (some ⟨w.heap.size + 1 + 1, 0, none⟩) cs.toList := by
 have := Row.new ((w.alloc a).alloc b) cs t
 simp only [World.size_alloc] at this
 exact this
theorem Row.at0 {w : World} {b : Nat} {vs : List Value} {j : Nat} {u : Value} (h : Row w (some ⟨b, 0, none⟩) vs) (hj : vs[j]? = some u) : w.cell? ⟨b, j, none⟩ = some u ∧ w.frozen? ⟨b, j, none⟩ = false := by
 obtain ⟨b', o', he, hc⟩ := h (by rintro rfl; simp at hj)
 cases he
 have := hc j u hj
 rwa [Nat.zero_add] at this
theorem row_ne6 {xs : List Int} (h : xs.length = 6) : ints xs ≠ [] := by
 intro e
 have := congrArg List.length e
 rw [ints_len, h] at this
 simp at this
set_option maxHeartbeats 4000000 in
set_option maxRecDepth 100000 in
theorem spec_l12Do (s : St) (x : Sp) (torn : Bool) (A D : Option Addr) (c d lo hi : Nat) (w : World) (hs : stFine s) (hx : spFine x) (hhi : hi ≤ w.heap.size) (hO : OSt w lo hi A s.flash D s.disk) :
 Calls Try.prog 101 #[.agg #[.slice A 4 c, .slice D 6 d], .agg #[.int .i64 x.kind, .int .i64 x.addr, .int .i64 x.val, .int .i64 x.block, .int .i64 x.rc.kind, .int .i64 x.rc.seq, .int .i64 x.rc.addr, .int .i64 x.rc.val], .bool torn] w fun r w' =>
  r = .returned (.agg #[.slice A 4 c, .slice D 6 d]) ∧ OSt w' lo hi A (doStep s x torn).flash D (doStep s x torn).disk ∧ Agr (fun b => lo ≤ b ∧ b < hi) w w' := by
 obtain ⟨k, a, v, b, rc⟩ := x
 dsimp only
 have hfin : Hid (doStep s ⟨k, a, v, b, rc⟩ torn = if k = 1 then (if torn then s else { s with disk := s.disk.set (a - 1).toNat v }) else if k = 2 then { s with flash := (wipeR s.flash b.toNat torn).1 } else if k = 3 then { s with flash := (writeR s.flash b.toNat rc torn).1 } else s) := rfl
 obtain ⟨hsf, hsd, hsv⟩ := hs
 obtain ⟨hx1, hx2, hx3⟩ := hx
 dsimp only at hx1 hx2 hx3
 have hOS := Lib.hid hO
 obtain ⟨hs, hBk, hApt, hR, hdj⟩ := hO
 have HDJ := Lib.hid hdj
 obtain ⟨db, dO, rfl⟩ := hR.addr (row_ne6 hsd)
 have hdb := HDJ.out db (blk_some.2 rfl)
 by_cases h1 : k = 1
 · subst h1
   obtain ⟨ha1, ha2, hv1, hv2⟩ := hx1 rfl
   obtain ⟨i, rfl⟩ : ∃ i : Nat, a = i + 1 := ⟨(a - 1).toNat, by omega⟩
   have hi6 : i < 6 := by omega
   have hi6' : (i : Int) < 6 := by omega
   cases torn
   · have h3 : Hid (doStep s ⟨1, i + 1, v, b, rc⟩ false = { s with disk := s.disk.set i v }) := by rw [Hid, hfin.out, if_pos rfl, show ((i : Int) + 1 - 1).toNat = i by omega]; rfl
     obtain ⟨u, hu⟩ := get_some (l := s.disk) (k := i) (by omega)
     obtain ⟨c0, f0⟩ := hR.int_ hu
     have hlt := lt_of_cell c0
     have hW := wrote_one c0 (.int .i64 v)
     have hR2 : Row (w.setCell ⟨db, dO + i, none⟩ (.int .i64 v)) (some ⟨db, dO, none⟩) (ints (s.disk.set i v)) := by
      rw [ints_set]
      exact hW.row hR (by rw [ints_len]; simp; omega)
     have hO2 : OSt (w.setCell ⟨db, dO + i, none⟩ (.int .i64 v)) lo hi A s.flash (some ⟨db, dO, none⟩) (s.disk.set i v) :=
      ⟨hs, hBk.keep fun y hy hl => hW.agr.block y hl (by
       rintro rfl
       rcases hy with hy | ⟨z, hz, hy⟩
       · exact hdb.2.2.1 hy
       · obtain ⟨j, hj⟩ := List.getElem?_of_mem hz
         exact hdb.2.2.2 j z hj hy), hApt, hR2, HDJ.out⟩
     have hA2 : Agr (fun y => lo ≤ y ∧ y < hi) w (w.setCell ⟨db, dO + i, none⟩ (.int .i64 v)) := hW.agr.mono fun y e => by rw [e]; exact ⟨hdb.1, hdb.2.1⟩
     have e1 : IntKind.i64.wrap ((i : Int) + 1 - 1) = i := by rw [show (i : Int) + 1 - 1 = i by omega]; exact IntWalk.i64_in _ (by omega)
     have e2 : IntKind.i64.wrap (i : Int) = i := IntWalk.i64_in _ (by omega)
     have HU := Lib.hid hu
     have m1 : db < w.heap.size + 1 := by omega
     have m2 : db < w.heap.size + 1 + 1 := by omega
     have n0 : db ≠ w.heap.size := by omega
     have n0' : w.heap.size ≠ db := by omega
     have n1 : db ≠ w.heap.size + 1 := by omega
     have n1' : w.heap.size + 1 ≠ db := by omega
     have n2 : db ≠ w.heap.size + 1 + 1 := by omega
     have n2' : w.heap.size + 1 + 1 ≠ db := by omega
     clear hu hW hsf hsd hsv hfin hdj
     go_enter Try.func101, Try.ntmps101
     go_wp2
     refine bodyPost_ret (v := .agg #[.slice A 4 c, .slice (some ⟨db, dO, none⟩) 6 d]) (by simp [results, Try.results101, go_sem]) rfl ⟨rfl, ?_, ?_⟩
     · rw [h3.out]; exact ((hO2.alloc' _).alloc' _).alloc' _
     · exact ((hA2.alloc _).alloc _).alloc _
   · have h3 : Hid (doStep s ⟨1, i + 1, v, b, rc⟩ true = s) := by rw [Hid, hfin.out, if_pos rfl]; rfl
     clear hsf hsd hsv hfin hdj
     go_enter Try.func101, Try.ntmps101
     go_wp2
     refine bodyPost_ret (v := .agg #[.slice A 4 c, .slice (some ⟨db, dO, none⟩) 6 d]) (by simp [results, Try.results101, go_sem]) rfl ⟨rfl, ?_, ?_⟩
     · rw [h3.out]; exact ((hOS.out.alloc' _).alloc' _).alloc' _
     · exact (((Agr.refl _ _).alloc _).alloc _).alloc _
 · have hi4s : ∀ y ∈ s.flash, y.pages.length = 4 ∧ 0 ≤ y.worn ∧ y.worn ≤ 200 := fun y hy => ⟨(hsf.2 y hy).1, (hsf.2 y hy).2.1, (hsf.2 y hy).2.2.1⟩
   have hi4p : ∀ y ∈ s.flash, y.pages.length = 4 := fun y hy => (hsf.2 y hy).1
   have HS4 := Lib.hid hi4s
   have HP4 := Lib.hid hi4p
   clear hi4s hi4p
   by_cases h2 : k = 2
   · subst h2
     have hb := hx2 (.inl rfl)
     obtain ⟨hb1, hb2⟩ := hb
     obtain ⟨i, rfl⟩ := Int.eq_ofNat_of_zero_le hb1
     have hi4 : i < 4 := by omega
     obtain ⟨g, o, rfl⟩ := hBk.addr (by intro e; have := hsf.1; rw [e] at this; simp at this)
     have h3 : Hid (doStep s ⟨2, a, v, i, rc⟩ torn = { s with flash := (wipeR s.flash i torn).1 }) := by
      rw [Hid, hfin.out, if_neg (by omega), if_pos rfl, Int.toNat_natCast]
     obtain ⟨W, hW⟩ : ∃ W, W = ((w.alloc (.cells #[.slice (some ⟨g, o, none⟩) 4 c, .slice (some ⟨db, dO, none⟩) 6 d] 94)).alloc (.cells #[.int .i64 2, .int .i64 a, .int .i64 v, .int .i64 i, .int .i64 rc.kind, .int .i64 rc.seq, .int .i64 rc.addr, .int .i64 rc.val] 156)).alloc (.cells #[.slice none 0 0, .slice none 0 0] 94) := ⟨_, rfl⟩
     have hBkW : Bks W (some ⟨g, o, none⟩) s.flash hs := by rw [hW]; exact ((hBk.alloc _).alloc _).alloc _
     have hRW : Row W (some ⟨db, dO, none⟩) (ints s.disk) := by rw [hW]; exact ((hR.alloc _).alloc _).alloc _
     have hAW : Agr (fun y => lo ≤ y ∧ y < hi) w W := by rw [hW]; exact (((Agr.refl _ _).alloc _).alloc _).alloc _
     have b0 : W.cell? ⟨w.heap.size, 0, none⟩ = some (.slice (some ⟨g, o, none⟩) 4 c) := by rw [hW]; exact cell3 (by simp)
     have b1 : W.cell? ⟨w.heap.size, 1, none⟩ = some (.slice (some ⟨db, dO, none⟩) 6 d) := by rw [hW]; exact cell3 (by simp)
     have b2 : W.frozen? ⟨w.heap.size, 0, none⟩ = false := by rw [hW]; exact fz3 (by simp)
     have q0 : W.cell? ⟨w.heap.size + 1 + 1, 0, none⟩ = some (.slice none 0 0) := by rw [hW]; exact ((top3 w _ _ #[.slice none 0 0, .slice none 0 0] 94).at0 (j := 0) rfl).1
     have q1 : W.cell? ⟨w.heap.size + 1 + 1, 1, none⟩ = some (.slice none 0 0) := by rw [hW]; exact ((top3 w _ _ #[.slice none 0 0, .slice none 0 0] 94).at0 (j := 1) rfl).1
     have q2 : W.frozen? ⟨w.heap.size + 1 + 1, 0, none⟩ = false := by rw [hW]; exact ((top3 w _ _ #[.slice none 0 0, .slice none 0 0] 94).at0 (j := 0) rfl).2
     have q3 : W.frozen? ⟨w.heap.size + 1 + 1, 1, none⟩ = false := by rw [hW]; exact ((top3 w _ _ #[.slice none 0 0, .slice none 0 0] 94).at0 (j := 1) rfl).2
     have hWs : W.heap.size = w.heap.size + 1 + 1 + 1 := by rw [hW]; simp
     have HW := Lib.hid hW
     have HSF := Lib.hid hsf
     clear hsf hsd hsv hfin hdj hW
     go_enter Try.func101, Try.ntmps101
     go_wp2_with fail
     rw [← HW.out]
     refine (spec_l2Wipe' s.flash i lo hi g o c torn _ HSF.out.1 HS4.out hi4 hs hBkW hApt).mono ?_
     rintro e w1 ⟨rfl, hBk1, hA1⟩
     have hnot : ∀ j, w.heap.size ≤ j → ¬ fblk (some ⟨g, o, none⟩) hs j := fun j hj h => by have := hApt.fblk h; omega
     replace b0 := (hA1.cell (by omega) (hnot _ (by omega)) 0).trans b0
     replace b1 := (hA1.cell (by omega) (hnot _ (by omega)) 1).trans b1
     replace b2 := (hA1.fz (by omega) (hnot _ (by omega)) 0).trans b2
     replace q0 := (hA1.cell (by omega) (hnot _ (by omega)) 0).trans q0
     replace q1 := (hA1.cell (by omega) (hnot _ (by omega)) 1).trans q1
     replace q2 := (hA1.fz (by omega) (hnot _ (by omega)) 0).trans q2
     replace q3 := (hA1.fz (by omega) (hnot _ (by omega)) 1).trans q3
     have hR1 : Row w1 (some ⟨db, dO, none⟩) (ints s.disk) := hRW.agr hA1 fun y hy hS => by
      rcases hS with h | ⟨j, z, hz, h⟩
      · exact (HDJ.out y hy).2.2.1 h
      · exact (HDJ.out y hy).2.2.2 j z hz h
     have hO1 : OSt w1 lo hi (some ⟨g, o, none⟩) (wipeR s.flash i torn).1 (some ⟨db, dO, none⟩) s.disk := ⟨hs, hBk1, hApt, hR1, HDJ.out⟩
     have hA2 : Agr (fun y => lo ≤ y ∧ y < hi) w w1 := hAW.trans hA1 fun y _ hy => hApt.fblk hy
     have hs1 := hA1.size
     clear hA1 hBk1 hR1 hRW hBkW hAW hnot
     go_wp2
     refine bodyPost_ret (v := .agg #[.slice (some ⟨g, o, none⟩) 4 c, .slice (some ⟨db, dO, none⟩) 6 d]) (by simp [results, Try.results101, go_sem, b0, b1, q0, q1]) rfl ⟨rfl, ?_, ?_⟩
     · rw [h3.out]
       have hbb : Below w.heap.size w1 (((w1.setCell ⟨w.heap.size, 0, none⟩ (.slice (some ⟨g, o, none⟩) 4 c)).setCell ⟨w.heap.size + 1 + 1, 0, none⟩ (.slice (some ⟨g, o, none⟩) 4 c)).setCell ⟨w.heap.size + 1 + 1, 1, none⟩ (.slice (some ⟨db, dO, none⟩) 6 d)) := by (repeat (first | (with_reducible exact Below.refl _ _) | (with_reducible assumption) | (refine Below.setCell ?_ (by first | omega | exact hB.size | exact hb.size | (have h := hB.size; simp; omega) | (have h := hb.size; simp; omega) | (simp; omega) | simp) _) | (refine Below.alloc ?_ (by first | omega | exact hB.size | exact hb.size | (have h := hB.size; simp; omega) | (have h := hb.size; simp; omega) | (simp; omega) | simp) _) | (refine Below.drew ?_)))
       exact hO1.keep fun y _ h2 _ => hbb.block y (by omega)
     · exact ((hA2.setCell (.inl (by simp)) _).setCell (.inl (by show w.heap.size ≤ w.heap.size + 1 + 1; omega)) _).setCell (.inl (by show w.heap.size ≤ w.heap.size + 1 + 1; omega)) _
   · by_cases h4 : k = 3
     · subst h4
       have hb := hx2 (.inr rfl)
       obtain ⟨hb1, hb2⟩ := hb
       obtain ⟨i, rfl⟩ := Int.eq_ofNat_of_zero_le hb1
       have hi4 : i < 4 := by omega
       obtain ⟨g, o, rfl⟩ := hBk.addr (by intro e; have := hsf.1; rw [e] at this; simp at this)
       have h3 : Hid (doStep s ⟨3, a, v, i, rc⟩ torn = { s with flash := (writeR s.flash i rc torn).1 }) := by
        rw [Hid, hfin.out, if_neg (by omega), if_neg (by omega), if_pos rfl, Int.toNat_natCast]
       obtain ⟨W, hW⟩ : ∃ W, W = ((w.alloc (.cells #[.slice (some ⟨g, o, none⟩) 4 c, .slice (some ⟨db, dO, none⟩) 6 d] 94)).alloc (.cells #[.int .i64 3, .int .i64 a, .int .i64 v, .int .i64 i, .int .i64 rc.kind, .int .i64 rc.seq, .int .i64 rc.addr, .int .i64 rc.val] 156)).alloc (.cells #[.slice none 0 0, .slice none 0 0] 94) := ⟨_, rfl⟩
       have hBkW : Bks W (some ⟨g, o, none⟩) s.flash hs := by rw [hW]; exact ((hBk.alloc _).alloc _).alloc _
       have hRW : Row W (some ⟨db, dO, none⟩) (ints s.disk) := by rw [hW]; exact ((hR.alloc _).alloc _).alloc _
       have hAW : Agr (fun y => lo ≤ y ∧ y < hi) w W := by rw [hW]; exact (((Agr.refl _ _).alloc _).alloc _).alloc _
       have b0 : W.cell? ⟨w.heap.size, 0, none⟩ = some (.slice (some ⟨g, o, none⟩) 4 c) := by rw [hW]; exact cell3 (by simp)
       have b1 : W.cell? ⟨w.heap.size, 1, none⟩ = some (.slice (some ⟨db, dO, none⟩) 6 d) := by rw [hW]; exact cell3 (by simp)
       have b2 : W.frozen? ⟨w.heap.size, 0, none⟩ = false := by rw [hW]; exact fz3 (by simp)
       have q0 : W.cell? ⟨w.heap.size + 1 + 1, 0, none⟩ = some (.slice none 0 0) := by rw [hW]; exact ((top3 w _ _ #[.slice none 0 0, .slice none 0 0] 94).at0 (j := 0) rfl).1
       have q1 : W.cell? ⟨w.heap.size + 1 + 1, 1, none⟩ = some (.slice none 0 0) := by rw [hW]; exact ((top3 w _ _ #[.slice none 0 0, .slice none 0 0] 94).at0 (j := 1) rfl).1
       have q2 : W.frozen? ⟨w.heap.size + 1 + 1, 0, none⟩ = false := by rw [hW]; exact ((top3 w _ _ #[.slice none 0 0, .slice none 0 0] 94).at0 (j := 0) rfl).2
       have q3 : W.frozen? ⟨w.heap.size + 1 + 1, 1, none⟩ = false := by rw [hW]; exact ((top3 w _ _ #[.slice none 0 0, .slice none 0 0] 94).at0 (j := 1) rfl).2
       have hWs : W.heap.size = w.heap.size + 1 + 1 + 1 := by rw [hW]; simp
       have HW := Lib.hid hW
       have HSF := Lib.hid hsf
       clear hsf hsd hsv hfin hdj hW
       go_enter Try.func101, Try.ntmps101
       go_wp2_with fail
       rw [← HW.out]
       refine (spec_l2Write' s.flash i lo hi g o c rc torn _ HSF.out.1 HP4.out hi4 hs hBkW hApt).mono ?_
       rintro e w1 ⟨rfl, hBk1, hA1⟩
       have hnot : ∀ j, w.heap.size ≤ j → ¬ fblk (some ⟨g, o, none⟩) hs j := fun j hj h => by have := hApt.fblk h; omega
       replace b0 := (hA1.cell (by omega) (hnot _ (by omega)) 0).trans b0
       replace b1 := (hA1.cell (by omega) (hnot _ (by omega)) 1).trans b1
       replace b2 := (hA1.fz (by omega) (hnot _ (by omega)) 0).trans b2
       replace q0 := (hA1.cell (by omega) (hnot _ (by omega)) 0).trans q0
       replace q1 := (hA1.cell (by omega) (hnot _ (by omega)) 1).trans q1
       replace q2 := (hA1.fz (by omega) (hnot _ (by omega)) 0).trans q2
       replace q3 := (hA1.fz (by omega) (hnot _ (by omega)) 1).trans q3
       have hR1 : Row w1 (some ⟨db, dO, none⟩) (ints s.disk) := hRW.agr hA1 fun y hy hS => by
        rcases hS with h | ⟨j, z, hz, h⟩
        · exact (HDJ.out y hy).2.2.1 h
        · exact (HDJ.out y hy).2.2.2 j z hz h
       have hO1 : OSt w1 lo hi (some ⟨g, o, none⟩) (writeR s.flash i rc torn).1 (some ⟨db, dO, none⟩) s.disk := ⟨hs, hBk1, hApt, hR1, HDJ.out⟩
       have hA2 : Agr (fun y => lo ≤ y ∧ y < hi) w w1 := hAW.trans hA1 fun y _ hy => hApt.fblk hy
       have hs1 := hA1.size
       clear hA1 hBk1 hR1 hRW hBkW hAW hnot
       go_wp2
       refine bodyPost_ret (v := .agg #[.slice (some ⟨g, o, none⟩) 4 c, .slice (some ⟨db, dO, none⟩) 6 d]) (by simp [results, Try.results101, go_sem, b0, b1, q0, q1]) rfl ⟨rfl, ?_, ?_⟩
       · rw [h3.out]
         have hbb : Below w.heap.size w1 (((w1.setCell ⟨w.heap.size, 0, none⟩ (.slice (some ⟨g, o, none⟩) 4 c)).setCell ⟨w.heap.size + 1 + 1, 0, none⟩ (.slice (some ⟨g, o, none⟩) 4 c)).setCell ⟨w.heap.size + 1 + 1, 1, none⟩ (.slice (some ⟨db, dO, none⟩) 6 d)) := by (repeat (first | (with_reducible exact Below.refl _ _) | (with_reducible assumption) | (refine Below.setCell ?_ (by first | omega | exact hB.size | exact hb.size | (have h := hB.size; simp; omega) | (have h := hb.size; simp; omega) | (simp; omega) | simp) _) | (refine Below.alloc ?_ (by first | omega | exact hB.size | exact hb.size | (have h := hB.size; simp; omega) | (have h := hb.size; simp; omega) | (simp; omega) | simp) _) | (refine Below.drew ?_)))
         exact hO1.keep fun y _ h2 _ => hbb.block y (by omega)
       · exact ((hA2.setCell (.inl (by simp)) _).setCell (.inl (by show w.heap.size ≤ w.heap.size + 1 + 1; omega)) _).setCell (.inl (by show w.heap.size ≤ w.heap.size + 1 + 1; omega)) _
     · have h3 : Hid (doStep s ⟨k, a, v, b, rc⟩ torn = s) := by rw [Hid, hfin.out, if_neg h1, if_neg h2, if_neg h4]
       have e1 : (k == 1) = false := by simp [h1]
       have e2 : (k == 2) = false := by simp [h2]
       have e3 : (k == 3) = false := by simp [h4]
       clear hsf hsd hsv hfin hdj
       go_enter Try.func101, Try.ntmps101
       go_wp2
       refine bodyPost_ret (v := .agg #[.slice A 4 c, .slice (some ⟨db, dO, none⟩) 6 d]) (by simp [results, Try.results101, go_sem]) rfl ⟨rfl, ?_, ?_⟩
       · rw [h3.out]; exact ((hOS.out.alloc' _).alloc' _).alloc' _
       · exact (((Agr.refl _ _).alloc _).alloc _).alloc _
end Go.Proofs.Ytclnogfmmekooaa
namespace Go.Proofs.Ytclnogfmmekooaa
set_option linter.unusedVariables false
set_option linter.unusedSimpArgs false
theorem mem_set {α : Type} {l : List α} {i : Nat} {x y : α} (h : y ∈ l.set i x) : y ∈ l ∨ y = x := List.mem_or_eq_of_mem_set h
theorem pg0_ok : pageOk ⟨0, rc0⟩ = true := by decide
theorem torn_ok : pageOk ⟨2, rc0⟩ = true := by decide
theorem put_ok {r : Rc} (h : recOk r = true) : pageOk ⟨1, r⟩ = true := by unfold pageOk; simpa using h
theorem flFine_get {f : List Bk} (h : flFine f) {i : Nat} (hi : i < 4) : bkFine (f.getD i zbk) := by
 have hl : i < f.length := by have := h.1; omega
 rw [List.getD_eq_getElem?_getD, List.getElem?_eq_getElem hl]
 exact h.2 _ (List.getElem_mem hl)
theorem flFine_set {f : List Bk} {b : Bk} (h : flFine f) (hb : bkFine b) (i : Nat) : flFine (f.set i b) :=
 ⟨by rw [List.length_set]; exact h.1, fun c hc => by rcases mem_set hc with hc | rfl; exact h.2 c hc; exact hb⟩
theorem wipeR_fine {f : List Bk} (h : flFine f) {i : Nat} (hi : i < 4) (torn : Bool) : flFine (wipeR f i torn).1 := by
 have hb := flFine_get h hi
 unfold wipeR wipe
 split
 · exact h
 · rename_i hw
   refine flFine_set h ⟨by simp, by have := hb.2.1; show 0 ≤ (f.getD i zbk).worn + 1; omega, by show (f.getD i zbk).worn + 1 ≤ 200; omega, fun p hp => ?_⟩ i
   have := List.eq_of_mem_replicate hp
   subst this
   cases torn
   · exact pg0_ok
   · exact torn_ok
theorem writeR_fine {f : List Bk} (h : flFine f) {i : Nat} (hi : i < 4) {r : Rc} (hr : recOk r = true) (torn : Bool) : flFine (writeR f i r torn).1 := by
 have hb := flFine_get h hi
 unfold writeR
 split
 · exact h
 · have key : bkFine ⟨(f.getD i zbk).pages.set (4 - clean (f.getD i zbk)) (if torn then ⟨2, rc0⟩ else ⟨1, r⟩), (f.getD i zbk).worn⟩ := by
    refine ⟨by show ((f.getD i zbk).pages.set _ _).length = 4; rw [List.length_set]; exact hb.1, hb.2.1, hb.2.2.1, fun p hp => ?_⟩
    rcases mem_set hp with hp | rfl
    · exact hb.2.2.2 p hp
    · cases torn
      · exact put_ok hr
      · exact torn_ok
   exact flFine_set h key i
theorem doStep_fine {s : St} {x : Sp} (hs : stFine s) (hx : spFine x) (torn : Bool) : stFine (doStep s x torn) := by
 obtain ⟨h1, h2, h3⟩ := hs
 obtain ⟨x1, x2, x3⟩ := hx
 unfold doStep
 split
 · rename_i hk
   split
   · exact ⟨h1, h2, h3⟩
   · refine ⟨h1, by rw [List.length_set]; exact h2, fun v hv => ?_⟩
     rcases mem_set hv with hv | rfl
     · exact h3 v hv
     · exact ⟨(x1 hk).2.2.1, (x1 hk).2.2.2⟩
 · split
   · rename_i hk
     have := x2 (.inl hk)
     exact ⟨wipeR_fine h1 (by omega) torn, h2, h3⟩
   · split
     · rename_i hk
       have := x2 (.inr hk)
       exact ⟨writeR_fine h1 (by omega) (x3 hk) torn, h2, h3⟩
     · exact ⟨h1, h2, h3⟩
theorem doAllOf_fine : ∀ {xs : List Sp} {s : St}, stFine s → (∀ x ∈ xs, spFine x) → stFine (doAllOf s xs)
 | [], _, hs, _ => hs
 | x :: xs, s, hs, hx => doAllOf_fine (xs := xs) (s := doStep s x false) (doStep_fine hs (hx x (List.mem_cons_self ..)) false) (fun y hy => hx y (List.mem_cons_of_mem _ hy))
theorem doTo_fine {s : St} {xs : List Sp} (hs : stFine s) (hx : ∀ x ∈ xs, spFine x) (cut : Int) (torn : Bool) : stFine (doTo s xs cut torn) := by
 have h1 := doAllOf_fine (xs := xs.take cut.toNat) hs (fun x h => hx x (List.mem_of_mem_take h))
 unfold doTo
 split
 · rename_i h
   refine doStep_fine h1 ?_ true
   have hl : cut.toNat < xs.length := by omega
   rw [List.getD_eq_getElem?_getD, List.getElem?_eq_getElem hl]
   exact hx _ (List.getElem_mem hl)
 · exact h1
theorem rec_of_written {p : Pg} (h : pageOk p = true) (h1 : p.state = 1) : recOk p.rc = true := by unfold pageOk at h; rw [if_pos h1] at h; exact h
theorem recOk_addr {r : Rc} (h : recOk r = true) : 1 ≤ r.addr ∧ r.addr ≤ 6 ∧ 0 ≤ r.val ∧ r.val ≤ 9 ∧ 1 ≤ r.seq ∧ r.seq ≤ 600 := by
 unfold recOk addrB valB at h
 simp at h
 omega
theorem told_fine {f : List Bk} {p : Pg} (hp : pageOk p = true) (h : told f p = true) : spFine (tellP p) := by
 unfold told live at h
 simp at h
 have := recOk_addr (rec_of_written hp h.1.1)
 exact ⟨fun _ => by unfold tellP; exact ⟨this.1, this.2.1, this.2.2.1, this.2.2.2.1⟩, fun h => by unfold tellP at h; simp at h, fun h => by unfold tellP at h; simp at h⟩
theorem openGo_range {f : List Bk} (h0 : 0 < f.length) : ∀ (r : List Bk) (i : Nat) (out : Int), i + r.length = f.length → -1 ≤ out → out < f.length → 0 ≤ (openGo f i out r).1 ∧ (openGo f i out r).1 < f.length
 | [], i, out, _, h1, h2 => by unfold openGo; dsimp only; omega
 | b :: r, i, out, hi, h1, h2 => by
   rw [List.length_cons] at hi
   unfold openGo
   split
   · dsimp only; omega
   · split
     · exact openGo_range h0 r _ _ (by omega) (by omega) (by omega)
     · exact openGo_range h0 r _ _ (by omega) h1 h2
theorem openB_range {f : List Bk} (h : f.length = 4) : 0 ≤ (openB f).1 ∧ (openB f).1 < 4 := by
 have := openGo_range (f := f) (by omega) f 0 (-1) (by omega) (by omega) (by omega)
 rw [h] at this
 exact this
theorem oldGo_lt {f : List Bk} : ∀ (r : List Bk) (i out : Nat), i + r.length = f.length → out < f.length → oldGo f i out r < f.length
 | [], _, _, _, h => h
 | b :: r, i, out, hi, h => by
   rw [List.length_cons] at hi
   unfold oldGo
   split
   · exact oldGo_lt r _ _ (by omega) (by omega)
   · exact oldGo_lt r _ _ (by omega) h
theorem old_lt4 {f : List Bk} (h : f.length = 4) : old f < 4 := by
 have := oldGo_lt (f := f) (f.drop 1) 1 0 (by simp; omega) (by omega)
 rw [h] at this; exact this
theorem room_fine {f : List Bk} (h : flFine f) : (∀ x ∈ (room f).1, spFine x) ∧ 0 ≤ (room f).2.1 ∧ (room f).2.1 < 4 := by
 have h1 := openB_range h.1
 have h2 := old_lt4 h.1
 have hb := flFine_get h h2
 unfold room
 split
 · exact ⟨fun x hx => absurd hx (by simp), h1.1, h1.2⟩
 · refine ⟨fun x hx => ?_, by dsimp only; omega, by dsimp only; omega⟩
   rcases List.mem_append.1 hx with hx | hx
   · unfold tells at hx
     obtain ⟨p, hp, rfl⟩ := List.mem_map.1 hx
     obtain ⟨hp1, hp2⟩ := List.mem_filter.1 hp
     exact told_fine (hb.2.2.2 p hp1) hp2
   · rw [List.mem_singleton] at hx
     subst hx
     exact ⟨fun h => by simp at h, fun _ => by dsimp only; omega, fun h => by simp at h⟩
theorem wr_fine {f : List Bk} (h : flFine f) (k a v : Int) : ∀ x ∈ wr f k a v, spFine x := by
 intro x hx
 obtain ⟨h1, h2, h3⟩ := room_fine h
 unfold wr at hx
 split at hx
 · simp at hx
 · rename_i hn
   rcases List.mem_append.1 hx with hx | hx
   · exact h1 x hx
   · rw [List.mem_singleton] at hx
     subst hx
     refine ⟨fun h => by simp at h, fun _ => ⟨h2, h3⟩, fun _ => ?_⟩
     dsimp only
     rcases Bool.eq_false_or_eq_true (recOk ⟨k, next f, a, v⟩) with h | h
     · exact h
     · exact absurd (.inr h) hn
theorem lastPs_inv {a : Int} : ∀ {ps : List Pg} {o : Rc}, (∀ p ∈ ps, pageOk p = true) → (o = rc0 ∨ (recOk o = true ∧ o.addr = a)) → (lastPs a o ps = rc0 ∨ (recOk (lastPs a o ps) = true ∧ (lastPs a o ps).addr = a))
 | [], _, _, h => h
 | p :: ps, o, hp, h => by
   refine lastPs_inv (ps := ps) (o := lastStep a o p) (fun q hq => hp q (List.mem_cons_of_mem _ hq)) ?_
   unfold lastStep
   split
   · rename_i hh
     exact .inr ⟨rec_of_written (hp p (List.mem_cons_self ..)) hh.1, hh.2.1⟩
   · exact h
theorem last_inv {f : List Bk} (h : ∀ b ∈ f, ∀ p ∈ b.pages, pageOk p = true) (a : Int) : last f a = rc0 ∨ (recOk (last f a) = true ∧ (last f a).addr = a) := by
 have key : ∀ (g : List Bk) (o : Rc), (∀ b ∈ g, ∀ p ∈ b.pages, pageOk p = true) → (o = rc0 ∨ (recOk o = true ∧ o.addr = a)) → (g.foldl (fun o b => lastPs a o b.pages) o = rc0 ∨ (recOk (g.foldl (fun o b => lastPs a o b.pages) o) = true ∧ (g.foldl (fun o b => lastPs a o b.pages) o).addr = a)) := by
  intro g
  induction g with
  | nil => intro o _ h; exact h
  | cons b g ih => intro o hg h; exact ih _ (fun c hc => hg c (List.mem_cons_of_mem _ hc)) (lastPs_inv (hg b (List.mem_cons_self ..)) h)
 exact key f rc0 h (.inl rfl)
theorem last_found {f : List Bk} (h : ∀ b ∈ f, ∀ p ∈ b.pages, pageOk p = true) {a : Int} (h0 : 0 < (last f a).seq) : recOk (last f a) = true ∧ (last f a).addr = a := by
 rcases last_inv h a with h1 | h1
 · rw [h1] at h0; exact absurd h0 (by decide)
 · exact h1
theorem disk_get {xs : List Int} (h : xs.length = 6) (hv : ∀ v ∈ xs, 0 ≤ v ∧ v ≤ 9) {i : Nat} (hi : i < 6) : 0 ≤ xs.getD i 0 ∧ xs.getD i 0 ≤ 9 := by
 have hl : i < xs.length := by omega
 rw [List.getD_eq_getElem?_getD, List.getElem?_eq_getElem hl]
 exact hv _ (List.getElem_mem hl)
theorem flFine_pages {f : List Bk} (h : flFine f) : ∀ b ∈ f, ∀ p ∈ b.pages, pageOk p = true := fun b hb => (h.2 b hb).2.2.2
theorem readV_fine {s : St} (h : stFine s) {a : Int} (h1 : 1 ≤ a) (h2 : a ≤ 6) : 0 ≤ readV s a ∧ readV s a ≤ 9 := by
 unfold readV
 split
 · rename_i h0
   have := recOk_addr (last_found (flFine_pages h.1) h0).1
   omega
 · exact disk_get h.2.1 h.2.2 (by omega)
theorem flush_fine {s : St} (h : stFine s) (a : Int) : ∀ x ∈ flush s a, spFine x := by
 intro x hx
 unfold flush at hx
 split at hx
 · simp at hx
 · rename_i hn
   split at hx
   · simp at hx
   · have ha : addrB a = true := by
      rcases Bool.eq_false_or_eq_true (addrB a) with h | h
      · exact h
      · exact absurd (.inl h) hn
     have ha2 : 1 ≤ a ∧ a ≤ 6 := by unfold addrB at ha; simpa using ha
     rcases List.mem_cons.1 hx with rfl | hx
     · have := readV_fine h ha2.1 ha2.2
       exact ⟨fun _ => ⟨ha2.1, ha2.2, this.1, this.2⟩, fun h => by simp at h, fun h => by simp at h⟩
     · exact wr_fine h.1 _ _ _ x hx
theorem fill_fine {s : St} (h : stFine s) (a : Int) : ∀ x ∈ fill s a, spFine x := by
 intro x hx
 unfold fill at hx
 split at hx
 · simp at hx
 · exact wr_fine h.1 _ _ _ x hx
theorem stepsOf_fine {s : St} (h : stFine s) (e : Ev) : ∀ x ∈ stepsOf s e, spFine x := by
 intro x hx
 unfold stepsOf at hx
 split at hx
 · exact wr_fine h.1 _ _ _ x hx
 · split at hx
   · exact flush_fine h _ x hx
   · split at hx
     · exact fill_fine h _ x hx
     · simp at hx
theorem doFlush_fine {s : St} (h : stFine s) (a : Int) : stFine (doFlush s a) := doTo_fine h (flush_fine h a) _ _
theorem doEvery_fine {s : St} (h : stFine s) : stFine (doEvery s) := by
 have key : ∀ (l : List Int) (s : St), stFine s → stFine (l.foldl doFlush s) := by
  intro l
  induction l with
  | nil => intro s h; exact h
  | cons a l ih => intro s h; exact ih _ (doFlush_fine h a)
 exact key _ s h
theorem doEv_fine {s : St} (h : stFine s) (e : Ev) : stFine (doEv s e) := by
 unfold doEv
 split
 · exact doEvery_fine h
 · split
   · exact h
   · exact doTo_fine h (stepsOf_fine h e) _ _
theorem pageOk_seq {p : Pg} (h : pageOk p = true) : p.rc.seq ≤ 600 := by
 unfold pageOk at h
 split at h
 · exact (recOk_addr h).2.2.2.2.2
 · split at h
   · have : p.rc = rc0 := by simpa using h
     rw [this]; decide
   · cases h
theorem mostPs_le : ∀ {ps : List Pg} {n : Int}, (∀ p ∈ ps, pageOk p = true) → n ≤ 600 → mostPs n ps ≤ 600
 | [], _, _, h => h
 | p :: ps, n, hp, h => mostPs_le (ps := ps) (n := max n p.rc.seq) (fun q hq => hp q (List.mem_cons_of_mem _ hq)) (by have := pageOk_seq (hp p (List.mem_cons_self ..)); omega)
theorem most_small {f : List Bk} (h : flFine f) : ∀ b ∈ f, most b < 1000000000000 := fun b hb => by
 have : most b ≤ 600 := mostPs_le (flFine_pages h b hb) (by omega)
 omega
end Go.Proofs.Ytclnogfmmekooaa
namespace Go.Proofs.Ytclnogfmmekooaa
set_option linter.unusedVariables false
set_option linter.unusedSimpArgs false
open Go.RowKit Go.Maps
set_option maxHeartbeats 400000
theorem Row.sp {w : World} {b o k : Nat} {xs : List Sp} {x : Sp} (h : Row w (some ⟨b, o, none⟩) (sps xs)) (hk : xs[k]? = some x) :
 w.cell? ⟨b, o + k * 8, none⟩ = some (.int .i64 x.kind) ∧ w.cell? ⟨b, o + k * 8 + 1, none⟩ = some (.int .i64 x.addr) ∧ w.cell? ⟨b, o + k * 8 + 2, none⟩ = some (.int .i64 x.val) ∧ w.cell? ⟨b, o + k * 8 + 3, none⟩ = some (.int .i64 x.block) ∧
 w.cell? ⟨b, o + k * 8 + 4, none⟩ = some (.int .i64 x.rc.kind) ∧ w.cell? ⟨b, o + k * 8 + 5, none⟩ = some (.int .i64 x.rc.seq) ∧ w.cell? ⟨b, o + k * 8 + 6, none⟩ = some (.int .i64 x.rc.addr) ∧ w.cell? ⟨b, o + k * 8 + 7, none⟩ = some (.int .i64 x.rc.val) := by
 have hlt := (List.getElem?_eq_some_iff.1 hk).1
 obtain ⟨b', o', he, hc⟩ := h (by intro e; have := sps_len xs; rw [e] at this; simp at this; omega)
 cases he
 have hg : ∀ j u, x.vs[j]? = some u → j < 8 → w.cell? ⟨b, o + (k * 8 + j), none⟩ = some u := fun j u hj hl => (hc (k * 8 + j) u (by rw [sps, flat_get _ 8 (fun _ => rfl) xs k j x hk hl]; exact hj)).1
 exact ⟨hg 0 _ rfl (by omega), hg 1 _ rfl (by omega), hg 2 _ rfl (by omega), hg 3 _ rfl (by omega), hg 4 _ rfl (by omega), hg 5 _ rfl (by omega), hg 6 _ rfl (by omega), hg 7 _ rfl (by omega)⟩
theorem doAllOf_snoc (s : St) (xs : List Sp) (x : Sp) : doAllOf s (xs ++ [x]) = doStep (doAllOf s xs) x false := by
 unfold doAllOf; rw [List.foldl_append]; rfl
theorem doAllOf_take {xs : List Sp} {k : Nat} {x : Sp} (s : St) (h : xs[k]? = some x) : doAllOf s (xs.take (k + 1)) = doStep (doAllOf s (xs.take k)) x false := by
 rw [List.take_add_one, h]; exact doAllOf_snoc _ _ _
theorem OSt.drew {w : World} {lo hi : Nat} {A D : Option Addr} {f : List Bk} {xs : List Int} (h : OSt w lo hi A f D xs) : OSt w.drew lo hi A f D xs := h.keep fun _ _ _ _ => rfl
set_option maxHeartbeats 4000000 in
set_option maxRecDepth 100000 in
theorem spec_l12To (s : St) (xs : List Sp) (cut : Int) (torn : Bool) (A D V : Option Addr) (c d cs lo hi : Nat) (w : World) (hs : stFine s) (hx : ∀ x ∈ xs, spFine x) (hl : xs.length < 1000000000000) (hhi : hi ≤ w.heap.size) (hO : OSt w lo hi A s.flash D s.disk) (hX : Row w V (sps xs)) (hV : ∀ b, blk V b → ¬ (lo ≤ b ∧ b < hi)) :
 Calls Try.prog 98 #[.agg #[.slice A 4 c, .slice D 6 d], .slice V xs.length cs, .int .i64 cut, .bool torn] w fun r w' =>
  r = .returned (.agg #[.slice A 4 c, .slice D 6 d]) ∧ OSt w' lo hi A (doTo s xs cut torn).flash D (doTo s xs cut torn).disk ∧ Agr (fun b => lo ≤ b ∧ b < hi) w w' := by
 have HX := Lib.hid hx
 have HS := Lib.hid hs
 have HV := Lib.hid hV
 clear hx hs hV
 go_enter Try.func98, Try.ntmps98
 go_wp2
 go_loopw [9] (fun i wr => ∃ k : Nat, k ≤ xs.length ∧ i = .int .i64 k ∧ (k : Int) ≤ max cut 0 ∧ OSt wr lo hi A (doAllOf s (xs.take k)).flash D (doAllOf s (xs.take k)).disk ∧ Agr (fun b => lo ≤ b ∧ b < hi) w wr ∧ w.heap.size + 1 < wr.heap.size ∧
  (wr.cell? ⟨w.heap.size, 0, none⟩ = some (.slice A 4 c) ∧ wr.cell? ⟨w.heap.size, 1, none⟩ = some (.slice D 6 d) ∧ wr.frozen? ⟨w.heap.size, 0, none⟩ = false ∧ wr.frozen? ⟨w.heap.size, 1, none⟩ = false) ∧
  (∃ u0 u1, wr.cell? ⟨w.heap.size + 1, 0, none⟩ = some u0 ∧ wr.cell? ⟨w.heap.size + 1, 1, none⟩ = some u1 ∧ wr.frozen? ⟨w.heap.size + 1, 0, none⟩ = false ∧ wr.frozen? ⟨w.heap.size + 1, 1, none⟩ = false)) (fun i _ => xs.length - (intOf i).toNat)
 case atStart =>
  have hN := Row.new (w.alloc (.cells #[.slice A 4 c, .slice D 6 d] 94)) #[.slice none 0 0, .slice none 0 0] 94
  simp only [World.size_alloc] at hN
  have hM := (Row.new w #[.slice A 4 c, .slice D 6 d] 94).alloc (.cells #[.slice none 0 0, .slice none 0 0] 94)
  exact ⟨0, by omega, rfl, by omega, (hO.alloc' _).alloc' _, ((Agr.refl _ _).alloc _).alloc _, by simp, ⟨(hM.at0 (j := 0) rfl).1, (hM.at0 (j := 1) rfl).1, (hM.at0 (j := 0) rfl).2, (hM.at0 (j := 1) rfl).2⟩, ⟨_, _, (hN.at0 (j := 0) rfl).1, (hN.at0 (j := 1) rfl).1, (hN.at0 (j := 0) rfl).2, (hN.at0 (j := 1) rfl).2⟩⟩
 case round =>
  obtain ⟨k, hk, rfl, hkc, hOk, hA, hsz, ⟨b0, b1, b2, b3⟩, ⟨u0, u1, q0, q1, q2, q3⟩⟩ := hrel
  by_cases hgo : k < xs.length ∧ (k : Int) < cut
  · obtain ⟨hlt, hct⟩ := hgo
    obtain ⟨x, hxk⟩ := get_some hlt
    have hxf := HX.out x (List.mem_of_getElem? hxk)
    have hst := doAllOf_fine (xs := xs.take k) HS.out (fun y hy => HX.out y (List.mem_of_mem_take hy))
    have hXk := hX.agr hA HV.out
    obtain ⟨vb, vo, rfl⟩ := hXk.addr (by intro e; have := sps_len xs; rw [e] at this; simp at this; omega)
    obtain ⟨c0, c1, c2, c3, c4, c5, c6, c7⟩ := hXk.sp hxk
    have hst2 := doAllOf_take s hxk
    have HT := Lib.hid hst2
    have hk1 : (k : Int) < xs.length := by omega
    clear hst2 hxk hXk
    go_wp2
    have hle : hi ≤ wr.drew.heap.size := by show hi ≤ wr.heap.size; omega
    have hn0 : ¬ (lo ≤ w.heap.size ∧ w.heap.size < hi) := by omega
    have hl0 : w.heap.size < wr.drew.heap.size := by show w.heap.size < wr.heap.size; omega
    have hOd := hOk.drew
    have g0 : wr.drew.cell? ⟨w.heap.size, 0, none⟩ = some (.slice A 4 c) := b0
    have g1 : wr.drew.cell? ⟨w.heap.size, 1, none⟩ = some (.slice D 6 d) := b1
    have g2 : wr.drew.frozen? ⟨w.heap.size, 0, none⟩ = false := b2
    have g3 : wr.drew.frozen? ⟨w.heap.size, 1, none⟩ = false := b3
    go_region_with (first | (go_at_call 101; refine (spec_l12Do (doAllOf s (xs.take k)) x false A D c d lo hi _ hst hxf hle hOd).mono ?_; rintro e w1 ⟨rfl, hO1, hA1⟩; have d0 := (hA1.cell hl0 hn0 0).trans g0; have d1 := (hA1.cell hl0 hn0 1).trans g1; have d2 := (hA1.fz hl0 hn0 0).trans g2; have d3 := (hA1.fz hl0 hn0 1).trans g3))
    all_goals
     have hn1 : ¬ (lo ≤ w.heap.size + 1 ∧ w.heap.size + 1 < hi) := by omega
     have hl1 : w.heap.size + 1 < wr.drew.heap.size := hsz
     have r0 := (hA1.cell hl1 hn1 0).trans (show wr.drew.cell? ⟨w.heap.size + 1, 0, none⟩ = some u0 from q0)
     have r1 := (hA1.cell hl1 hn1 1).trans (show wr.drew.cell? ⟨w.heap.size + 1, 1, none⟩ = some u1 from q1)
     have r2 := (hA1.fz hl1 hn1 0).trans (show wr.drew.frozen? ⟨w.heap.size + 1, 0, none⟩ = false from q2)
     have r3 := (hA1.fz hl1 hn1 1).trans (show wr.drew.frozen? ⟨w.heap.size + 1, 1, none⟩ = false from q3)
     have hA2 := hA.drew.trans hA1 (fun b _ hb => hb)
     have hs1 : wr.heap.size ≤ w1.heap.size := hA1.size
     rw [← HT.out] at hO1
     have hW : Wrote w1 ((w1.setCell ⟨w.heap.size, 0, none⟩ (.slice A 4 c)).setCell ⟨w.heap.size, 1, none⟩ (.slice D 6 d)) w.heap.size 0 [.slice A 4 c, .slice D 6 d] := wrote_setRow w.heap.size [.slice A 4 c, .slice D 6 d] 0 w1 (fun j hj => by
      match j, hj with
      | 0, _ => exact ⟨_, d0⟩
      | 1, _ => exact ⟨_, d1⟩)
     have hO3 : OSt _ lo hi A (doAllOf s (xs.take (k + 1))).flash D (doAllOf s (xs.take (k + 1))).disk := hO1.keep fun b h1 h2 _ => hW.block b (by omega)
     have hA3 := hA2.trans (S' := (· = w.heap.size)) hW.agr (fun b hb e => by omega)
     have t0 := hW.new_ 0 _ rfl
     have t1 := hW.new_ 1 _ rfl
     have t2 := (hW.frozen ⟨w.heap.size, 0, none⟩).trans d2
     have t3 := (hW.frozen ⟨w.heap.size, 1, none⟩).trans d3
     have s0 := (hW.agr.cell (b := w.heap.size + 1) (by omega) (by omega) 0).trans r0
     have s1 := (hW.agr.cell (b := w.heap.size + 1) (by omega) (by omega) 1).trans r1
     have s2 := (hW.frozen ⟨w.heap.size + 1, 0, none⟩).trans r2
     have s3 := (hW.frozen ⟨w.heap.size + 1, 1, none⟩).trans r3
     have hss := hW.size
     clear hW
     go_wp2
     go_roundw
     (case rel => exact ⟨k + 1, by omega, by go_num, by omega, hO3, hA3, by omega, ⟨t0, t1, t2, t3⟩, ⟨u0, u1, s0, s1, s2, s3⟩⟩)
     (case measure => simp [intOf]; omega)
  · have hT : Hid (doAllOf s (xs.take k) = doAllOf s (xs.take cut.toNat)) := by
     rw [Hid]
     congr 1
     by_cases h : k < xs.length
     · have : ¬ (k : Int) < cut := fun h2 => hgo ⟨h, h2⟩
       rw [show cut.toNat = k by omega]
     · rw [List.take_of_length_le (by omega)]
       by_cases h2 : xs.length ≤ cut.toNat
       · rw [List.take_of_length_le h2]
       · rw [show cut.toNat = xs.length by omega, List.take_of_length_le (Nat.le_refl _)]
    have hgd : (k : Int) < xs.length → ¬ (k : Int) < cut := fun h h2 => hgo ⟨by omega, h2⟩
    rw [hT.out] at hOk
    clear hgo
    cases torn
    · have h3 : Hid (doTo s xs cut false = doAllOf s (xs.take cut.toNat)) := by unfold Hid doTo; rw [if_neg (by simp)]
      by_cases hlt : (k : Int) < xs.length
      · have hct := hgd hlt
        go_wp2
        refine bodyPost_ret (v := .agg #[.slice A 4 c, .slice D 6 d]) (by simp [results, Try.results98, go_sem, b0, b1, q0, q1]) rfl ⟨rfl, ?_, ?_⟩
        · rw [h3.out]
          have hbb : Below w.heap.size wr ((wr.setCell ⟨w.heap.size + 1, 0, none⟩ (.slice A 4 c)).setCell ⟨w.heap.size + 1, 1, none⟩ (.slice D 6 d)) := by (repeat (first | (with_reducible exact Below.refl _ _) | (with_reducible assumption) | (refine Below.setCell ?_ (by first | omega | exact hB.size | exact hb.size | (have h := hB.size; simp; omega) | (have h := hb.size; simp; omega) | (simp; omega) | simp) _) | (refine Below.alloc ?_ (by first | omega | exact hB.size | exact hb.size | (have h := hB.size; simp; omega) | (have h := hb.size; simp; omega) | (simp; omega) | simp) _) | (refine Below.drew ?_)))
          exact hOk.keep fun y _ h2 _ => hbb.block y (by omega)
        · exact (hA.setCell (.inl (by show w.heap.size ≤ w.heap.size + 1; omega)) _).setCell (.inl (by show w.heap.size ≤ w.heap.size + 1; omega)) _
      · go_wp2
        refine bodyPost_ret (v := .agg #[.slice A 4 c, .slice D 6 d]) (by simp [results, Try.results98, go_sem, b0, b1, q0, q1]) rfl ⟨rfl, ?_, ?_⟩
        · rw [h3.out]
          have hbb : Below w.heap.size wr ((wr.setCell ⟨w.heap.size + 1, 0, none⟩ (.slice A 4 c)).setCell ⟨w.heap.size + 1, 1, none⟩ (.slice D 6 d)) := by (repeat (first | (with_reducible exact Below.refl _ _) | (with_reducible assumption) | (refine Below.setCell ?_ (by first | omega | exact hB.size | exact hb.size | (have h := hB.size; simp; omega) | (have h := hb.size; simp; omega) | (simp; omega) | simp) _) | (refine Below.alloc ?_ (by first | omega | exact hB.size | exact hb.size | (have h := hB.size; simp; omega) | (have h := hb.size; simp; omega) | (simp; omega) | simp) _) | (refine Below.drew ?_)))
          exact hOk.keep fun y _ h2 _ => hbb.block y (by omega)
        · exact (hA.setCell (.inl (by show w.heap.size ≤ w.heap.size + 1; omega)) _).setCell (.inl (by show w.heap.size ≤ w.heap.size + 1; omega)) _
    · have h3n : ¬ (0 ≤ cut ∧ cut < xs.length) → Hid (doTo s xs cut true = doAllOf s (xs.take cut.toNat)) := by intro h; unfold Hid doTo; rw [if_neg (by simpa using h)]
      have h3p : (0 ≤ cut ∧ cut < xs.length) → Hid (doTo s xs cut true = doStep (doAllOf s (xs.take cut.toNat)) (xs.getD cut.toNat ⟨0, 0, 0, 0, rc0⟩) true) := by intro h; unfold Hid doTo; rw [if_pos (by simpa using h)]
      by_cases hlt : (k : Int) < xs.length
      · have hct := hgd hlt
        by_cases h0 : 0 ≤ cut
        · obtain rfl : cut = k := by omega
          have hst := doAllOf_fine (xs := xs.take (k : Int).toNat) HS.out (fun y hy => HX.out y (List.mem_of_mem_take hy))
          obtain ⟨x, hxk⟩ := get_some (l := xs) (k := k) (by omega)
          have hxf := HX.out x (List.mem_of_getElem? hxk)
          have hXk := hX.agr hA HV.out
          obtain ⟨vb, vo, rfl⟩ := hXk.addr (by intro e; have := sps_len xs; rw [e] at this; simp at this; omega)
          obtain ⟨c0, c1, c2, c3, c4, c5, c6, c7⟩ := hXk.sp hxk
          have h3 : Hid (doTo s xs k true = doStep (doAllOf s (xs.take (k : Int).toNat)) x true) := by
           rw [Hid, (h3p ⟨by omega, by omega⟩).out, Int.toNat_natCast, List.getD_eq_getElem?_getD, hxk]; rfl
          have hk0 : (0 : Int) ≤ k := by omega
          have hk1 : (k : Int) ≤ xs.length - 1 := by omega
          clear h3p h3n hxk hXk hgd
          go_wp2_with fail
          refine (spec_l6In _ _ _ _).mono ?_
          rintro e w1 ⟨rfl, rfl⟩
          rw [show (decide ((0 : Int) ≤ k) && decide ((k : Int) ≤ xs.length - 1)) = true from by simp [hk0, hk1]]
          go_wp2
          have hle : hi ≤ wr.drew.heap.size := by show hi ≤ wr.heap.size; omega
          have hn0 : ¬ (lo ≤ w.heap.size ∧ w.heap.size < hi) := by omega
          have hl0 : w.heap.size < wr.drew.heap.size := by show w.heap.size < wr.heap.size; omega
          have hOd := hOk.drew
          have g0 : wr.drew.cell? ⟨w.heap.size, 0, none⟩ = some (.slice A 4 c) := b0
          have g1 : wr.drew.cell? ⟨w.heap.size, 1, none⟩ = some (.slice D 6 d) := b1
          have g2 : wr.drew.frozen? ⟨w.heap.size, 0, none⟩ = false := b2
          have g3 : wr.drew.frozen? ⟨w.heap.size, 1, none⟩ = false := b3
          go_region_with (first | (go_at_call 101; refine (spec_l12Do (doAllOf s (xs.take (k : Int).toNat)) x true A D c d lo hi _ hst hxf hle hOd).mono ?_; rintro e w1 ⟨rfl, hO1, hA1⟩; have d0 := (hA1.cell hl0 hn0 0).trans g0; have d1 := (hA1.cell hl0 hn0 1).trans g1; have d2 := (hA1.fz hl0 hn0 0).trans g2; have d3 := (hA1.fz hl0 hn0 1).trans g3))
          all_goals
           have hn1 : ¬ (lo ≤ w.heap.size + 1 ∧ w.heap.size + 1 < hi) := by omega
           have hl1 : w.heap.size + 1 < wr.drew.heap.size := hsz
           have r0 := (hA1.cell hl1 hn1 0).trans (show wr.drew.cell? ⟨w.heap.size + 1, 0, none⟩ = some u0 from q0)
           have r1 := (hA1.cell hl1 hn1 1).trans (show wr.drew.cell? ⟨w.heap.size + 1, 1, none⟩ = some u1 from q1)
           have r2 := (hA1.fz hl1 hn1 0).trans (show wr.drew.frozen? ⟨w.heap.size + 1, 0, none⟩ = false from q2)
           have r3 := (hA1.fz hl1 hn1 1).trans (show wr.drew.frozen? ⟨w.heap.size + 1, 1, none⟩ = false from q3)
           have hA2 := hA.drew.trans hA1 (fun b _ hb => hb)
           have hs1 : wr.heap.size ≤ w1.heap.size := hA1.size
           have hW : Wrote w1 ((w1.setCell ⟨w.heap.size, 0, none⟩ (.slice A 4 c)).setCell ⟨w.heap.size, 1, none⟩ (.slice D 6 d)) w.heap.size 0 [.slice A 4 c, .slice D 6 d] := wrote_setRow w.heap.size [.slice A 4 c, .slice D 6 d] 0 w1 (fun j hj => by
            match j, hj with
            | 0, _ => exact ⟨_, d0⟩
            | 1, _ => exact ⟨_, d1⟩)
           have hO3 : OSt _ lo hi A (doStep (doAllOf s (xs.take (k : Int).toNat)) x true).flash D (doStep (doAllOf s (xs.take (k : Int).toNat)) x true).disk := hO1.keep fun b h1 h2 _ => hW.block b (by omega)
           have hA3 := hA2.trans (S' := (· = w.heap.size)) hW.agr (fun b hb e => by omega)
           have t0 := hW.new_ 0 _ rfl
           have t1 := hW.new_ 1 _ rfl
           have s0 := (hW.agr.cell (b := w.heap.size + 1) (by omega) (by omega) 0).trans r0
           have s1 := (hW.agr.cell (b := w.heap.size + 1) (by omega) (by omega) 1).trans r1
           have s2 := (hW.frozen ⟨w.heap.size + 1, 0, none⟩).trans r2
           have s3 := (hW.frozen ⟨w.heap.size + 1, 1, none⟩).trans r3
           have hss := hW.size
           clear hW
           go_wp2
           refine bodyPost_ret (v := .agg #[.slice A 4 c, .slice D 6 d]) (by simp [results, Try.results98, go_sem, t0, t1, s0, s1]) rfl ⟨rfl, ?_, ?_⟩
           · rw [h3.out]
             refine hO3.keep fun y _ h2 _ => ?_
             rw [Below.heap_setCell _ _ _ _ (by show y ≠ w.heap.size + 1; omega), Below.heap_setCell _ _ _ _ (by show y ≠ w.heap.size + 1; omega)]
           · exact (hA3.setCell (.inl (by show w.heap.size ≤ w.heap.size + 1; omega)) _).setCell (.inl (by show w.heap.size ≤ w.heap.size + 1; omega)) _
        · have h3 := h3n (by omega)
          have e0 : decide (0 ≤ cut) = false := by simpa using h0
          go_wp2_with fail
          refine (spec_l6In _ _ _ _).mono ?_
          rintro e w1 ⟨rfl, rfl⟩
          rw [e0, Bool.false_and]
          go_wp2
          refine bodyPost_ret (v := .agg #[.slice A 4 c, .slice D 6 d]) (by simp [results, Try.results98, go_sem, b0, b1, q0, q1]) rfl ⟨rfl, ?_, ?_⟩
          · rw [h3.out]
            have hbb : Below w.heap.size wr ((wr.setCell ⟨w.heap.size + 1, 0, none⟩ (.slice A 4 c)).setCell ⟨w.heap.size + 1, 1, none⟩ (.slice D 6 d)) := by (repeat (first | (with_reducible exact Below.refl _ _) | (with_reducible assumption) | (refine Below.setCell ?_ (by first | omega | exact hB.size | exact hb.size | (have h := hB.size; simp; omega) | (have h := hb.size; simp; omega) | (simp; omega) | simp) _) | (refine Below.alloc ?_ (by first | omega | exact hB.size | exact hb.size | (have h := hB.size; simp; omega) | (have h := hb.size; simp; omega) | (simp; omega) | simp) _) | (refine Below.drew ?_)))
            exact hOk.keep fun y _ h2 _ => hbb.block y (by omega)
          · exact (hA.setCell (.inl (by show w.heap.size ≤ w.heap.size + 1; omega)) _).setCell (.inl (by show w.heap.size ≤ w.heap.size + 1; omega)) _
      · have h3 := h3n (by omega)
        have e0 : (decide (0 ≤ cut) && decide (cut ≤ (xs.length : Int) - 1)) = false := by simp; omega
        go_wp2_with fail
        refine (spec_l6In _ _ _ _).mono ?_
        rintro e w1 ⟨rfl, rfl⟩
        rw [e0]
        go_wp2
        refine bodyPost_ret (v := .agg #[.slice A 4 c, .slice D 6 d]) (by simp [results, Try.results98, go_sem, b0, b1, q0, q1]) rfl ⟨rfl, ?_, ?_⟩
        · rw [h3.out]
          have hbb : Below w.heap.size wr ((wr.setCell ⟨w.heap.size + 1, 0, none⟩ (.slice A 4 c)).setCell ⟨w.heap.size + 1, 1, none⟩ (.slice D 6 d)) := by (repeat (first | (with_reducible exact Below.refl _ _) | (with_reducible assumption) | (refine Below.setCell ?_ (by first | omega | exact hB.size | exact hb.size | (have h := hB.size; simp; omega) | (have h := hb.size; simp; omega) | (simp; omega) | simp) _) | (refine Below.alloc ?_ (by first | omega | exact hB.size | exact hb.size | (have h := hB.size; simp; omega) | (have h := hb.size; simp; omega) | (simp; omega) | simp) _) | (refine Below.drew ?_)))
          exact hOk.keep fun y _ h2 _ => hbb.block y (by omega)
        · exact (hA.setCell (.inl (by show w.heap.size ≤ w.heap.size + 1; omega)) _).setCell (.inl (by show w.heap.size ≤ w.heap.size + 1; omega)) _
end Go.Proofs.Ytclnogfmmekooaa
namespace Go.Proofs.Ytclnogfmmekooaa
set_option linter.unusedVariables false
set_option linter.unusedSimpArgs false
open Go.RowKit Go.Maps
set_option maxHeartbeats 400000
def upto (s : St) : Nat → St
 | 0 => s
 | k + 1 => doFlush (upto s k) (k + 1)
theorem upto_six (s : St) : upto s 6 = doEvery s := by
 simp only [upto, doEvery, List.foldl_cons, List.foldl_nil]
 generalize doFlush = F
 rfl
theorem upto_fine {s : St} (h : stFine s) : ∀ k, stFine (upto s k)
 | 0 => h
 | k + 1 => doFlush_fine (upto_fine h k) _
theorem stFine_pages {s : St} (h : stFine s) : ∀ b ∈ s.flash, b.pages.length = 4 := fun b hb => (h.1.2 b hb).1
theorem flush_len {s : St} (h : stFine s) (a : Int) : (flush s a).length ≤ 7 := by
 have := wr_len h.1.1 (stFine_pages h) 2 a (readV s a)
 unfold flush
 split
 · simp
 · split
   · simp
   · simp only [List.length_cons]; omega
set_option maxHeartbeats 4000000 in
set_option maxRecDepth 100000 in
theorem spec_l21All (s : St) (A D : Option Addr) (c d lo hi : Nat) (w : World) (hs : stFine s) (hhi : hi ≤ w.heap.size) (hO : OSt w lo hi A s.flash D s.disk) :
 Calls Try.prog 97 #[.agg #[.slice A 4 c, .slice D 6 d]] w fun r w' =>
  r = .returned (.agg #[.slice A 4 c, .slice D 6 d]) ∧ OSt w' lo hi A (doEvery s).flash D (doEvery s).disk ∧ Agr (fun b => lo ≤ b ∧ b < hi) w w' := by
 have HS := Lib.hid hs
 clear hs
 go_enter Try.func97, Try.ntmps97
 go_wp2
 go_loopw [3] (fun i wr => ∃ k : Nat, k ≤ 6 ∧ i = .int .i64 (k + 1) ∧ OSt wr lo hi A (upto s k).flash D (upto s k).disk ∧ Agr (fun b => lo ≤ b ∧ b < hi) w wr ∧ w.heap.size + 1 < wr.heap.size ∧
  (wr.cell? ⟨w.heap.size, 0, none⟩ = some (.slice A 4 c) ∧ wr.cell? ⟨w.heap.size, 1, none⟩ = some (.slice D 6 d) ∧ wr.frozen? ⟨w.heap.size, 0, none⟩ = false ∧ wr.frozen? ⟨w.heap.size, 1, none⟩ = false) ∧
  (∃ u0 u1, wr.cell? ⟨w.heap.size + 1, 0, none⟩ = some u0 ∧ wr.cell? ⟨w.heap.size + 1, 1, none⟩ = some u1 ∧ wr.frozen? ⟨w.heap.size + 1, 0, none⟩ = false ∧ wr.frozen? ⟨w.heap.size + 1, 1, none⟩ = false)) (fun i _ => 7 - (intOf i).toNat)
 case atStart =>
  have hN := Row.new (w.alloc (.cells #[.slice A 4 c, .slice D 6 d] 94)) #[.slice none 0 0, .slice none 0 0] 94
  simp only [World.size_alloc] at hN
  have hM := (Row.new w #[.slice A 4 c, .slice D 6 d] 94).alloc (.cells #[.slice none 0 0, .slice none 0 0] 94)
  exact ⟨0, by omega, rfl, (hO.alloc' _).alloc' _, ((Agr.refl _ _).alloc _).alloc _, by simp, ⟨(hM.at0 (j := 0) rfl).1, (hM.at0 (j := 1) rfl).1, (hM.at0 (j := 0) rfl).2, (hM.at0 (j := 1) rfl).2⟩, ⟨_, _, (hN.at0 (j := 0) rfl).1, (hN.at0 (j := 1) rfl).1, (hN.at0 (j := 0) rfl).2, (hN.at0 (j := 1) rfl).2⟩⟩
 case round =>
  obtain ⟨k, hk, rfl, hOk, hA, hsz, ⟨b0, b1, b2, b3⟩, ⟨u0, u1, q0, q1, q2, q3⟩⟩ := hrel
  by_cases hlt : k < 6
  · have hst := Lib.hid (upto_fine HS.out k)
    have hk1 : (k : Int) + 1 ≤ 6 := by omega
    go_wp2_with fail
    refine (spec_l12Flush (upto s k) (k + 1) A D c d _ hst.out.1.1 (stFine_pages hst.out) (most_small hst.out.1) hst.out.2.1 hOk.ofl.fl hOk.disk).mono ?_
    rintro e w1 ⟨v, rfl, hOS, hb⟩
    obtain ⟨V, cs, rfl, hcs, hRow, hblk⟩ := hOS.shape
    have hff := Lib.hid (flush_fine hst.out (k + 1))
    have hfl := flush_len hst.out (k + 1)
    have hO1 := hOk.below hb (Nat.le_refl _)
    have hA1 := hA.trans (S' := fun _ => False) (Agr.of_below hb) (fun b hb e => absurd e id)
    have hs1 := hb.size
    obtain ⟨hc, hfz⟩ := bcell hb
    replace b0 := (hc _ _ (by omega)).trans b0
    replace b1 := (hc _ _ (by omega)).trans b1
    replace b2 := (hfz _ _ (by omega)).trans b2
    replace b3 := (hfz _ _ (by omega)).trans b3
    replace q0 := (hc _ _ (by omega)).trans q0
    replace q1 := (hc _ _ (by omega)).trans q1
    replace q2 := (hfz _ _ (by omega)).trans q2
    replace q3 := (hfz _ _ (by omega)).trans q3
    have hfin : Hid (doTo (upto s k) (flush (upto s k) (k + 1)) (flush (upto s k) (k + 1)).length false = upto s (k + 1)) := rfl
    generalize flush (upto s k) (k + 1) = xs at *
    clear hb hc hfz hOk hA hOS
    go_wp2_with fail
    have hsz0 := hA1.size
    refine (spec_l12To (upto s k) xs xs.length false A D V c d cs lo hi _ hst.out hff.out (by omega) (by omega) hO1 hRow (fun b hb => by have := hblk b hb; omega)).mono ?_
    rintro e w2 ⟨rfl, hO2, hA2⟩
    have hs2 := hA2.size
    replace b0 := (hA2.cell (by omega) (by omega) 0).trans b0
    replace b1 := (hA2.cell (by omega) (by omega) 1).trans b1
    replace b2 := (hA2.fz (by omega) (by omega) 0).trans b2
    replace b3 := (hA2.fz (by omega) (by omega) 1).trans b3
    replace q0 := (hA2.cell (by omega) (by omega) 0).trans q0
    replace q1 := (hA2.cell (by omega) (by omega) 1).trans q1
    replace q2 := (hA2.fz (by omega) (by omega) 0).trans q2
    replace q3 := (hA2.fz (by omega) (by omega) 1).trans q3
    have hA3 := hA1.trans hA2 (fun b _ hb => hb)
    rw [hfin.out] at hO2
    clear hO1 hA1 hA2 hRow
    have hW : Wrote w2 ((w2.setCell ⟨w.heap.size, 0, none⟩ (.slice A 4 c)).setCell ⟨w.heap.size, 1, none⟩ (.slice D 6 d)) w.heap.size 0 [.slice A 4 c, .slice D 6 d] := wrote_setRow w.heap.size [.slice A 4 c, .slice D 6 d] 0 w2 (fun j hj => by
     match j, hj with
     | 0, _ => exact ⟨_, b0⟩
     | 1, _ => exact ⟨_, b1⟩)
    have hO3 : OSt _ lo hi A (upto s (k + 1)).flash D (upto s (k + 1)).disk := hO2.keep fun b h1 h2 _ => hW.block b (by omega)
    have hA4 := hA3.trans (S' := (· = w.heap.size)) hW.agr (fun b hb e => by omega)
    have t0 := hW.new_ 0 _ rfl
    have t1 := hW.new_ 1 _ rfl
    have t2 := (hW.frozen ⟨w.heap.size, 0, none⟩).trans b2
    have t3 := (hW.frozen ⟨w.heap.size, 1, none⟩).trans b3
    have s0 := (hW.agr.cell (b := w.heap.size + 1) (by omega) (by omega) 0).trans q0
    have s1 := (hW.agr.cell (b := w.heap.size + 1) (by omega) (by omega) 1).trans q1
    have s2 := (hW.frozen ⟨w.heap.size + 1, 0, none⟩).trans q2
    have s3 := (hW.frozen ⟨w.heap.size + 1, 1, none⟩).trans q3
    have hss := hW.size
    have e1 : IntKind.i64.wrap ((k : Int) + 1 + 1) = (k : Int) + 1 + 1 := IntWalk.i64_in _ (by omega)
    clear hW
    go_wp2
    go_roundw
    (case rel => exact ⟨k + 1, by omega, by go_num, hO3, hA4, by omega, ⟨t0, t1, t2, t3⟩, ⟨u0, u1, s0, s1, s2, s3⟩⟩)
    (case measure => simp [intOf]; omega)
  · obtain rfl : k = 6 := by omega
    go_wp2
    refine bodyPost_ret (v := .agg #[.slice A 4 c, .slice D 6 d]) (by simp [results, Try.results97, go_sem, b0, b1, q0, q1]) rfl ⟨rfl, ?_, ?_⟩
    · rw [← upto_six]
      have hbb : Below w.heap.size wr ((wr.setCell ⟨w.heap.size + 1, 0, none⟩ (.slice A 4 c)).setCell ⟨w.heap.size + 1, 1, none⟩ (.slice D 6 d)) := by (repeat (first | (with_reducible exact Below.refl _ _) | (with_reducible assumption) | (refine Below.setCell ?_ (by first | omega | exact hB.size | exact hb.size | (have h := hB.size; simp; omega) | (have h := hb.size; simp; omega) | (simp; omega) | simp) _) | (refine Below.alloc ?_ (by first | omega | exact hB.size | exact hb.size | (have h := hB.size; simp; omega) | (have h := hb.size; simp; omega) | (simp; omega) | simp) _) | (refine Below.drew ?_)))
      exact hOk.keep fun y _ h2 _ => hbb.block y (by omega)
    · exact (hA.setCell (.inl (by show w.heap.size ≤ w.heap.size + 1; omega)) _).setCell (.inl (by show w.heap.size ≤ w.heap.size + 1; omega)) _
end Go.Proofs.Ytclnogfmmekooaa
namespace Go.Proofs.Ytclnogfmmekooaa
set_option linter.unusedVariables false
set_option linter.unusedSimpArgs false
open Go.RowKit Go.Maps
set_option maxHeartbeats 400000
theorem stepsOf_len {s : St} (h : stFine s) (e : Ev) : (stepsOf s e).length ≤ 8 := by
 have h1 := wr_len h.1.1 (stFine_pages h)
 unfold stepsOf
 split
 · have := h1 1 e.a e.b; omega
 · split
   · have := flush_len h e.a; omega
   · split
     · unfold fill
       split
       · simp
       · have := h1 2 e.a (s.disk.getD (e.a - 1).toNat 0); omega
     · simp
set_option maxHeartbeats 4000000 in
set_option maxRecDepth 100000 in
theorem spec_l21Do (s : St) (e : Ev) (A D : Option Addr) (c d lo hi : Nat) (w : World) (hs : stFine s) (hhi : hi ≤ w.heap.size) (hO : OSt w lo hi A s.flash D s.disk) :
 Calls Try.prog 88 #[.agg #[.slice A 4 c, .slice D 6 d], .agg #[.int .i64 e.kind, .int .i64 e.a, .int .i64 e.b, .int .i64 e.c, .bool e.torn]] w fun r w' =>
  r = .returned (.agg #[.slice A 4 c, .slice D 6 d]) ∧ OSt w' lo hi A (doEv s e).flash D (doEv s e).disk ∧ Agr (fun b => lo ≤ b ∧ b < hi) w w' := by
 obtain ⟨k, a, b, cc, t⟩ := e
 dsimp only
 have HS := Lib.hid hs
 have hfin : Hid (doEv s ⟨k, a, b, cc, t⟩ = if k = 4 then doEvery s else if cc < 0 then s else doTo s (stepsOf s ⟨k, a, b, cc, t⟩) cc t) := rfl
 obtain ⟨W, hW⟩ : ∃ W, W = ((w.alloc (.cells #[.slice A 4 c, .slice D 6 d] 94)).alloc (.cells #[.int .i64 k, .int .i64 a, .int .i64 b, .int .i64 cc, .bool t] 134)).alloc (.cells #[.slice none 0 0, .slice none 0 0] 94) := ⟨_, rfl⟩
 have hOW : OSt W lo hi A s.flash D s.disk := by rw [hW]; exact ((hO.alloc' _).alloc' _).alloc' _
 have hAW : Agr (fun y => lo ≤ y ∧ y < hi) w W := by rw [hW]; exact (((Agr.refl _ _).alloc _).alloc _).alloc _
 have b0 : W.cell? ⟨w.heap.size, 0, none⟩ = some (.slice A 4 c) := by rw [hW]; exact cell3 (by simp)
 have b1 : W.cell? ⟨w.heap.size, 1, none⟩ = some (.slice D 6 d) := by rw [hW]; exact cell3 (by simp)
 have hM := ((Row.new (w.alloc (.cells #[.slice A 4 c, .slice D 6 d] 94)) #[.int .i64 k, .int .i64 a, .int .i64 b, .int .i64 cc, .bool t] 134).alloc (.cells #[.slice none 0 0, .slice none 0 0] 94))
 rw [← hW] at hM
 simp only [World.size_alloc] at hM
 have c0 := (hM.at0 (j := 0) rfl).1
 have c1 := (hM.at0 (j := 1) rfl).1
 have c2 := (hM.at0 (j := 2) rfl).1
 have c3 := (hM.at0 (j := 3) rfl).1
 have c4 := (hM.at0 (j := 4) rfl).1
 have hT := top3 w (.cells #[.slice A 4 c, .slice D 6 d] 94) (.cells #[.int .i64 k, .int .i64 a, .int .i64 b, .int .i64 cc, .bool t] 134) #[.slice none 0 0, .slice none 0 0] 94
 rw [← hW] at hT
 have q0 := (hT.at0 (j := 0) rfl).1
 have q1 := (hT.at0 (j := 1) rfl).1
 have q2 := (hT.at0 (j := 0) rfl).2
 have q3 := (hT.at0 (j := 1) rfl).2
 have hWs : W.heap.size = w.heap.size + 1 + 1 + 1 := by rw [hW]; simp
 have HW := Lib.hid hW
 clear hW hs hT hM
 by_cases h4 : k = 4
 · subst h4
   have h3 : Hid (doEv s ⟨4, a, b, cc, t⟩ = doEvery s) := by rw [Hid, hfin.out, if_pos rfl]
   go_enter Try.func88, Try.ntmps88
   go_wp2_with fail
   rw [← HW.out]
   refine (spec_l21All s A D c d lo hi _ HS.out (by omega) hOW).mono ?_
   rintro e w1 ⟨rfl, hO1, hA1⟩
   replace q0 := (hA1.cell (by omega) (by omega) 0).trans q0
   replace q1 := (hA1.cell (by omega) (by omega) 1).trans q1
   replace q2 := (hA1.fz (by omega) (by omega) 0).trans q2
   replace q3 := (hA1.fz (by omega) (by omega) 1).trans q3
   have hA2 := hAW.trans hA1 (fun b _ hb => hb)
   have hs1 := hA1.size
   clear hA1 hOW hAW
   go_wp2
   refine bodyPost_ret (v := .agg #[.slice A 4 c, .slice D 6 d]) (by simp [results, Try.results88, go_sem, q0, q1]) rfl ⟨rfl, ?_, ?_⟩
   · rw [h3.out]
     refine hO1.keep fun y _ h2 _ => ?_
     rw [Below.heap_setCell _ _ _ _ (by show y ≠ w.heap.size + 1 + 1; omega), Below.heap_setCell _ _ _ _ (by show y ≠ w.heap.size + 1 + 1; omega)]
   · exact (hA2.setCell (.inl (by show w.heap.size ≤ w.heap.size + 1 + 1; omega)) _).setCell (.inl (by show w.heap.size ≤ w.heap.size + 1 + 1; omega)) _
 · have h4' : (k == 4) = false := by simpa using h4
   by_cases hc : cc < 0
   · have h3 : Hid (doEv s ⟨k, a, b, cc, t⟩ = s) := by rw [Hid, hfin.out, if_neg h4, if_pos hc]
     go_enter Try.func88, Try.ntmps88
     go_wp2
     refine bodyPost_ret (v := .agg #[.slice A 4 c, .slice D 6 d]) (by simp [results, Try.results88, go_sem]) rfl ⟨rfl, ?_, ?_⟩
     · rw [h3.out]
       exact ((hO.alloc' _).alloc' _).alloc' _
     · exact (((Agr.refl _ _).alloc _).alloc _).alloc _
   · have h3 : Hid (doEv s ⟨k, a, b, cc, t⟩ = doTo s (stepsOf s ⟨k, a, b, cc, t⟩) cc t) := by rw [Hid, hfin.out, if_neg h4, if_neg hc]
     have hW1 : w.heap.size < W.drew.heap.size := by show w.heap.size < W.heap.size; omega
     have hW2 : w.heap.size + 1 < W.drew.heap.size := by show w.heap.size + 1 < W.heap.size; omega
     have hW3 : w.heap.size + 1 + 1 < W.drew.heap.size := by show w.heap.size + 1 + 1 < W.heap.size; omega
     have hff := Lib.hid (stepsOf_fine HS.out ⟨k, a, b, cc, t⟩)
     have hfl := stepsOf_len HS.out ⟨k, a, b, cc, t⟩
     have hO0 := hOW.drew
     have hsz : w.heap.size + 1 + 1 < W.heap.size := by omega
     have h5 := Lib.hid (spec_l21Steps s ⟨k, a, b, cc, t⟩ A D c d W.drew HS.out.1.1 (stFine_pages HS.out) (most_small HS.out.1) HS.out.2.1 hO0.ofl.fl hO0.disk)
     generalize stepsOf s ⟨k, a, b, cc, t⟩ = xs at *
     go_enter Try.func88, Try.ntmps88
     go_wp2_with fail
     rw [← HW.out]
     have db0 : W.drew.cell? ⟨w.heap.size, 0, none⟩ = some (.slice A 4 c) := b0
     have db1 : W.drew.cell? ⟨w.heap.size, 1, none⟩ = some (.slice D 6 d) := b1
     have dc0 : W.drew.cell? ⟨w.heap.size + 1, 0, none⟩ = some (.int .i64 k) := c0
     have dc1 : W.drew.cell? ⟨w.heap.size + 1, 1, none⟩ = some (.int .i64 a) := c1
     have dc2 : W.drew.cell? ⟨w.heap.size + 1, 2, none⟩ = some (.int .i64 b) := c2
     have dc3 : W.drew.cell? ⟨w.heap.size + 1, 3, none⟩ = some (.int .i64 cc) := c3
     have dc4 : W.drew.cell? ⟨w.heap.size + 1, 4, none⟩ = some (.bool t) := c4
     have dq0 : W.drew.cell? ⟨w.heap.size + 1 + 1, 0, none⟩ = some (.slice none 0 0) := q0
     have dq1 : W.drew.cell? ⟨w.heap.size + 1 + 1, 1, none⟩ = some (.slice none 0 0) := q1
     have dq2 : W.drew.frozen? ⟨w.heap.size + 1 + 1, 0, none⟩ = false := q2
     have dq3 : W.drew.frozen? ⟨w.heap.size + 1 + 1, 1, none⟩ = false := q3
     have hAd : Agr (fun y => lo ≤ y ∧ y < hi) w W.drew := hAW.drew
     have hid : hi ≤ W.drew.heap.size := by show hi ≤ W.heap.size; omega
     have hWd : W.drew.heap.size = w.heap.size + 1 + 1 + 1 := hWs
     have n1 : w.heap.size + 1 + 1 ≠ w.heap.size := by omega
     have n2 : w.heap.size + 1 + 1 ≠ w.heap.size + 1 := by omega
     go_region_held3 (fun w' => w'.cell? ⟨w.heap.size, 0, none⟩ = some (.slice A 4 c) ∧ w'.cell? ⟨w.heap.size, 1, none⟩ = some (.slice D 6 d) ∧ w'.cell? ⟨w.heap.size + 1, 0, none⟩ = some (.int .i64 k) ∧ w'.cell? ⟨w.heap.size + 1, 1, none⟩ = some (.int .i64 a) ∧ w'.cell? ⟨w.heap.size + 1, 2, none⟩ = some (.int .i64 b) ∧ w'.cell? ⟨w.heap.size + 1, 3, none⟩ = some (.int .i64 cc) ∧ w'.cell? ⟨w.heap.size + 1, 4, none⟩ = some (.bool t))
      (first | go_keep | trivial)
      (first
       | (go_at_call 99; with_reducible refine h5.out.mono ?_; rintro e w1 ⟨v, rfl, hOS, hb⟩; obtain ⟨V, cs, rfl, hcs, hRow, hblk⟩ := hOS.shape; have hO1 := hO0.below hb (Nat.le_refl _); have hs1 := hb.size; obtain ⟨hc1, hf1⟩ := bcell hb; have ib0 := (hc1 _ 0 hW1).trans db0; have ib1 := (hc1 _ 1 hW1).trans db1; have ic0 := (hc1 _ 0 hW2).trans dc0; have ic1 := (hc1 _ 1 hW2).trans dc1; have ic2 := (hc1 _ 2 hW2).trans dc2; have ic3 := (hc1 _ 3 hW2).trans dc3; have ic4 := (hc1 _ 4 hW2).trans dc4; have iq0 := (hc1 _ 0 hW3).trans dq0; have iq1 := (hc1 _ 1 hW3).trans dq1; have iq2 := (hf1 _ 0 hW3).trans dq2; have iq3 := (hf1 _ 1 hW3).trans dq3; have hA1 := hAd.trans (S' := fun _ => False) (Agr.of_below hb) (fun b hb e => absurd e id); clear hb hc1 hf1)
       | (go_at_call 98; with_reducible refine (spec_l12To s xs cc t A D V c d cs lo hi _ HS.out hff.out (by omega) (by omega) hO1 hRow (fun b hb => by have := hblk b hb; omega)).mono ?_; rintro e w2 ⟨rfl, hO2, hA2⟩; have kb0 := (hA2.cell (b := w.heap.size) (by omega) (by omega) 0).trans ib0; have kb1 := (hA2.cell (b := w.heap.size) (by omega) (by omega) 1).trans ib1; have kc0 := (hA2.cell (b := w.heap.size + 1) (by omega) (by omega) 0).trans ic0; have kc1 := (hA2.cell (b := w.heap.size + 1) (by omega) (by omega) 1).trans ic1; have kc2 := (hA2.cell (b := w.heap.size + 1) (by omega) (by omega) 2).trans ic2; have kc3 := (hA2.cell (b := w.heap.size + 1) (by omega) (by omega) 3).trans ic3; have kc4 := (hA2.cell (b := w.heap.size + 1) (by omega) (by omega) 4).trans ic4; have kq0 := (hA2.cell (b := w.heap.size + 1 + 1) (by omega) (by omega) 0).trans iq0; have kq1 := (hA2.cell (b := w.heap.size + 1 + 1) (by omega) (by omega) 1).trans iq1; have kq2 := (hA2.fz (b := w.heap.size + 1 + 1) (by omega) (by omega) 0).trans iq2; have kq3 := (hA2.fz (b := w.heap.size + 1 + 1) (by omega) (by omega) 1).trans iq3))
     have hA3 := hA1.trans hA2 (fun b _ hb => hb)
     have hs2 := hA2.size
     clear hA1 hA2 hAd hAW
     go_wp2
     refine bodyPost_ret (v := .agg #[.slice A 4 c, .slice D 6 d]) (by simp [results, Try.results88, go_sem, kq0, kq1]) rfl ⟨rfl, ?_, ?_⟩
     · rw [h3.out]
       refine hO2.keep fun y _ h2 _ => ?_
       rw [Below.heap_setCell _ _ _ _ (by show y ≠ w.heap.size + 1 + 1; omega), Below.heap_setCell _ _ _ _ (by show y ≠ w.heap.size + 1 + 1; omega)]
     · exact (hA3.setCell (.inl (by show w.heap.size ≤ w.heap.size + 1 + 1; omega)) _).setCell (.inl (by show w.heap.size ≤ w.heap.size + 1 + 1; omega)) _
end Go.Proofs.Ytclnogfmmekooaa
namespace Go.Proofs.Ytclnogfmmekooaa
set_option linter.unusedVariables false
set_option linter.unusedSimpArgs false
open Go.RowKit Go.Maps
set_option maxHeartbeats 400000
theorem spec_pickI (n : Nat) (N : Int) (B R m : Nat) (w : World) (hN : N = n) (hn : 1 ≤ n) (hn2 : n ≤ 1000000) (hm : m ≤ 1000000) (hR : Rd w B R m) :
 Calls Try.prog 57 #[.pointer (some ⟨R, 0, none⟩), .int .i64 N] w fun e w' => ∃ k : Nat, e = .returned (.int .i64 k) ∧ k < n ∧ Rd w' B R (m + 1) ∧ Agr (· = R) w w' := by subst hN; exact spec_pick n B R m w hn hn2 hm hR
def sm (x : Int) : Prop := -1 ≤ x ∧ x ≤ 1000
def rcSmall (x : Rc) : Prop := sm x.kind ∧ sm x.seq ∧ sm x.addr ∧ sm x.val
/-- the reader is kept by what writes from L on, where R lies below L -/
theorem Rd.high {w w' : World} {B R m L : Nat} (h : Rd w B R m) (ha : Agr (fun b => L ≤ b) w w') (hL : R < L) : Rd w' B R m :=
 h.agr ha (by omega) (fun b hb => by have := h.le; omega)
set_option maxHeartbeats 4000000 in
set_option maxRecDepth 100000 in
theorem spec_l71Rec (B R m : Nat) (w : World) (hm : m ≤ 900000) (hR : Rd w B R m) :
 Calls Try.prog 58 #[.pointer (some ⟨R, 0, none⟩)] w fun e w' => ∃ x : Rc, e = .returned (.agg #[.int .i64 x.kind, .int .i64 x.seq, .int .i64 x.addr, .int .i64 x.val]) ∧ rcSmall x ∧ Rd w' B R (m + 6) ∧ Agr (· = R) w w' := by
 have hRl := hR.lt
 have hq := Row.new w #[.int .i64 0, .int .i64 0, .int .i64 0, .int .i64 0] 40
 obtain ⟨q0, f0⟩ := hq.at0 (j := 0) rfl
 obtain ⟨q1, f1⟩ := hq.at0 (j := 1) rfl
 obtain ⟨q2, f2⟩ := hq.at0 (j := 2) rfl
 obtain ⟨q3, f3⟩ := hq.at0 (j := 3) rfl
 have hR0 := hR.alloc (.cells #[.int .i64 0, .int .i64 0, .int .i64 0, .int .i64 0] 40)
 have hA0 : Agr (· = R) w (w.alloc (.cells #[.int .i64 0, .int .i64 0, .int .i64 0, .int .i64 0] 40)) := (Agr.refl _ _).alloc _
 have hs0 : w.heap.size < (w.alloc (.cells #[.int .i64 0, .int .i64 0, .int .i64 0, .int .i64 0] 40)).heap.size := by simp
 have hne : ¬ w.heap.size = R := by omega
 clear hq
 go_enter Try.func58, Try.ntmps58
 go_wp2_with fail
 refine (spec_pickI 2 2 B R (m + 0) _ rfl (by omega) (by omega) (by omega) hR0).mono ?_
 rintro e w1 ⟨k1, rfl, hk1, hR1, hB1⟩
 replace q0 := (hB1.cell hs0 hne 0).trans q0
 replace f0 := (hB1.fz hs0 hne 0).trans f0
 replace q1 := (hB1.cell hs0 hne 1).trans q1
 replace f1 := (hB1.fz hs0 hne 1).trans f1
 replace q2 := (hB1.cell hs0 hne 2).trans q2
 replace f2 := (hB1.fz hs0 hne 2).trans f2
 replace q3 := (hB1.cell hs0 hne 3).trans q3
 replace f3 := (hB1.fz hs0 hne 3).trans f3
 have hs1 : w.heap.size < w1.heap.size := Nat.lt_of_lt_of_le hs0 hB1.size
 have hA1 := hA0.trans hB1 (fun _ _ h => h)
 have e1 : IntKind.i64.wrap (1 + (k1 : Int)) = 1 + k1 := IntWalk.i64_in _ (by omega)
 clear hR0 hA0 hs0 hB1
 go_wp2_with fail
 refine (spec_pickI 40 40 B R (m + 1) _ rfl (by omega) (by omega) (by omega) hR1).mono ?_
 rintro e w2 ⟨k2, rfl, hk2, hR2, hB2⟩
 replace q0 := (hB2.cell hs1 hne 0).trans q0
 replace f0 := (hB2.fz hs1 hne 0).trans f0
 replace q1 := (hB2.cell hs1 hne 1).trans q1
 replace f1 := (hB2.fz hs1 hne 1).trans f1
 replace q2 := (hB2.cell hs1 hne 2).trans q2
 replace f2 := (hB2.fz hs1 hne 2).trans f2
 replace q3 := (hB2.cell hs1 hne 3).trans q3
 replace f3 := (hB2.fz hs1 hne 3).trans f3
 have hs2 : w.heap.size < w2.heap.size := Nat.lt_of_lt_of_le hs1 hB2.size
 have hA2 := hA1.trans hB2 (fun _ _ h => h)
 have e2 : IntKind.i64.wrap (1 + (k2 : Int)) = 1 + k2 := IntWalk.i64_in _ (by omega)
 clear hR1 hA1 hs1 hB2
 go_wp2_with fail
 refine (spec_pickI 6 6 B R (m + 2) _ rfl (by omega) (by omega) (by omega) hR2).mono ?_
 rintro e w3 ⟨k3, rfl, hk3, hR3, hB3⟩
 replace q0 := (hB3.cell hs2 hne 0).trans q0
 replace f0 := (hB3.fz hs2 hne 0).trans f0
 replace q1 := (hB3.cell hs2 hne 1).trans q1
 replace f1 := (hB3.fz hs2 hne 1).trans f1
 replace q2 := (hB3.cell hs2 hne 2).trans q2
 replace f2 := (hB3.fz hs2 hne 2).trans f2
 replace q3 := (hB3.cell hs2 hne 3).trans q3
 replace f3 := (hB3.fz hs2 hne 3).trans f3
 have hs3 : w.heap.size < w3.heap.size := Nat.lt_of_lt_of_le hs2 hB3.size
 have hA3 := hA2.trans hB3 (fun _ _ h => h)
 have e3 : IntKind.i64.wrap (1 + (k3 : Int)) = 1 + k3 := IntWalk.i64_in _ (by omega)
 clear hR2 hA2 hs2 hB3
 go_wp2_with fail
 refine (spec_pickI 10 10 B R (m + 3) _ rfl (by omega) (by omega) (by omega) hR3).mono ?_
 rintro e w4 ⟨k4, rfl, hk4, hR4, hB4⟩
 replace q0 := (hB4.cell hs3 hne 0).trans q0
 replace f0 := (hB4.fz hs3 hne 0).trans f0
 replace q1 := (hB4.cell hs3 hne 1).trans q1
 replace f1 := (hB4.fz hs3 hne 1).trans f1
 replace q2 := (hB4.cell hs3 hne 2).trans q2
 replace f2 := (hB4.fz hs3 hne 2).trans f2
 replace q3 := (hB4.cell hs3 hne 3).trans q3
 replace f3 := (hB4.fz hs3 hne 3).trans f3
 have hs4 : w.heap.size < w4.heap.size := Nat.lt_of_lt_of_le hs3 hB4.size
 have hA4 := hA3.trans hB4 (fun _ _ h => h)
 clear hR3 hA3 hs3 hB4
 obtain ⟨n4, hn4⟩ : ∃ n, n = w4.heap.size := ⟨_, rfl⟩
 have hx := Row.new w4 #[.int .i64 (1 + k1), .int .i64 (1 + k2), .int .i64 (1 + k3), .int .i64 k4] 40
 obtain ⟨x0, y0⟩ := hx.at0 (j := 0) rfl
 obtain ⟨x1, y1⟩ := hx.at0 (j := 1) rfl
 obtain ⟨x2, y2⟩ := hx.at0 (j := 2) rfl
 obtain ⟨x3, y3⟩ := hx.at0 (j := 3) rfl
 have hq2 : ∀ (i : Nat) u, w4.cell? ⟨w.heap.size, i, none⟩ = u → (w4.alloc (.cells #[.int .i64 (1 + k1), .int .i64 (1 + k2), .int .i64 (1 + k3), .int .i64 k4] 40)).cell? ⟨w.heap.size, i, none⟩ = u := fun i u h => (((Below.refl w4.heap.size w4).alloc (Nat.le_refl _) _).cell (p := ⟨w.heap.size, i, none⟩) hs4).trans h
 have hf2 : ∀ (i : Nat) u, w4.frozen? ⟨w.heap.size, i, none⟩ = u → (w4.alloc (.cells #[.int .i64 (1 + k1), .int .i64 (1 + k2), .int .i64 (1 + k3), .int .i64 k4] 40)).frozen? ⟨w.heap.size, i, none⟩ = u := fun i u h => (((Below.refl w4.heap.size w4).alloc (Nat.le_refl _) _).frozen (p := ⟨w.heap.size, i, none⟩) hs4).trans h
 replace q0 := hq2 0 _ q0
 replace f0 := hf2 0 _ f0
 replace q1 := hq2 1 _ q1
 replace f1 := hf2 1 _ f1
 replace q2 := hq2 2 _ q2
 replace f2 := hf2 2 _ f2
 replace q3 := hq2 3 _ q3
 replace f3 := hf2 3 _ f3
 have hs4' : w4.heap.size < (w4.alloc (.cells #[.int .i64 (1 + k1), .int .i64 (1 + k2), .int .i64 (1 + k3), .int .i64 k4] 40)).heap.size := by simp
 have hs4'' : w.heap.size < (w4.alloc (.cells #[.int .i64 (1 + k1), .int .i64 (1 + k2), .int .i64 (1 + k3), .int .i64 k4] 40)).heap.size := by simp; omega
 have hne4 : ¬ w4.heap.size = R := by omega
 have hAa : Agr (· = R) w (w4.alloc (.cells #[.int .i64 (1 + k1), .int .i64 (1 + k2), .int .i64 (1 + k3), .int .i64 k4] 40)) := hA4.alloc _
 clear hx hq2 hf2
 go_wp2_with fail
 refine (spec_pickI 20 20 B R (m + 4) _ rfl (by omega) (by omega) (by omega) (hR4.alloc _)).mono ?_
 rintro e w5 ⟨k5, rfl, hk5, hR5, hB5⟩
 replace q0 := (hB5.cell hs4'' hne 0).trans q0
 replace f0 := (hB5.fz hs4'' hne 0).trans f0
 replace x0 := (hB5.cell hs4' hne4 0).trans x0
 replace y0 := (hB5.fz hs4' hne4 0).trans y0
 replace q1 := (hB5.cell hs4'' hne 1).trans q1
 replace f1 := (hB5.fz hs4'' hne 1).trans f1
 replace x1 := (hB5.cell hs4' hne4 1).trans x1
 replace y1 := (hB5.fz hs4' hne4 1).trans y1
 replace q2 := (hB5.cell hs4'' hne 2).trans q2
 replace f2 := (hB5.fz hs4'' hne 2).trans f2
 replace x2 := (hB5.cell hs4' hne4 2).trans x2
 replace y2 := (hB5.fz hs4' hne4 2).trans y2
 replace q3 := (hB5.cell hs4'' hne 3).trans q3
 replace f3 := (hB5.fz hs4'' hne 3).trans f3
 replace x3 := (hB5.cell hs4' hne4 3).trans x3
 replace y3 := (hB5.fz hs4' hne4 3).trans y3
 have hs5 : w4.heap.size < w5.heap.size := Nat.lt_of_lt_of_le hs4' hB5.size
 have hA5 := hAa.trans hB5 (fun _ _ h => h)
 have hs6 : w.heap.size < n4 := by omega
 rw [← hn4] at *
 have hs5' : w.heap.size < w5.heap.size := by omega
 clear hAa hB5 hA4 hR4 hs4' hs4'' hn4
 by_cases h0 : k5 = 0
 · have t0 : ((k5 : Int) == 0) = true := by subst h0; rfl
   clear h0
   go_wp2_with fail
   refine (spec_pickI 4 4 B R (m + 5) _ rfl (by omega) (by omega) (by omega) hR5).mono ?_
   rintro e w6 ⟨k6, rfl, hk6, hR6, hB6⟩
   replace q0 := (hB6.cell hs5' hne 0).trans q0
   replace f0 := (hB6.fz hs5' hne 0).trans f0
   replace x0 := (hB6.cell hs5 hne4 0).trans x0
   replace y0 := (hB6.fz hs5 hne4 0).trans y0
   replace q1 := (hB6.cell hs5' hne 1).trans q1
   replace f1 := (hB6.fz hs5' hne 1).trans f1
   replace x1 := (hB6.cell hs5 hne4 1).trans x1
   replace y1 := (hB6.fz hs5 hne4 1).trans y1
   replace q2 := (hB6.cell hs5' hne 2).trans q2
   replace f2 := (hB6.fz hs5' hne 2).trans f2
   replace x2 := (hB6.cell hs5 hne4 2).trans x2
   replace y2 := (hB6.fz hs5 hne4 2).trans y2
   replace q3 := (hB6.cell hs5' hne 3).trans q3
   replace f3 := (hB6.fz hs5' hne 3).trans f3
   replace x3 := (hB6.cell hs5 hne4 3).trans x3
   replace y3 := (hB6.fz hs5 hne4 3).trans y3
   have hA6 := hA5.trans hB6 (fun _ _ h => h)
   have hs6' : n4 < w6.heap.size := Nat.lt_of_lt_of_le hs5 hB6.size
   have hs6'' : w.heap.size < w6.heap.size := by omega
   clear hB6 hA5 hR5
   go_wp2
   refine bodyPost_ret (v := .agg #[.int .i64 ((k6 : Int)), .int .i64 (1 + (k2 : Int)), .int .i64 (1 + (k3 : Int)), .int .i64 ((k4 : Int))]) (by simp [results, Try.results58, go_sem, q0, q1, q2, q3]) rfl ⟨⟨(k6 : Int), 1 + (k2 : Int), 1 + (k3 : Int), (k4 : Int)⟩, rfl, ⟨⟨by dsimp only; omega, by dsimp only; omega⟩, ⟨by dsimp only; omega, by dsimp only; omega⟩, ⟨by dsimp only; omega, by dsimp only; omega⟩, ⟨by dsimp only; omega, by dsimp only; omega⟩⟩, ?_, ?_⟩
   · refine (Rd.high (L := w.heap.size) hR6 ?_ hRl).mono (by omega)
     repeat (with_reducible refine Agr.setCell ?_ (.inr (by first | exact Nat.le_refl _ | (show w.heap.size ≤ n4; omega))) _)
     with_reducible exact Agr.refl _ _
   · repeat (with_reducible refine Agr.setCell ?_ (.inl (by first | exact Nat.le_refl _ | (show w.heap.size ≤ n4; omega))) _)
     with_reducible exact hA6
 · have t0 : ((k5 : Int) == 0) = false := by rw [beq_eq_false_iff_ne]; omega
   by_cases h1 : k5 = 1
   · have t1 : ((k5 : Int) == 1) = true := by subst h1; rfl
     clear h0 h1
     have hz := Row.new w5 #[.int .i64 (0), .int .i64 (600), .int .i64 (601)] 3
     have hR5a := hR5.alloc (.cells #[.int .i64 (0), .int .i64 (600), .int .i64 (601)] 3)
     have hA5a := hA5.alloc (.cells #[.int .i64 (0), .int .i64 (600), .int .i64 (601)] 3)
     have hal : ∀ (i : Nat) u b, b < w5.heap.size → w5.cell? ⟨b, i, none⟩ = u → (w5.alloc (.cells #[.int .i64 (0), .int .i64 (600), .int .i64 (601)] 3)).cell? ⟨b, i, none⟩ = u := fun i u b hb h => (((Below.refl w5.heap.size w5).alloc (Nat.le_refl _) _).cell (p := ⟨b, i, none⟩) hb).trans h
     have hfl : ∀ (i : Nat) u b, b < w5.heap.size → w5.frozen? ⟨b, i, none⟩ = u → (w5.alloc (.cells #[.int .i64 (0), .int .i64 (600), .int .i64 (601)] 3)).frozen? ⟨b, i, none⟩ = u := fun i u b hb h => (((Below.refl w5.heap.size w5).alloc (Nat.le_refl _) _).frozen (p := ⟨b, i, none⟩) hb).trans h
     replace q0 := hal 0 _ _ hs5' q0
     replace f0 := hfl 0 _ _ hs5' f0
     replace x0 := hal 0 _ _ hs5 x0
     replace y0 := hfl 0 _ _ hs5 y0
     replace q1 := hal 1 _ _ hs5' q1
     replace f1 := hfl 1 _ _ hs5' f1
     replace x1 := hal 1 _ _ hs5 x1
     replace y1 := hfl 1 _ _ hs5 y1
     replace q2 := hal 2 _ _ hs5' q2
     replace f2 := hfl 2 _ _ hs5' f2
     replace x2 := hal 2 _ _ hs5 x2
     replace y2 := hfl 2 _ _ hs5 y2
     replace q3 := hal 3 _ _ hs5' q3
     replace f3 := hfl 3 _ _ hs5' f3
     replace x3 := hal 3 _ _ hs5 x3
     replace y3 := hfl 3 _ _ hs5 y3
     have hsa : w5.heap.size < (w5.alloc (.cells #[.int .i64 (0), .int .i64 (600), .int .i64 (601)] 3)).heap.size := by simp
     have hsb : n4 < (w5.alloc (.cells #[.int .i64 (0), .int .i64 (600), .int .i64 (601)] 3)).heap.size := by simp; omega
     have hsc : w.heap.size < (w5.alloc (.cells #[.int .i64 (0), .int .i64 (600), .int .i64 (601)] 3)).heap.size := by simp; omega
     have hne5 : ¬ w5.heap.size = R := by omega
     clear hal hfl
     go_wp2_with fail
     refine (spec_pickI 3 3 B R (m + 5) _ rfl (by omega) (by omega) (by omega) hR5a).mono ?_
     rintro e w6 ⟨k6, rfl, hk6, hR6, hB6⟩
     obtain ⟨v, hv, hv1, hv2⟩ : ∃ v : Int, (#[.int .i64 (0), .int .i64 (600), .int .i64 (601)] : Array Value).toList[k6]? = some (.int .i64 v) ∧ -1 ≤ v ∧ v ≤ 1000 := by
      rcases (by omega : k6 = 0 ∨ k6 = 1 ∨ k6 = 2) with rfl | rfl | rfl <;> exact ⟨_, rfl, by omega, by omega⟩
     have z0 := (hB6.cell hsa hne5 k6).trans (hz.at0 hv).1
     replace q0 := (hB6.cell hsc hne 0).trans q0
     replace f0 := (hB6.fz hsc hne 0).trans f0
     replace x0 := (hB6.cell hsb hne4 0).trans x0
     replace y0 := (hB6.fz hsb hne4 0).trans y0
     replace q1 := (hB6.cell hsc hne 1).trans q1
     replace f1 := (hB6.fz hsc hne 1).trans f1
     replace x1 := (hB6.cell hsb hne4 1).trans x1
     replace y1 := (hB6.fz hsb hne4 1).trans y1
     replace q2 := (hB6.cell hsc hne 2).trans q2
     replace f2 := (hB6.fz hsc hne 2).trans f2
     replace x2 := (hB6.cell hsb hne4 2).trans x2
     replace y2 := (hB6.fz hsb hne4 2).trans y2
     replace q3 := (hB6.cell hsc hne 3).trans q3
     replace f3 := (hB6.fz hsc hne 3).trans f3
     replace x3 := (hB6.cell hsb hne4 3).trans x3
     replace y3 := (hB6.fz hsb hne4 3).trans y3
     have hA6 := hA5a.trans hB6 (fun _ _ h => h)
     have hs6' : n4 < w6.heap.size := Nat.lt_of_lt_of_le hsb hB6.size
     have hs6'' : w.heap.size < w6.heap.size := by omega
     have hk6' : (k6 : Int) < 3 := by omega
     clear hB6 hsa hsb hsc hR5a hA5a hz hv hA5 hR5 hk6
     go_wp2
     refine bodyPost_ret (v := .agg #[.int .i64 (1 + (k1 : Int)), .int .i64 (v), .int .i64 (1 + (k3 : Int)), .int .i64 ((k4 : Int))]) (by simp [results, Try.results58, go_sem, q0, q1, q2, q3]) rfl ⟨⟨1 + (k1 : Int), v, 1 + (k3 : Int), (k4 : Int)⟩, rfl, ⟨⟨by dsimp only; omega, by dsimp only; omega⟩, ⟨by dsimp only; omega, by dsimp only; omega⟩, ⟨by dsimp only; omega, by dsimp only; omega⟩, ⟨by dsimp only; omega, by dsimp only; omega⟩⟩, ?_, ?_⟩
     · refine (Rd.high (L := w.heap.size) hR6 ?_ hRl).mono (by omega)
       repeat (with_reducible refine Agr.setCell ?_ (.inr (by first | exact Nat.le_refl _ | (show w.heap.size ≤ n4; omega))) _)
       with_reducible exact Agr.refl _ _
     · repeat (with_reducible refine Agr.setCell ?_ (.inl (by first | exact Nat.le_refl _ | (show w.heap.size ≤ n4; omega))) _)
       with_reducible exact hA6
   · have t1 : ((k5 : Int) == 1) = false := by rw [beq_eq_false_iff_ne]; omega
     by_cases h2 : k5 = 2
     · have t2 : ((k5 : Int) == 2) = true := by subst h2; rfl
       clear h0 h1 h2
       have hz := Row.new w5 #[.int .i64 (0), .int .i64 (7)] 3
       have hR5a := hR5.alloc (.cells #[.int .i64 (0), .int .i64 (7)] 3)
       have hA5a := hA5.alloc (.cells #[.int .i64 (0), .int .i64 (7)] 3)
       have hal : ∀ (i : Nat) u b, b < w5.heap.size → w5.cell? ⟨b, i, none⟩ = u → (w5.alloc (.cells #[.int .i64 (0), .int .i64 (7)] 3)).cell? ⟨b, i, none⟩ = u := fun i u b hb h => (((Below.refl w5.heap.size w5).alloc (Nat.le_refl _) _).cell (p := ⟨b, i, none⟩) hb).trans h
       have hfl : ∀ (i : Nat) u b, b < w5.heap.size → w5.frozen? ⟨b, i, none⟩ = u → (w5.alloc (.cells #[.int .i64 (0), .int .i64 (7)] 3)).frozen? ⟨b, i, none⟩ = u := fun i u b hb h => (((Below.refl w5.heap.size w5).alloc (Nat.le_refl _) _).frozen (p := ⟨b, i, none⟩) hb).trans h
       replace q0 := hal 0 _ _ hs5' q0
       replace f0 := hfl 0 _ _ hs5' f0
       replace x0 := hal 0 _ _ hs5 x0
       replace y0 := hfl 0 _ _ hs5 y0
       replace q1 := hal 1 _ _ hs5' q1
       replace f1 := hfl 1 _ _ hs5' f1
       replace x1 := hal 1 _ _ hs5 x1
       replace y1 := hfl 1 _ _ hs5 y1
       replace q2 := hal 2 _ _ hs5' q2
       replace f2 := hfl 2 _ _ hs5' f2
       replace x2 := hal 2 _ _ hs5 x2
       replace y2 := hfl 2 _ _ hs5 y2
       replace q3 := hal 3 _ _ hs5' q3
       replace f3 := hfl 3 _ _ hs5' f3
       replace x3 := hal 3 _ _ hs5 x3
       replace y3 := hfl 3 _ _ hs5 y3
       have hsa : w5.heap.size < (w5.alloc (.cells #[.int .i64 (0), .int .i64 (7)] 3)).heap.size := by simp
       have hsb : n4 < (w5.alloc (.cells #[.int .i64 (0), .int .i64 (7)] 3)).heap.size := by simp; omega
       have hsc : w.heap.size < (w5.alloc (.cells #[.int .i64 (0), .int .i64 (7)] 3)).heap.size := by simp; omega
       have hne5 : ¬ w5.heap.size = R := by omega
       clear hal hfl
       go_wp2_with fail
       refine (spec_pickI 2 2 B R (m + 5) _ rfl (by omega) (by omega) (by omega) hR5a).mono ?_
       rintro e w6 ⟨k6, rfl, hk6, hR6, hB6⟩
       obtain ⟨v, hv, hv1, hv2⟩ : ∃ v : Int, (#[.int .i64 (0), .int .i64 (7)] : Array Value).toList[k6]? = some (.int .i64 v) ∧ -1 ≤ v ∧ v ≤ 1000 := by
        rcases (by omega : k6 = 0 ∨ k6 = 1) with rfl | rfl <;> exact ⟨_, rfl, by omega, by omega⟩
       have z0 := (hB6.cell hsa hne5 k6).trans (hz.at0 hv).1
       replace q0 := (hB6.cell hsc hne 0).trans q0
       replace f0 := (hB6.fz hsc hne 0).trans f0
       replace x0 := (hB6.cell hsb hne4 0).trans x0
       replace y0 := (hB6.fz hsb hne4 0).trans y0
       replace q1 := (hB6.cell hsc hne 1).trans q1
       replace f1 := (hB6.fz hsc hne 1).trans f1
       replace x1 := (hB6.cell hsb hne4 1).trans x1
       replace y1 := (hB6.fz hsb hne4 1).trans y1
       replace q2 := (hB6.cell hsc hne 2).trans q2
       replace f2 := (hB6.fz hsc hne 2).trans f2
       replace x2 := (hB6.cell hsb hne4 2).trans x2
       replace y2 := (hB6.fz hsb hne4 2).trans y2
       replace q3 := (hB6.cell hsc hne 3).trans q3
       replace f3 := (hB6.fz hsc hne 3).trans f3
       replace x3 := (hB6.cell hsb hne4 3).trans x3
       replace y3 := (hB6.fz hsb hne4 3).trans y3
       have hA6 := hA5a.trans hB6 (fun _ _ h => h)
       have hs6' : n4 < w6.heap.size := Nat.lt_of_lt_of_le hsb hB6.size
       have hs6'' : w.heap.size < w6.heap.size := by omega
       have hk6' : (k6 : Int) < 2 := by omega
       clear hB6 hsa hsb hsc hR5a hA5a hz hv hA5 hR5 hk6
       go_wp2
       refine bodyPost_ret (v := .agg #[.int .i64 (1 + (k1 : Int)), .int .i64 (1 + (k2 : Int)), .int .i64 (v), .int .i64 ((k4 : Int))]) (by simp [results, Try.results58, go_sem, q0, q1, q2, q3]) rfl ⟨⟨1 + (k1 : Int), 1 + (k2 : Int), v, (k4 : Int)⟩, rfl, ⟨⟨by dsimp only; omega, by dsimp only; omega⟩, ⟨by dsimp only; omega, by dsimp only; omega⟩, ⟨by dsimp only; omega, by dsimp only; omega⟩, ⟨by dsimp only; omega, by dsimp only; omega⟩⟩, ?_, ?_⟩
       · refine (Rd.high (L := w.heap.size) hR6 ?_ hRl).mono (by omega)
         repeat (with_reducible refine Agr.setCell ?_ (.inr (by first | exact Nat.le_refl _ | (show w.heap.size ≤ n4; omega))) _)
         with_reducible exact Agr.refl _ _
       · repeat (with_reducible refine Agr.setCell ?_ (.inl (by first | exact Nat.le_refl _ | (show w.heap.size ≤ n4; omega))) _)
         with_reducible exact hA6
     · have t2 : ((k5 : Int) == 2) = false := by rw [beq_eq_false_iff_ne]; omega
       by_cases h3 : k5 = 3
       · have t3 : ((k5 : Int) == 3) = true := by subst h3; rfl
         clear h0 h1 h2 h3
         have hz := Row.new w5 #[.int .i64 (-1), .int .i64 (10)] 3
         have hR5a := hR5.alloc (.cells #[.int .i64 (-1), .int .i64 (10)] 3)
         have hA5a := hA5.alloc (.cells #[.int .i64 (-1), .int .i64 (10)] 3)
         have hal : ∀ (i : Nat) u b, b < w5.heap.size → w5.cell? ⟨b, i, none⟩ = u → (w5.alloc (.cells #[.int .i64 (-1), .int .i64 (10)] 3)).cell? ⟨b, i, none⟩ = u := fun i u b hb h => (((Below.refl w5.heap.size w5).alloc (Nat.le_refl _) _).cell (p := ⟨b, i, none⟩) hb).trans h
         have hfl : ∀ (i : Nat) u b, b < w5.heap.size → w5.frozen? ⟨b, i, none⟩ = u → (w5.alloc (.cells #[.int .i64 (-1), .int .i64 (10)] 3)).frozen? ⟨b, i, none⟩ = u := fun i u b hb h => (((Below.refl w5.heap.size w5).alloc (Nat.le_refl _) _).frozen (p := ⟨b, i, none⟩) hb).trans h
         replace q0 := hal 0 _ _ hs5' q0
         replace f0 := hfl 0 _ _ hs5' f0
         replace x0 := hal 0 _ _ hs5 x0
         replace y0 := hfl 0 _ _ hs5 y0
         replace q1 := hal 1 _ _ hs5' q1
         replace f1 := hfl 1 _ _ hs5' f1
         replace x1 := hal 1 _ _ hs5 x1
         replace y1 := hfl 1 _ _ hs5 y1
         replace q2 := hal 2 _ _ hs5' q2
         replace f2 := hfl 2 _ _ hs5' f2
         replace x2 := hal 2 _ _ hs5 x2
         replace y2 := hfl 2 _ _ hs5 y2
         replace q3 := hal 3 _ _ hs5' q3
         replace f3 := hfl 3 _ _ hs5' f3
         replace x3 := hal 3 _ _ hs5 x3
         replace y3 := hfl 3 _ _ hs5 y3
         have hsa : w5.heap.size < (w5.alloc (.cells #[.int .i64 (-1), .int .i64 (10)] 3)).heap.size := by simp
         have hsb : n4 < (w5.alloc (.cells #[.int .i64 (-1), .int .i64 (10)] 3)).heap.size := by simp; omega
         have hsc : w.heap.size < (w5.alloc (.cells #[.int .i64 (-1), .int .i64 (10)] 3)).heap.size := by simp; omega
         have hne5 : ¬ w5.heap.size = R := by omega
         clear hal hfl
         go_wp2_with fail
         refine (spec_pickI 2 2 B R (m + 5) _ rfl (by omega) (by omega) (by omega) hR5a).mono ?_
         rintro e w6 ⟨k6, rfl, hk6, hR6, hB6⟩
         obtain ⟨v, hv, hv1, hv2⟩ : ∃ v : Int, (#[.int .i64 (-1), .int .i64 (10)] : Array Value).toList[k6]? = some (.int .i64 v) ∧ -1 ≤ v ∧ v ≤ 1000 := by
          rcases (by omega : k6 = 0 ∨ k6 = 1) with rfl | rfl <;> exact ⟨_, rfl, by omega, by omega⟩
         have z0 := (hB6.cell hsa hne5 k6).trans (hz.at0 hv).1
         replace q0 := (hB6.cell hsc hne 0).trans q0
         replace f0 := (hB6.fz hsc hne 0).trans f0
         replace x0 := (hB6.cell hsb hne4 0).trans x0
         replace y0 := (hB6.fz hsb hne4 0).trans y0
         replace q1 := (hB6.cell hsc hne 1).trans q1
         replace f1 := (hB6.fz hsc hne 1).trans f1
         replace x1 := (hB6.cell hsb hne4 1).trans x1
         replace y1 := (hB6.fz hsb hne4 1).trans y1
         replace q2 := (hB6.cell hsc hne 2).trans q2
         replace f2 := (hB6.fz hsc hne 2).trans f2
         replace x2 := (hB6.cell hsb hne4 2).trans x2
         replace y2 := (hB6.fz hsb hne4 2).trans y2
         replace q3 := (hB6.cell hsc hne 3).trans q3
         replace f3 := (hB6.fz hsc hne 3).trans f3
         replace x3 := (hB6.cell hsb hne4 3).trans x3
         replace y3 := (hB6.fz hsb hne4 3).trans y3
         have hA6 := hA5a.trans hB6 (fun _ _ h => h)
         have hs6' : n4 < w6.heap.size := Nat.lt_of_lt_of_le hsb hB6.size
         have hs6'' : w.heap.size < w6.heap.size := by omega
         have hk6' : (k6 : Int) < 2 := by omega
         clear hB6 hsa hsb hsc hR5a hA5a hz hv hA5 hR5 hk6
         go_wp2
         refine bodyPost_ret (v := .agg #[.int .i64 (1 + (k1 : Int)), .int .i64 (1 + (k2 : Int)), .int .i64 (1 + (k3 : Int)), .int .i64 (v)]) (by simp [results, Try.results58, go_sem, q0, q1, q2, q3]) rfl ⟨⟨1 + (k1 : Int), 1 + (k2 : Int), 1 + (k3 : Int), v⟩, rfl, ⟨⟨by dsimp only; omega, by dsimp only; omega⟩, ⟨by dsimp only; omega, by dsimp only; omega⟩, ⟨by dsimp only; omega, by dsimp only; omega⟩, ⟨by dsimp only; omega, by dsimp only; omega⟩⟩, ?_, ?_⟩
         · refine (Rd.high (L := w.heap.size) hR6 ?_ hRl).mono (by omega)
           repeat (with_reducible refine Agr.setCell ?_ (.inr (by first | exact Nat.le_refl _ | (show w.heap.size ≤ n4; omega))) _)
           with_reducible exact Agr.refl _ _
         · repeat (with_reducible refine Agr.setCell ?_ (.inl (by first | exact Nat.le_refl _ | (show w.heap.size ≤ n4; omega))) _)
           with_reducible exact hA6
       · have t3 : ((k5 : Int) == 3) = false := by rw [beq_eq_false_iff_ne]; omega
         clear h0 h1 h2 h3
         go_wp2
         refine bodyPost_ret (v := .agg #[.int .i64 (1 + (k1 : Int)), .int .i64 (1 + (k2 : Int)), .int .i64 (1 + (k3 : Int)), .int .i64 ((k4 : Int))]) (by simp [results, Try.results58, go_sem, q0, q1, q2, q3]) rfl ⟨⟨1 + (k1 : Int), 1 + (k2 : Int), 1 + (k3 : Int), (k4 : Int)⟩, rfl, ⟨⟨by dsimp only; omega, by dsimp only; omega⟩, ⟨by dsimp only; omega, by dsimp only; omega⟩, ⟨by dsimp only; omega, by dsimp only; omega⟩, ⟨by dsimp only; omega, by dsimp only; omega⟩⟩, ?_, ?_⟩
         · refine (Rd.high (L := w.heap.size) hR5 ?_ hRl).mono (by omega)
           repeat (with_reducible refine Agr.setCell ?_ (.inr (by first | exact Nat.le_refl _ | (show w.heap.size ≤ n4; omega))) _)
           with_reducible exact Agr.refl _ _
         · repeat (with_reducible refine Agr.setCell ?_ (.inl (by first | exact Nat.le_refl _ | (show w.heap.size ≤ n4; omega))) _)
           with_reducible exact hA5
end Go.Proofs.Ytclnogfmmekooaa
