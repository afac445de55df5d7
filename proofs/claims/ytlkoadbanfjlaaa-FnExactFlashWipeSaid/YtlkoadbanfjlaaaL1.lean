/- Walks: the statements' own comparing functions. -/
import Derived.Test.YtlkoadbanfjlaaaC
import Derived.Deep.RegionHeld3
namespace Go.Proofs.Ytlkoadbanfjlaaa
set_option linter.unusedVariables false
set_option linter.unusedSimpArgs false
open Go.RowKit Go.Maps
set_option maxHeartbeats 400000
theorem laws_eqRec (r s : Rc) (w : World) : Calls Try.prog 48 #[.agg #[.int .i64 r.kind, .int .i64 r.seq, .int .i64 r.addr, .int .i64 r.val], .agg #[.int .i64 s.kind, .int .i64 s.seq, .int .i64 s.addr, .int .i64 s.val]] w fun e w' => e = .returned (.bool (decide (r = s))) ∧ Below w.heap.size w w' := by
  obtain ⟨k, q, a, v⟩ := r
  obtain ⟨k', q', a', v'⟩ := s
  dsimp only
  go_enter Try.func48, Try.ntmps48
  go_wp2
  all_goals (go_ret; exact ⟨ret_bool (by simp_all), ((Below.refl _ _).alloc (Nat.le_refl _) _).alloc (by simp) _⟩)
theorem laws_eqPage (p q : Pg) (w : World) : Calls Try.prog 44 #[.agg #[.int .i64 p.state, .int .i64 p.rc.kind, .int .i64 p.rc.seq, .int .i64 p.rc.addr, .int .i64 p.rc.val], .agg #[.int .i64 q.state, .int .i64 q.rc.kind, .int .i64 q.rc.seq, .int .i64 q.rc.addr, .int .i64 q.rc.val]] w
    fun e w' => e = .returned (.bool (decide (p = q))) ∧ Below w.heap.size w w' := by
  obtain ⟨st, r⟩ := p
  obtain ⟨st', s⟩ := q
  dsimp only
  by_cases hst : st = st'
  · subst hst
    have hq : Hid (decide ((⟨st, r⟩ : Pg) = ⟨st, s⟩) = decide (r = s)) := by unfold Hid; simp
    go_enter Try.func44, Try.ntmps44
    go_wp2_with (go_at_call 48; refine (laws_eqRec r s _).mono ?_; rintro e w1 ⟨rfl, hb⟩)
    all_goals (go_ret; exact ⟨ret_bool (by rw [hq.out]; simp_all), (((Below.refl _ _).alloc (Nat.le_refl _) _).alloc (by simp) _).trans (hb.mono (by simp; omega))⟩)
  · have hq : Hid (decide ((⟨st, r⟩ : Pg) = ⟨st', s⟩) = false) := by unfold Hid; simp [hst]
    go_enter Try.func44, Try.ntmps44
    go_wp2
    go_ret
    exact ⟨ret_bool hq.out.symm, ((Below.refl _ _).alloc (Nat.le_refl _) _).alloc (by simp) _⟩
theorem eq_drop {α : Type} [DecidableEq α] {l m : List α} {k : Nat} {x y : α} (hx : l[k]? = some x) (hy : m[k]? = some y) : decide (l.drop k = m.drop k) = (decide (x = y) && decide (l.drop (k + 1) = m.drop (k + 1))) := by
  rw [drop_cons hx, drop_cons hy, Bool.eq_iff_iff]
  simp
theorem laws_eqPageS (A A' : Option Addr) (c c' : Nat) (ps qs : List Pg) (w : World) (hl : ps.length < 1000000000000) (hl' : qs.length < 1000000000000) (hR : Row w A (pgs ps)) (hR' : Row w A' (pgs qs)) :
    Calls Try.prog 37 #[.slice A ps.length c, .slice A' qs.length c'] w fun e w' => e = .returned (.bool (decide (ps = qs))) ∧ Below w.heap.size w w' := by
  by_cases hn : ps.length = qs.length
  · have HN := Lib.hid hn
    rw [← hn]
    clear hn hl'
    go_enter Try.func37, Try.ntmps37
    go_wp2
    go_loopw [5] (fun i wr => ∃ (k : Nat), k ≤ ps.length ∧ i = .int .i64 k ∧ Below w.heap.size w wr ∧ Hid (decide (ps = qs) = decide (ps.drop k = qs.drop k))) (fun i _ => ps.length - (intOf i).toNat)
    case atStart => exact ⟨0, by omega, rfl, Below.refl _ _, by simp [Hid]⟩
    case round =>
      obtain ⟨k, hk, rfl, hb, hg⟩ := hrel
      by_cases hlt : k < ps.length
      · obtain ⟨p, hp⟩ := get_some hlt
        obtain ⟨q, hq⟩ := get_some (l := qs) (k := k) (by have := HN.out; omega)
        have hd := Lib.hid (eq_drop hp hq)
        obtain ⟨b, o, rfl⟩ := hR.addr (pgs_ne (by rintro rfl; simp at hlt))
        obtain ⟨b', o', rfl⟩ := hR'.addr (pgs_ne (by rintro rfl; simp at hq))
        have hRk := hR.below hb (Nat.le_refl _)
        have hRk' := hR'.below hb (Nat.le_refl _)
        obtain ⟨c0, c1, c2, c3, c4⟩ := hRk.pg hp
        obtain ⟨d0, d1, d2, d3, d4⟩ := hRk'.pg hq
        have hk1 : (k : Int) < ps.length := by omega
        have HP := Lib.hid hp
        have HQ := Lib.hid hq
        clear hp hq
        go_wp2
        go_region_held3 (fun w' => w'.cell? ⟨b, o + k * 5, none⟩ = some (.int .i64 p.state) ∧ w'.cell? ⟨b, o + k * 5 + 1, none⟩ = some (.int .i64 p.rc.kind) ∧ w'.cell? ⟨b, o + k * 5 + 2, none⟩ = some (.int .i64 p.rc.seq) ∧ w'.cell? ⟨b, o + k * 5 + 3, none⟩ = some (.int .i64 p.rc.addr) ∧ w'.cell? ⟨b, o + k * 5 + 4, none⟩ = some (.int .i64 p.rc.val) ∧
            w'.cell? ⟨b', o' + k * 5, none⟩ = some (.int .i64 q.state) ∧ w'.cell? ⟨b', o' + k * 5 + 1, none⟩ = some (.int .i64 q.rc.kind) ∧ w'.cell? ⟨b', o' + k * 5 + 2, none⟩ = some (.int .i64 q.rc.seq) ∧ w'.cell? ⟨b', o' + k * 5 + 3, none⟩ = some (.int .i64 q.rc.addr) ∧ w'.cell? ⟨b', o' + k * 5 + 4, none⟩ = some (.int .i64 q.rc.val))
          (first | go_keep | trivial)
          (first | (go_at_call 44; refine (laws_eqPage p q _).mono ?_; rintro e w1 ⟨rfl, hb1⟩; replace hb1 := undrew hb1; obtain ⟨e0, e1, e2, e3, e4⟩ := (hRk.below hb1 (Nat.le_refl _)).pg HP.out; obtain ⟨g0, g1, g2, g3, g4⟩ := (hRk'.below hb1 (Nat.le_refl _)).pg HQ.out))
        have hB1 := hb.trans (hb1.mono hb.size)
        go_wp2
        · have hne : (!decide (p = q)) = true := by assumption
          have hne' : decide (p = q) = false := by simpa using hne
          go_ret
          exact ⟨ret_bool (by rw [hg.out, hd.out, hne']; rfl), hB1⟩
        · have heq : (!decide (p = q)) = false := by assumption
          have heq' : decide (p = q) = true := by simpa using heq
          go_roundw
          case rel => exact ⟨k + 1, by omega, by go_num, hB1, by rw [Hid, hg.out, hd.out, heq', Bool.true_and]⟩
          case measure => simp [intOf]; omega
      · obtain rfl : k = ps.length := by omega
        go_wp2
        go_ret
        exact ⟨ret_bool (by rw [hg.out, List.drop_of_length_le (Nat.le_refl _), List.drop_of_length_le (by have := HN.out; omega)]; rfl), hb⟩
  · have hq : Hid (decide (ps = qs) = false) := by unfold Hid; simp; intro e; exact hn (by rw [e])
    go_enter Try.func37, Try.ntmps37
    go_wp2
    go_ret
    exact ⟨ret_bool hq.out.symm, Below.refl _ _⟩
theorem laws_eqBlock (a b : Bk) (A A' : Option Addr) (c c' : Nat) (w : World) (hl : a.pages.length < 1000000000000) (hl' : b.pages.length < 1000000000000) (hR : Row w A (pgs a.pages)) (hR' : Row w A' (pgs b.pages)) :
    Calls Try.prog 21 #[.agg #[.slice A a.pages.length c, .int .i64 a.worn], .agg #[.slice A' b.pages.length c', .int .i64 b.worn]] w fun e w' => e = .returned (.bool (decide (a = b))) ∧ Below w.heap.size w w' := by
  obtain ⟨ps, n⟩ := a
  obtain ⟨qs, m⟩ := b
  dsimp only at *
  have hB0 : Below w.heap.size w ((w.alloc (.cells #[.slice A ps.length c, .int .i64 n] 41)).alloc (.cells #[.slice A' qs.length c', .int .i64 m] 41)) := ((Below.refl _ _).alloc (Nat.le_refl _) _).alloc (by simp) _
  go_enter Try.func21, Try.ntmps21
  go_wp2_with fail
  refine (laws_eqPageS A A' c c' ps qs _ hl hl' ((hR.alloc _).alloc _) ((hR'.alloc _).alloc _)).mono ?_
  rintro e w1 ⟨rfl, hb1⟩
  have hB1 := hB0.trans (hb1.mono hB0.size)
  have x1 : w1.cell? ⟨w.heap.size, 1, none⟩ = some (.int .i64 n) := (hb1.cell (by simp; omega)).trans (by simp)
  have y1 : w1.cell? ⟨w.heap.size + 1, 1, none⟩ = some (.int .i64 m) := (hb1.cell (by simp)).trans (by simp)
  clear hb1 hB0
  by_cases hpq : ps = qs
  · subst hpq
    have hq : Hid (∀ x, x = decide (n = m) → decide ((⟨ps, n⟩ : Bk) = ⟨ps, m⟩) = x) := by intro x hx; rw [hx]; simp
    rw [show decide (ps = ps) = true from by simp]
    go_wp2
    all_goals (go_ret; exact ⟨ret_bool (hq.out _ (by simp_all)).symm, hB1⟩)
  · have hq : Hid (decide ((⟨ps, n⟩ : Bk) = ⟨qs, m⟩) = false) := by unfold Hid; simp [hpq]
    rw [show decide (ps = qs) = false from by simpa using hpq]
    clear hpq
    go_wp2
    go_ret
    exact ⟨ret_bool hq.out.symm, hB1⟩
set_option maxHeartbeats 1000000 in
theorem laws_eqBlockS (A A' : Option Addr) (c c' : Nat) (f g : List Bk) (w : World) (hl : f.length < 1000000000000) (hl' : g.length < 1000000000000) (hp : ∀ b ∈ f, b.pages.length < 1000000000000) (hp' : ∀ b ∈ g, b.pages.length < 1000000000000) (hF : Fl w A f) (hF' : Fl w A' g) :
    Calls Try.prog 8 #[.slice A f.length c, .slice A' g.length c'] w fun e w' => e = .returned (.bool (decide (f = g))) ∧ Below w.heap.size w w' := by
  obtain ⟨hs, hF⟩ := hF
  obtain ⟨ks, hF'⟩ := hF'
  by_cases hn : f.length = g.length
  · have HN := Lib.hid hn
    have HP := Lib.hid hp
    have HP' := Lib.hid hp'
    rw [← hn]
    clear hn hl' hp hp'
    go_enter Try.func8, Try.ntmps8
    go_wp2
    go_loopw [5] (fun i wr => ∃ (k : Nat), k ≤ f.length ∧ i = .int .i64 k ∧ Below w.heap.size w wr ∧ Hid (decide (f = g) = decide (f.drop k = g.drop k))) (fun i _ => f.length - (intOf i).toNat)
    case atStart => exact ⟨0, by omega, rfl, Below.refl _ _, by simp [Hid]⟩
    case round =>
      obtain ⟨k, hk, rfl, hb, hg⟩ := hrel
      by_cases hlt : k < f.length
      · obtain ⟨p, hp⟩ := get_some hlt
        obtain ⟨q, hq⟩ := get_some (l := g) (k := k) (by have := HN.out; omega)
        have hd := Lib.hid (eq_drop hp hq)
        have hpl := HP.out p (List.mem_of_getElem? hp)
        have hql := HP'.out q (List.mem_of_getElem? hq)
        obtain ⟨b, o, rfl⟩ := hF.addr (by rintro rfl; simp at hlt)
        obtain ⟨b', o', rfl⟩ := hF'.addr (by rintro rfl; simp at hq)
        have hFk := hF.below hb (Nat.le_refl _)
        have hFk' := hF'.below hb (Nat.le_refl _)
        obtain ⟨⟨Ap, cp⟩, _, c0, c1, _, _, hRp, _⟩ := hFk.at_ hp
        obtain ⟨⟨Aq, cq⟩, _, d0, d1, _, _, hRq, _⟩ := hFk'.at_ hq
        have hk1 : (k : Int) < f.length := by omega
        dsimp only at *
        have hbb := lt_of_cell c0
        have hbb' := lt_of_cell d0
        clear hp hq
        go_wp2
        go_region_held3 (fun w' => w'.cell? ⟨b, o + k * 2, none⟩ = some (.slice Ap p.pages.length cp) ∧ w'.cell? ⟨b, o + k * 2 + 1, none⟩ = some (.int .i64 p.worn) ∧ w'.cell? ⟨b', o' + k * 2, none⟩ = some (.slice Aq q.pages.length cq) ∧ w'.cell? ⟨b', o' + k * 2 + 1, none⟩ = some (.int .i64 q.worn))
          (first | go_keep | trivial)
          (first | (go_at_call 21; refine (laws_eqBlock p q Ap Aq cp cq _ hpl hql hRp.drew hRq.drew).mono ?_; rintro e w1 ⟨rfl, hb1⟩; replace hb1 := undrew hb1; have e0 := (hb1.cell (p := ⟨b, o + k * 2, none⟩) hbb).trans c0; have e1 := (hb1.cell (p := ⟨b, o + k * 2 + 1, none⟩) hbb).trans c1; have g0 := (hb1.cell (p := ⟨b', o' + k * 2, none⟩) hbb').trans d0; have g1 := (hb1.cell (p := ⟨b', o' + k * 2 + 1, none⟩) hbb').trans d1))
        have hB1 := hb.trans (hb1.mono hb.size)
        go_wp2
        · have hne : (!decide (p = q)) = true := by assumption
          have hne' : decide (p = q) = false := by simpa using hne
          go_ret
          exact ⟨ret_bool (by rw [hg.out, hd.out, hne']; rfl), hB1⟩
        · have heq : (!decide (p = q)) = false := by assumption
          have heq' : decide (p = q) = true := by simpa using heq
          go_roundw
          case rel => exact ⟨k + 1, by omega, by go_num, hB1, by rw [Hid, hg.out, hd.out, heq', Bool.true_and]⟩
          case measure => simp [intOf]; omega
      · obtain rfl : k = f.length := by omega
        go_wp2
        go_ret
        exact ⟨ret_bool (by rw [hg.out, List.drop_of_length_le (Nat.le_refl _), List.drop_of_length_le (by have := HN.out; omega)]; rfl), hb⟩
  · have hq : Hid (decide (f = g) = false) := by unfold Hid; simp; intro e; exact hn (by rw [e])
    go_enter Try.func8, Try.ntmps8
    go_wp2
    go_ret
    exact ⟨ret_bool hq.out.symm, Below.refl _ _⟩
end Go.Proofs.Ytlkoadbanfjlaaa
