/- What the laws' walks share: words, plain laws, and the walks of functions, part 9. -/
import Derived.Deep.RegionHeld3
import Derived.Orders
import Derived.Test.YtclnogfmmekooaaZ8
namespace Go.Proofs.Ytclnogfmmekooaa
set_option linter.unusedVariables false
set_option linter.unusedSimpArgs false
theorem mem_seqsP {q : Int} {ps : List Pg} : q ∈ seqsP ps ↔ ∃ p ∈ ps, p.state = 1 ∧ p.rc.seq = q := by
 unfold seqsP
 rw [List.mem_map]
 constructor
 · rintro ⟨p, hp, rfl⟩
   rw [List.mem_filter] at hp
   exact ⟨p, hp.1, by simpa using hp.2, rfl⟩
 · rintro ⟨p, hp, h1, rfl⟩
   exact ⟨p, List.mem_filter.2 ⟨hp, by simpa using h1⟩, rfl⟩
theorem mem_seqsF {q : Int} {f : List Bk} : q ∈ seqsF f ↔ ∃ b ∈ f, q ∈ seqsP b.pages := by unfold seqsF; rw [List.mem_flatMap]
theorem seqIn_iff {f : List Bk} {s : Int} : seqIn f s = true ↔ s ∈ seqsF f := by
 rw [mem_seqsF]
 unfold seqIn
 rw [List.any_eq_true]
 constructor
 · rintro ⟨b, hb, h⟩
   rw [List.any_eq_true] at h
   obtain ⟨p, hp, h⟩ := h
   unfold hasSeq at h
   rw [Bool.and_eq_true, decide_eq_true_iff, decide_eq_true_iff] at h
   exact ⟨b, hb, mem_seqsP.2 ⟨p, hp, h.1, h.2⟩⟩
 · rintro ⟨b, hb, h⟩
   obtain ⟨p, hp, h1, h2⟩ := mem_seqsP.1 h
   refine ⟨b, hb, List.any_eq_true.2 ⟨p, hp, ?_⟩⟩
   unfold hasSeq
   rw [Bool.and_eq_true, decide_eq_true_iff, decide_eq_true_iff]
   exact ⟨h1, h2⟩
/-- two blocks' numbers are apart -/
theorem seqs_apart : ∀ {f : List Bk}, (seqsF f).Nodup → ∀ {i j : Nat} {a b : Bk} {q : Int}, i ≠ j → f[i]? = some a → f[j]? = some b → q ∈ seqsP a.pages → q ∉ seqsP b.pages
 | [], _, i, j, a, b, q, _, h1, _, _ => by simp at h1
 | c :: f, hn, i, j, a, b, q, hij, h1, h2, hq => by
   rw [show seqsF (c :: f) = seqsP c.pages ++ seqsF f from by simp [seqsF], List.nodup_append] at hn
   obtain ⟨n1, n2, n3⟩ := hn
   intro hq2
   cases i with
   | zero =>
     rw [List.getElem?_cons_zero, Option.some.injEq] at h1
     subst h1
     cases j with
     | zero => exact hij rfl
     | succ j =>
       rw [List.getElem?_cons_succ] at h2
       exact n3 q hq q (mem_seqsF.2 ⟨b, List.mem_of_getElem? h2, hq2⟩) rfl
   | succ i =>
     rw [List.getElem?_cons_succ] at h1
     cases j with
     | zero =>
       rw [List.getElem?_cons_zero, Option.some.injEq] at h2
       subst h2
       exact n3 q hq2 q (mem_seqsF.2 ⟨a, List.mem_of_getElem? h1, hq⟩) rfl
     | succ j =>
       rw [List.getElem?_cons_succ] at h2
       exact seqs_apart n2 (fun e => hij (by rw [e])) h1 h2 hq hq2
theorem mostPs_spec : ∀ (ps : List Pg) (n : Int), (∀ p ∈ ps, pageOk p = true) → 0 ≤ n → n ≤ mostPs n ps ∧ (∀ q ∈ seqsP ps, q ≤ mostPs n ps) ∧ (mostPs n ps = n ∨ mostPs n ps ∈ seqsP ps)
 | [], n, _, _ => ⟨by unfold mostPs; simp, fun q h => by simp [seqsP] at h, .inl rfl⟩
 | p :: ps, n, hp, h => by
   have ho := hp p (List.mem_cons_self ..)
   obtain ⟨i1, i2, i3⟩ := mostPs_spec ps (max n p.rc.seq) (fun q hq => hp q (List.mem_cons_of_mem _ hq)) (by omega)
   have he : mostPs n (p :: ps) = mostPs (max n p.rc.seq) ps := rfl
   rw [he, seqsP_cons]
   by_cases h1 : p.state = 1
   · rw [if_pos h1]
     refine ⟨by omega, fun q hq => ?_, ?_⟩
     · rcases List.mem_cons.1 hq with rfl | hq
       · omega
       · exact i2 q hq
     · rcases i3 with i3 | i3
       · rw [i3]
         by_cases hm : n ≤ p.rc.seq
         · right; rw [show max n p.rc.seq = p.rc.seq by omega]; exact List.mem_cons_self ..
         · left; omega
       · exact .inr (List.mem_cons_of_mem _ i3)
   · rw [if_neg h1]
     have := clean_seq ho h1
     rw [show max n p.rc.seq = n by omega] at *
     exact ⟨i1, i2, i3⟩
theorem seq_pos {ps : List Pg} (hp : ∀ p ∈ ps, pageOk p = true) {q : Int} (hq : q ∈ seqsP ps) : 1 ≤ q ∧ q ≤ 600 := by
 obtain ⟨p, h, h1, rfl⟩ := mem_seqsP.1 hq
 have := recOk_addr (rec_of_written (hp p h) h1)
 omega
theorem leastPs_spec : ∀ (ps : List Pg) (n : Int), (∀ p ∈ ps, pageOk p = true) → 0 ≤ n →
 (ps.foldl leastStep n = n ∧ (n = 0 → seqsP ps = []) ∨ ps.foldl leastStep n ∈ seqsP ps) ∧ (∀ q ∈ seqsP ps, ps.foldl leastStep n ≤ q) ∧ (0 < n → 0 < ps.foldl leastStep n ∧ ps.foldl leastStep n ≤ n) ∧ 0 ≤ ps.foldl leastStep n
 | [], n, _, h => ⟨.inl ⟨rfl, fun _ => rfl⟩, fun q hq => by simp [seqsP] at hq, fun h => ⟨h, Int.le_refl _⟩, h⟩
 | p :: ps, n, hp, h => by
   have ho := hp p (List.mem_cons_self ..)
   have hps := fun q hq => hp q (List.mem_cons_of_mem _ hq)
   rw [List.foldl_cons, seqsP_cons]
   by_cases h1 : p.state = 1
   · have hr := recOk_addr (rec_of_written ho h1)
     rw [if_pos h1]
     unfold leastStep
     by_cases hc : 0 < p.rc.seq ∧ (n = 0 ∨ p.rc.seq < n)
     · rw [if_pos hc]
       obtain ⟨i1, i2, i3, i4⟩ := leastPs_spec ps p.rc.seq hps (by omega)
       have i5 := i3 (by omega)
       unfold leastStep at *
       refine ⟨.inr ?_, fun q hq => ?_, fun h0 => ⟨i5.1, by omega⟩, i4⟩
       · rcases i1 with ⟨i1, _⟩ | i1
         · rw [i1]; exact List.mem_cons_self ..
         · exact List.mem_cons_of_mem _ i1
       · rcases List.mem_cons.1 hq with rfl | hq
         · exact i5.2
         · exact i2 q hq
     · rw [if_neg hc]
       obtain ⟨i1, i2, i3, i4⟩ := leastPs_spec ps n hps h
       have h0 : 0 < n := by
        by_cases h0 : 0 < n
        · exact h0
        · exact absurd ⟨by omega, .inl (by omega)⟩ hc
       have i5 := i3 h0
       unfold leastStep at *
       refine ⟨?_, fun q hq => ?_, i3, i4⟩
       · rcases i1 with ⟨i1, _⟩ | i1
         · exact .inl ⟨i1, fun e => by omega⟩
         · exact .inr (List.mem_cons_of_mem _ i1)
       · rcases List.mem_cons.1 hq with rfl | hq
         · have : ¬ p.rc.seq < n := fun e => hc ⟨by omega, .inr e⟩
           omega
         · exact i2 q hq
   · rw [if_neg h1]
     have h0 := clean_seq ho h1
     have : leastStep n p = n := by unfold leastStep; rw [if_neg (by rintro ⟨h, _⟩; omega)]
     rw [this]
     exact leastPs_spec ps n hps h
/-- the greatest and the least number of a block -/
theorem most_le {b : Bk} (hp : ∀ p ∈ b.pages, pageOk p = true) {q : Int} (hq : q ∈ seqsP b.pages) : q ≤ most b := (mostPs_spec b.pages 0 hp (Int.le_refl _)).2.1 q hq
theorem most_mem {b : Bk} (hp : ∀ p ∈ b.pages, pageOk p = true) (h : 0 < most b) : most b ∈ seqsP b.pages := by
 rcases (mostPs_spec b.pages 0 hp (Int.le_refl _)).2.2 with h1 | h1
 · have : most b = 0 := h1
   omega
 · exact h1
theorem most_nn {b : Bk} (hp : ∀ p ∈ b.pages, pageOk p = true) : 0 ≤ most b := (mostPs_spec b.pages 0 hp (Int.le_refl _)).1
theorem least_le {b : Bk} (hp : ∀ p ∈ b.pages, pageOk p = true) {q : Int} (hq : q ∈ seqsP b.pages) : least b ≤ q := (leastPs_spec b.pages 0 hp (Int.le_refl _)).2.1 q hq
theorem least_mem {b : Bk} (hp : ∀ p ∈ b.pages, pageOk p = true) (h : 0 < most b) : least b ∈ seqsP b.pages := by
 have hm := most_mem hp h
 rcases (leastPs_spec b.pages 0 hp (Int.le_refl _)).1 with ⟨_, h2⟩ | h2
 · rw [h2 rfl] at hm; cases hm
 · exact h2
theorem least_most {b : Bk} (hp : ∀ p ∈ b.pages, pageOk p = true) (h : 0 < most b) : 0 < least b ∧ least b ≤ most b :=
 ⟨by have := seq_pos hp (least_mem hp h); omega, most_le hp (least_mem hp h)⟩
theorem most_none {b : Bk} (hp : ∀ p ∈ b.pages, pageOk p = true) (h : seqsP b.pages = []) : most b = 0 := by
 have h0 := most_nn hp
 by_cases hm : 0 < most b
 · have := most_mem hp hm
   rw [h] at this; cases this
 · omega
/-! ### a page written -/
theorem four {α : Type} {l : List α} (h : l.length = 4) : ∃ a b c d, l = [a, b, c, d] := by
 match l, h with
 | [a, b, c, d], _ => exact ⟨a, b, c, d, rfl⟩
theorem shape_put {ps : List Pg} (h4 : ps.length = 4) (hs : shapeGo false ps = true) {q : Pg} (hq : q.state ≠ 0) (hc : ps.countP isClean ≠ 0) :
 shapeGo false (ps.set (4 - ps.countP isClean) q) = true ∧ (∃ p, ps[4 - ps.countP isClean]? = some p ∧ p.state = 0) ∧ (ps.set (4 - ps.countP isClean) q).countP isClean + 1 = ps.countP isClean := by
 obtain ⟨a, b, c, d, rfl⟩ := four h4
 by_cases ha : a.state = 0 <;> by_cases hb : b.state = 0 <;> by_cases hc' : c.state = 0 <;> by_cases hd : d.state = 0 <;>
  simp [shapeGo, isClean, List.countP_cons, ha, hb, hc', hd, hq] at hs hc ⊢
theorem seqsP_put : ∀ (ps : List Pg) (k : Nat) (p q : Pg), ps[k]? = some p → p.state ≠ 1 → q.state = 1 → (seqsP (ps.set k q)).Perm (q.rc.seq :: seqsP ps)
 | [], k, p, q, h, _, _ => by simp at h
 | a :: ps, 0, p, q, h, h1, hq => by
   rw [List.getElem?_cons_zero, Option.some.injEq] at h
   subst h
   rw [List.set_cons_zero, seqsP_cons, seqsP_cons, if_pos hq, if_neg h1]
 | a :: ps, k + 1, p, q, h, h1, hq => by
   rw [List.getElem?_cons_succ] at h
   have ih := seqsP_put ps k p q h h1 hq
   rw [List.set_cons_succ, seqsP_cons, seqsP_cons]
   split
   · exact (ih.cons _).trans (List.Perm.swap _ _ _)
   · exact ih
theorem seqsP_torn : ∀ (ps : List Pg) (k : Nat) (p q : Pg), ps[k]? = some p → p.state ≠ 1 → q.state ≠ 1 → seqsP (ps.set k q) = seqsP ps
 | [], k, p, q, h, _, _ => by simp at h
 | a :: ps, 0, p, q, h, h1, hq => by
   rw [List.getElem?_cons_zero, Option.some.injEq] at h
   subst h
   rw [List.set_cons_zero, seqsP_cons, seqsP_cons, if_neg hq, if_neg h1]
 | a :: ps, k + 1, p, q, h, h1, hq => by
   rw [List.getElem?_cons_succ] at h
   have ih := seqsP_torn ps k p q h h1 hq
   rw [List.set_cons_succ, seqsP_cons, seqsP_cons, ih]
theorem seqsF_put : ∀ (f : List Bk) (i : Nat) (b c : Bk) (xs : List Int), f[i]? = some b → (seqsP c.pages).Perm (xs ++ seqsP b.pages) → (seqsF (f.set i c)).Perm (xs ++ seqsF f)
 | [], i, b, c, xs, h, _ => by simp at h
 | a :: f, 0, b, c, xs, h, hc => by
   rw [List.getElem?_cons_zero, Option.some.injEq] at h
   subst h
   rw [List.set_cons_zero, show seqsF (c :: f) = seqsP c.pages ++ seqsF f from by simp [seqsF], show seqsF (a :: f) = seqsP a.pages ++ seqsF f from by simp [seqsF], ← List.append_assoc]
   exact hc.append_right _
 | a :: f, i + 1, b, c, xs, h, hc => by
   rw [List.getElem?_cons_succ] at h
   have ih := seqsF_put f i b c xs h hc
   rw [List.set_cons_succ, show seqsF (a :: f.set i c) = seqsP a.pages ++ seqsF (f.set i c) from by simp [seqsF], show seqsF (a :: f) = seqsP a.pages ++ seqsF f from by simp [seqsF]]
   refine (ih.append_left _).trans ?_
   rw [← List.append_assoc, ← List.append_assoc]
   exact List.perm_append_comm.append_right _
/-- the page that a record leaves -/
def putPg (r : Rc) (torn : Bool) : Pg := if torn then ⟨2, rc0⟩ else ⟨1, r⟩
def putBk (b : Bk) (r : Rc) (torn : Bool) : Bk := { b with pages := b.pages.set (4 - clean b) (putPg r torn) }
theorem putPg_ok {r : Rc} (h : recOk r = true) (torn : Bool) : pageOk (putPg r torn) = true ∧ (putPg r torn).state ≠ 0 := by
 cases torn
 · exact ⟨put_ok h, by show (1 : Int) ≠ 0; decide⟩
 · exact ⟨torn_ok, by show (2 : Int) ≠ 0; decide⟩
theorem bk_parts {f : List Bk} (h : flashOk f = true) {b : Bk} (hb : b ∈ f) : b.pages.length = 4 ∧ (0 ≤ b.worn ∧ b.worn ≤ 200) ∧ shapeGo false b.pages = true ∧ ∀ p ∈ b.pages, pageOk p = true := by
 obtain ⟨h1, h2⟩ := ((flashOk_iff f).1 h).2.1 b hb
 unfold blockShape at h1
 rw [Bool.and_eq_true, Bool.and_eq_true, Bool.and_eq_true, decide_eq_true_iff, decide_eq_true_iff, decide_eq_true_iff] at h1
 exact ⟨h1.1, ⟨h1.2.1, h1.2.2.1⟩, h1.2.2.2, h2⟩
theorem putBk_parts {f : List Bk} (h : flashOk f = true) {b : Bk} (hb : b ∈ f) {r : Rc} (hr : recOk r = true) (torn : Bool) (hc : clean b ≠ 0) :
 blockShape (putBk b r torn) = true ∧ (∀ p ∈ (putBk b r torn).pages, pageOk p = true) ∧ clean (putBk b r torn) + 1 = clean b ∧
 (torn = true → seqsP (putBk b r torn).pages = seqsP b.pages) ∧ (torn = false → (seqsP (putBk b r torn).pages).Perm ([r.seq] ++ seqsP b.pages)) := by
 obtain ⟨h1, h2, h3, h4⟩ := bk_parts h hb
 obtain ⟨p1, p2⟩ := putPg_ok hr torn
 obtain ⟨s1, ⟨p, hp, hp0⟩, s3⟩ := shape_put h1 h3 p2 hc
 refine ⟨?_, fun q hq => ?_, s3, ?_, ?_⟩
 · unfold blockShape putBk
   rw [Bool.and_eq_true, Bool.and_eq_true, Bool.and_eq_true, decide_eq_true_iff, decide_eq_true_iff, decide_eq_true_iff]
   exact ⟨by rw [List.length_set]; exact h1, h2.1, h2.2, s1⟩
 · rcases List.mem_or_eq_of_mem_set hq with hq | rfl
   · exact h4 q hq
   · exact p1
 · rintro rfl
   exact seqsP_torn _ _ p _ hp (by omega) (by show (2 : Int) ≠ 1; decide)
 · rintro rfl
   exact seqsP_put _ _ p _ hp (by omega) rfl
theorem put_ok4 {f : List Bk} (h : flashOk f = true) {i : Nat} {b : Bk} (hb : f[i]? = some b) {r : Rc} (hr : recOk r = true) (torn : Bool) (hc : clean b ≠ 0) (hs : seqIn f r.seq ≠ true) : flashOk (f.set i (putBk b r torn)) = true := by
 obtain ⟨k1, k2, _, k4, k5⟩ := putBk_parts h (List.mem_of_getElem? hb) hr torn hc
 replace hs : r.seq ∉ seqsF f := fun e => hs (seqIn_iff.2 e)
 rw [flashOk_iff] at h ⊢
 obtain ⟨a, b', c⟩ := h
 refine ⟨by simpa using a, fun x hx => ?_, ?_⟩
 · rcases List.mem_or_eq_of_mem_set hx with hx | rfl
   · exact b' x hx
   · exact ⟨k1, k2⟩
 · cases torn
   · exact (seqsF_put f i b _ [r.seq] hb (k5 rfl)).nodup_iff.2 (List.nodup_cons.2 ⟨hs, c⟩)
   · exact (seqsF_put f i b _ [] hb (by rw [k4 rfl]; exact List.Perm.refl _)).nodup_iff.2 c
/-- what FlashWrite answers, of an ok flash -/
theorem write_some {f : List Bk} (h : flashOk f = true) {i : Nat} {b : Bk} (hb : f[i]? = some b) {r : Rc} (hr : recOk r = true) (torn : Bool) :
 flashWrite f i r torn = if clean b = 0 ∨ seqIn f r.seq = true then (f, false) else (f.set i (putBk b r torn), true) := by
 have hl := flashOk_len h
 have hi : i < 4 := by rw [← hl]; exact (List.getElem?_eq_some_iff.1 hb).1
 have hg : f.getD i zbk = b := by rw [List.getD_eq_getElem?_getD, hb]; rfl
 have hB : blockB (i : Int) = true := by unfold blockB; simp; omega
 unfold flashWrite
 rw [if_neg (by rw [h, hB, hr]; simp), Int.toNat_natCast]
 unfold writeR
 rw [hg]
 rfl
end Go.Proofs.Ytclnogfmmekooaa
namespace Go.Proofs.Ytclnogfmmekooaa
set_option linter.unusedVariables false
set_option linter.unusedSimpArgs false
open Go.RowKit Go.Maps
set_option maxHeartbeats 400000
theorem writeR_len (f : List Bk) (i : Nat) (r : Rc) (t : Bool) : (writeR f i r t).1.length = f.length := by
 unfold writeR; split <;> simp
set_option maxHeartbeats 4000000 in
set_option maxRecDepth 100000 in
theorem impl_FlashWrite (f : List Bk) (block : Int) (r : Rc) (torn : Bool) (A : Option Addr) (n c : Nat) (w : World) (hn : n = f.length) (hF : Fl w A f) :
 Calls Try.prog 26 #[.slice A n c, .int .i64 block, .agg #[.int .i64 r.kind, .int .i64 r.seq, .int .i64 r.addr, .int .i64 r.val], .bool torn] w (FlPost (flashWrite f block r torn) w) := by
 subst hn
 have hF0 := hF.alloc (.cells #[.int .i64 r.kind, .int .i64 r.seq, .int .i64 r.addr, .int .i64 r.val] 40)
 have hB0 : Below w.heap.size w (w.alloc (.cells #[.int .i64 r.kind, .int .i64 r.seq, .int .i64 r.addr, .int .i64 r.val] 40)) := by (repeat (first | (with_reducible exact Below.refl _ _) | (with_reducible assumption) | (refine Below.setCell ?_ (by first | omega | exact hB.size | exact hb.size | (have h := hB.size; simp; omega) | (have h := hb.size; simp; omega) | (simp; omega) | simp) _) | (refine Below.alloc ?_ (by first | omega | exact hB.size | exact hb.size | (have h := hB.size; simp; omega) | (have h := hb.size; simp; omega) | (simp; omega) | simp) _) | (refine Below.drew ?_)))
 have hq := Row.new w #[.int .i64 r.kind, .int .i64 r.seq, .int .i64 r.addr, .int .i64 r.val] 40
 obtain ⟨r0, _⟩ := hq.at0 (j := 0) rfl
 obtain ⟨r1, _⟩ := hq.at0 (j := 1) rfl
 obtain ⟨r2, _⟩ := hq.at0 (j := 2) rfl
 obtain ⟨r3, _⟩ := hq.at0 (j := 3) rfl
 have hs0 : w.heap.size < (w.alloc (.cells #[.int .i64 r.kind, .int .i64 r.seq, .int .i64 r.addr, .int .i64 r.val] 40)).heap.size := by simp
 have hfin : Hid (flashWrite f block r torn = if flashOk f = false ∨ blockB block = false ∨ recOk r = false then ([], false) else writeR f block.toNat r torn) := rfl
 clear hq
 go_enter Try.func26, Try.ntmps26
 go_wp2_with fail
 refine (impl_FlashOk f A c _ hF0).mono ?_
 rintro e w1 ⟨rfl, hb⟩
 replace r0 := (hb.cell (p := ⟨w.heap.size, 0, none⟩) hs0).trans r0
 replace r1 := (hb.cell (p := ⟨w.heap.size, 1, none⟩) hs0).trans r1
 replace r2 := (hb.cell (p := ⟨w.heap.size, 2, none⟩) hs0).trans r2
 replace r3 := (hb.cell (p := ⟨w.heap.size, 3, none⟩) hs0).trans r3
 have hF1 := hF0.below hb (Nat.le_refl _)
 have hs1 : w.heap.size < w1.heap.size := Nat.lt_of_lt_of_le hs0 hb.size
 have hB1 : Below w.heap.size w w1 := hB0.trans (hb.mono (by simp))
 clear hb hB0 hF0 hs0
 by_cases hok : flashOk f = true
 · rw [hok]
   have hl := flashOk_len hok
   have hsh := Lib.hid (flashOk_shape hok)
   have HL := Lib.hid hl
   go_wp2_with fail
   refine (impl_blockOk _ _).mono ?_
   rintro e w2 ⟨rfl, rfl⟩
   by_cases hbo : blockB block = true
   · rw [hbo]
     have hb04 : 0 ≤ block ∧ block < 4 := by unfold blockB at hbo; simpa using hbo
     obtain ⟨i, rfl⟩ := Int.eq_ofNat_of_zero_le hb04.1
     have hi4 : i < 4 := by omega
     obtain ⟨B, hB⟩ := get_some (l := f) (k := i) (by omega)
     have hB4 := (hsh.out B (List.mem_of_getElem? hB)).1
     have hBget : f.getD i zbk = B := by rw [List.getD_eq_getElem?_getD, hB]; rfl
     have hcl := clean_le4 hB4
     have hi4' : (i : Int) < 4 := by omega
     go_wp2_with fail
     refine (impl_RecOk r _).mono ?_
     rintro e w2 ⟨rfl, hb⟩
     replace r0 := (hb.cell (p := ⟨w.heap.size, 0, none⟩) hs1).trans r0
     replace r1 := (hb.cell (p := ⟨w.heap.size, 1, none⟩) hs1).trans r1
     replace r2 := (hb.cell (p := ⟨w.heap.size, 2, none⟩) hs1).trans r2
     replace r3 := (hb.cell (p := ⟨w.heap.size, 3, none⟩) hs1).trans r3
     have hF2 := hF1.below hb (Nat.le_refl _)
     have hs2 : w.heap.size < w2.heap.size := Nat.lt_of_lt_of_le hs1 hb.size
     have hB2 := hB1.trans (hb.mono (by omega))
     clear hb hF1 hB1
     by_cases hro : recOk r = true
     · rw [hro]
       have hfin2 : Hid (flashWrite f i r torn = if clean B = 0 ∨ seqIn f r.seq = true then (f, false) else (f.set i { B with pages := B.pages.set (4 - clean B) (if torn then ⟨2, rc0⟩ else ⟨1, r⟩) }, true)) := by
        rw [Hid, hfin.out, if_neg (by rw [hok, hbo, hro]; simp), Int.toNat_natCast]
        unfold writeR
        rw [hBget]
       have HB := Lib.hid hB
       have HB4 := Lib.hid hB4
       clear hfin hok hbo hro hB hB4 hBget hl hb04
       go_wp2_with fail
       refine (impl_flashCopy A c f _ HL.out (fun b hb => (hsh.out b hb).1) hF2).mono ?_
       rintro e w3 ⟨g, rfl, ⟨hs, hBk, hApt⟩, hb⟩
       replace r0 := (hb.cell (p := ⟨w.heap.size, 0, none⟩) hs2).trans r0
       replace r1 := (hb.cell (p := ⟨w.heap.size, 1, none⟩) hs2).trans r1
       replace r2 := (hb.cell (p := ⟨w.heap.size, 2, none⟩) hs2).trans r2
       replace r3 := (hb.cell (p := ⟨w.heap.size, 3, none⟩) hs2).trans r3
       have hs3 : w.heap.size < w3.heap.size := Nat.lt_of_lt_of_le hs2 hb.size
       have hB3 := hB2.trans (hb.mono (by omega))
       have hlo : w.heap.size ≤ w2.heap.size := by omega
       have hhi := hb.size
       obtain ⟨⟨Z, cz⟩, hx, z0, z1, z2, z3, hR, _⟩ := hBk.at_ HB.out
       dsimp only at z0 hR
       rw [Nat.zero_add] at z0 z1 z2 z3
       rw [HB4.out] at z0
       have HX := Lib.hid hx
       have hpl : B.pages.length < 1000000000000 := by rw [HB4.out]; omega
       clear hb hF2 hB2 hx
       go_wp2_with fail
       refine (impl_freePages B Z 4 cz _ HB4.out.symm hpl hR).mono ?_
       rintro e w4 ⟨rfl, hb⟩
       replace r0 := (hb.cell (p := ⟨w.heap.size, 0, none⟩) hs3).trans r0
       replace r1 := (hb.cell (p := ⟨w.heap.size, 1, none⟩) hs3).trans r1
       replace r2 := (hb.cell (p := ⟨w.heap.size, 2, none⟩) hs3).trans r2
       replace r3 := (hb.cell (p := ⟨w.heap.size, 3, none⟩) hs3).trans r3
       have hs4 : w.heap.size < w4.heap.size := Nat.lt_of_lt_of_le hs3 hb.size
       have hB4' := hB3.trans (hb.mono (by omega))
       have hBk4 := hBk.below hb (Nat.le_refl _)
       have hhi4 := hb.size
       clear hb hBk hB3 z0 z1 z2 z3 hR
       generalize clean B = n at *
       by_cases h0 : n = 0
       · subst h0
         have h3 : Hid (flashWrite f i r torn = (f, false)) := by rw [Hid, hfin2.out, if_pos (.inl rfl)]
         go_wp2
         go_ret2
         rw [h3.out]
         exact ⟨some ⟨g, 0, none⟩, 4, ret_sl HL.out.symm, by rw [HL.out]; exact Nat.le_refl _, ⟨hs, hBk4, hApt.mono hlo hhi4⟩, hB4'⟩
       · have hn0 : ((n : Int) == 0) = false := by rw [beq_eq_false_iff_ne]; omega
         go_wp2_with fail
         refine (impl_seqUsed f r.seq _ 4 4 _ HL.out.symm (by rw [HL.out]; omega) (fun b hb => by rw [(hsh.out b hb).1]; omega) ⟨hs, hBk4⟩).mono ?_
         rintro e w5 ⟨rfl, hb⟩
         replace r0 := (hb.cell (p := ⟨w.heap.size, 0, none⟩) hs4).trans r0
         replace r1 := (hb.cell (p := ⟨w.heap.size, 1, none⟩) hs4).trans r1
         replace r2 := (hb.cell (p := ⟨w.heap.size, 2, none⟩) hs4).trans r2
         replace r3 := (hb.cell (p := ⟨w.heap.size, 3, none⟩) hs4).trans r3
         have hs5 : w.heap.size < w5.heap.size := Nat.lt_of_lt_of_le hs4 hb.size
         have hB5 := hB4'.trans (hb.mono (by omega))
         have hBk5 := hBk4.below hb (Nat.le_refl _)
         have hhi5 := hb.size
         clear hb hBk4 hB4'
         by_cases hsq : seqIn f r.seq = true
         · have h3 : Hid (flashWrite f i r torn = (f, false)) := by rw [Hid, hfin2.out, if_pos (.inr hsq)]
           rw [hsq]
           go_wp2
           go_ret2
           rw [h3.out]
           exact ⟨some ⟨g, 0, none⟩, 4, ret_sl HL.out.symm, by rw [HL.out]; exact Nat.le_refl _, ⟨hs, hBk5, hApt.mono hlo (by omega)⟩, hB5⟩
         · have h3 : Hid (flashWrite f i r torn = (f.set i { B with pages := B.pages.set (4 - n) (if torn then ⟨2, rc0⟩ else ⟨1, r⟩) }, true)) := by
            rw [Hid, hfin2.out, if_neg (by intro h; rcases h with h | h; exact h0 h; exact hsq h)]
           rw [show seqIn f r.seq = false by simpa using hsq]
           obtain ⟨j, hj⟩ : ∃ j, j + n = 4 := ⟨4 - n, by omega⟩
           have hj4 : 4 - n = j := by omega
           have e1 : IntKind.i64.wrap ((4 : Int) - n) = (j : Int) := by rw [show (4 : Int) - n = j by omega]; exact IntWalk.i64_in _ (by omega)
           have e2 : (4 : Int) - n = (j : Int) := by omega
           rw [hj4] at h3
           clear hj4 hfin2 hsq
           obtain ⟨x, hx2, y0, y1, _, _, hR1, _⟩ := hBk5.at_ HB.out
           rw [HX.out] at hx2
           cases hx2
           dsimp only at y0 hR1
           rw [HB4.out, Nat.zero_add] at y0
           obtain ⟨p, hq⟩ := get_some (l := B.pages) (k := j) (by rw [HB4.out]; omega)
           obtain ⟨pb, po, rfl⟩ := hR1.addr (pgs_ne (by intro e; rw [e] at hq; simp at hq))
           obtain ⟨c0, c1, c2, c3, c4⟩ := hR1.pg hq
           obtain ⟨f0, f1, f2, f3, f4⟩ := hR1.pgf hq
           have hj1 : (j : Int) < 4 := by omega
           have hpin := hApt.in_ i _ pb HX.out (by rw [blk_some])
           have HQ := Lib.hid hq
           have hpb := lt_of_cell c0
           have hgl := lt_of_cell y0
           have hel : ∀ X : Bk, (f.set i X).length = 4 := fun X => by rw [List.length_set]; exact HL.out
           have HEL := Lib.hid hel
           clear hq hel
           cases torn
           · have hWp := wrote_page hR1 HQ.out ⟨1, r⟩
             have hBk6 := hBk5.setPage hApt HB.out HX.out (by rw [HB4.out]; omega) hWp
             have hB6 := hB5.trans (hWp.agr.below (B := w.heap.size) (by omega) (fun k e => by omega))
             have hss := hWp.size
             clear hWp hBk5 hB5
             go_wp2
             go_region
             all_goals
              go_wp2
              go_ret2
              rw [h3.out]
              exact ⟨some ⟨g, 0, none⟩, 4, ret_sl (HEL.out _).symm, by rw [HEL.out]; exact Nat.le_refl _, ⟨hs, (hBk6.alloc _).drew, hApt.mono hlo (by simp; omega)⟩, (hB6.alloc hB6.size _).drew⟩
           · have hWp := wrote_page hR1 HQ.out ⟨2, rc0⟩
             have hBk6 := hBk5.setPage hApt HB.out HX.out (by rw [HB4.out]; omega) hWp
             have hB6 := hB5.trans (hWp.agr.below (B := w.heap.size) (by omega) (fun k e => by omega))
             have hss := hWp.size
             simp only [rc0] at hBk6 hB6
             clear hWp hBk5 hB5
             go_wp2
             go_region
             all_goals
              go_wp2
              go_ret2
              rw [h3.out]
              exact ⟨some ⟨g, 0, none⟩, 4, ret_sl (HEL.out _).symm, by rw [HEL.out]; exact Nat.le_refl _, ⟨hs, (hBk6.alloc _).drew, hApt.mono hlo (by simp; omega)⟩, (hB6.alloc hB6.size _).drew⟩
     · have hro' : recOk r = false := by simpa using hro
       have h3 : Hid (flashWrite f i r torn = ([], false)) := by rw [Hid, hfin.out, if_pos (.inr (.inr hro'))]
       rw [hro']
       go_wp2
       go_ret2
       rw [h3.out]
       exact ⟨none, 0, rfl, Nat.le_refl _, ofl_nil _ _ _, hB2⟩
   · have hbo' : blockB block = false := by simpa using hbo
     have h3 : Hid (flashWrite f block r torn = ([], false)) := by rw [Hid, hfin.out, if_pos (.inr (.inl hbo'))]
     rw [hbo']
     go_wp2
     go_ret2
     rw [h3.out]
     exact ⟨none, 0, rfl, Nat.le_refl _, ofl_nil _ _ _, hB1⟩
 · have hok' : flashOk f = false := by simpa using hok
   have h3 : Hid (flashWrite f block r torn = ([], false)) := by rw [Hid, hfin.out, if_pos (.inl hok')]
   rw [hok']
   go_wp2
   go_ret2
   rw [h3.out]
   exact ⟨none, 0, rfl, Nat.le_refl _, ofl_nil _ _ _, hB1⟩
end Go.Proofs.Ytclnogfmmekooaa
namespace Go.Proofs.Ytclnogfmmekooaa
set_option linter.unusedVariables false
set_option linter.unusedSimpArgs false
open Go.RowKit Go.Maps
set_option maxHeartbeats 400000
def partly (b : Bk) : Bool := decide (0 < clean b) && decide (clean b < 4)
theorem impl_partlyUsed (b : Bk) (A : Option Addr) (n c : Nat) (w : World) (hn : n = b.pages.length) (hl : b.pages.length < 1000000000000) (hR : Row w A (pgs b.pages)) :
 Calls Try.prog 44 #[.agg #[.slice A n c, .int .i64 b.worn]] w fun e w' => e = .returned (.bool (partly b)) ∧ Below w.heap.size w w' := by
 subst hn
 have hB0 : Below w.heap.size w (w.alloc (.cells #[.slice A b.pages.length c, .int .i64 b.worn] 35)) := by (repeat (first | (with_reducible exact Below.refl _ _) | (with_reducible assumption) | (refine Below.setCell ?_ (by first | omega | exact hB.size | exact hb.size | (have h := hB.size; simp; omega) | (have h := hb.size; simp; omega) | (simp; omega) | simp) _) | (refine Below.alloc ?_ (by first | omega | exact hB.size | exact hb.size | (have h := hB.size; simp; omega) | (have h := hb.size; simp; omega) | (simp; omega) | simp) _) | (refine Below.drew ?_)))
 have hfin : Hid (partly b = (decide (0 < clean b) && decide (clean b < 4))) := rfl
 go_enter Try.func44, Try.ntmps44
 go_wp2_with fail
 refine (impl_freePages b A _ c _ rfl hl (hR.alloc _)).mono ?_
 rintro e w1 ⟨rfl, hb⟩
 have hB1 := hB0.trans (hb.mono (by simp))
 generalize clean b = n at *
 clear hb
 by_cases h0 : 0 < n
 · have h0' : (0 : Int) < n := by omega
   by_cases h4 : n < 4
   · have h4' : (n : Int) < 4 := by omega
     go_wp2
     go_ret
     exact ⟨ret_bool (by rw [hfin.out]; first | (simp [h0, h4]; done) | (simp [h0, h4]; omega)), hB1⟩
   · have h4' : ¬ (n : Int) < 4 := by omega
     go_wp2
     go_ret
     exact ⟨ret_bool (by rw [hfin.out]; first | (simp [h0, h4]; done) | (simp [h0, h4]; omega)), hB1⟩
 · have h0' : ¬ (0 : Int) < n := by omega
   go_wp2
   go_ret
   exact ⟨ret_bool (by rw [hfin.out]; simp [h0]), hB1⟩
def flashClean (f : List Bk) (k : Int) : Int := if flashOk f = false ∨ blockB k = false then -1 else clean (f.getD k.toNat zbk)
end Go.Proofs.Ytclnogfmmekooaa
namespace Go.Proofs.Ytclnogfmmekooaa
set_option linter.unusedVariables false
set_option linter.unusedSimpArgs false
open Go.RowKit Go.Maps
set_option maxHeartbeats 400000
def partGo : Nat → List Bk → Option Nat
 | _, [] => none
 | i, b :: r => if partly b = true then some i else partGo (i + 1) r
def bestGo (f : List Bk) : Nat → Nat → Bool → List Bk → Nat × Bool
 | _, best, found, [] => (best, found)
 | i, best, found, b :: r => if clean b = 4 ∧ (found = false ∨ b.worn < (f.getD best zbk).worn) then bestGo f (i + 1) i true r else bestGo f (i + 1) best found r
def openI (f : List Bk) : Int × Bool :=
 match partGo 0 f with
 | some i => ((i : Int), true)
 | none => (((bestGo f 0 0 false f).1 : Int), (bestGo f 0 0 false f).2)
theorem openGo_eq {f : List Bk} : ∀ (r : List Bk) (i best : Nat) (found : Bool) (out : Int), (∀ b ∈ r, b.pages.length = 4) → (found = false → best = 0 ∧ out = -1) → (found = true → out = best) →
 openGo f i out r = match partGo i r with
  | some j => ((j : Int), true)
  | none => (((bestGo f i best found r).1 : Int), (bestGo f i best found r).2)
 | [], i, best, found, out, _, h1, h2 => by
   cases found
   · obtain ⟨rfl, rfl⟩ := h1 rfl; rfl
   · obtain rfl := h2 rfl
     unfold openGo partGo bestGo
     simp
 | b :: r, i, best, found, out, hp, h1, h2 => by
   have hc := clean_le4 (hp b (List.mem_cons_self ..))
   have hp' : ∀ c ∈ r, c.pages.length = 4 := fun c hc => hp c (List.mem_cons_of_mem _ hc)
   unfold openGo partGo bestGo
   by_cases hpt : 0 < clean b ∧ clean b < 4
   · have hpb : partly b = true := by unfold partly; simp [hpt.1, hpt.2]
     rw [if_pos hpt, if_pos hpb]
   · have hpb : ¬ partly b = true := by unfold partly; simpa using hpt
     rw [if_neg hpt, if_neg hpb]
     by_cases h4 : clean b = 4 ∧ (found = false ∨ b.worn < (f.getD best zbk).worn)
     · have hcond : 0 < clean b ∧ (out < 0 ∨ b.worn < (f.getD out.toNat zbk).worn) := by
        refine ⟨by omega, ?_⟩
        cases found
        · obtain ⟨_, rfl⟩ := h1 rfl; exact .inl (by omega)
        · obtain rfl := h2 rfl
          rcases h4.2 with h | h
          · cases h
          · exact .inr (by rw [Int.toNat_natCast]; exact h)
       rw [if_pos hcond, if_pos h4]
       exact openGo_eq r (i + 1) i true i hp' (fun h => by cases h) (fun _ => rfl)
     · have hcond : ¬ (0 < clean b ∧ (out < 0 ∨ b.worn < (f.getD out.toNat zbk).worn)) := by
        rintro ⟨ha, hb⟩
        have hcl : clean b = 4 := by omega
        refine h4 ⟨hcl, ?_⟩
        cases found
        · exact .inl rfl
        · obtain rfl := h2 rfl
          rcases hb with hb | hb
          · omega
          · exact .inr (by rw [Int.toNat_natCast] at hb; exact hb)
       rw [if_neg hcond, if_neg h4]
       exact openGo_eq r (i + 1) best found out hp' h1 h2
theorem openI_eq {f : List Bk} (h : ∀ b ∈ f, b.pages.length = 4) : openB f = openI f := openGo_eq f 0 0 false (-1) h (fun _ => ⟨rfl, rfl⟩) (fun h => by cases h)
def findOpen (f : List Bk) : Int × Bool := if flashOk f = true then openB f else (0, false)
set_option maxHeartbeats 4000000 in
set_option maxRecDepth 100000 in
theorem impl_FindOpen (f : List Bk) (A : Option Addr) (n c : Nat) (w : World) (hn : n = f.length) (hF : Fl w A f) :
 Calls Try.prog 27 #[.slice A n c] w fun e w' => e = .returned (.tuple #[.int .i64 (findOpen f).1, .bool (findOpen f).2]) ∧ Below w.heap.size w w' := by
 subst hn
 go_enter Try.func27, Try.ntmps27
 go_wp2_with fail
 refine (impl_FlashOk f A c _ hF).mono ?_
 rintro e w1 ⟨rfl, hb1⟩
 have hF1 := hF.below hb1 (Nat.le_refl _)
 by_cases hok : flashOk f = true
 · have HSH := Lib.hid (fun b hb => (flashOk_shape hok b hb).1)
   have hfin : Hid (findOpen f = openI f) := by unfold Hid findOpen; rw [if_pos hok, openI_eq HSH.out]
   have HL := Lib.hid (flashOk_len hok)
   rw [hok]
   clear hok
   obtain ⟨hs, hBk⟩ := hF1
   obtain ⟨g, o, rfl⟩ := hBk.addr (by intro e; have := HL.out; rw [e] at this; simp at this)
   go_wp2
   go_loopw [15] (fun i wr => ∃ k : Nat, k ≤ f.length ∧ i = .int .i64 k ∧ Below w1.heap.size w1 wr ∧ Hid (partGo 0 f = partGo k (f.drop k))) (fun i _ => f.length - (intOf i).toNat)
   case atStart => exact ⟨0, by omega, rfl, Below.refl _ _, rfl⟩
   case round =>
    obtain ⟨k, hk, rfl, hB, hT⟩ := hrel
    by_cases hlt : k < f.length
    · obtain ⟨B, hb⟩ := get_some hlt
      obtain ⟨⟨Z, cz⟩, _, c0, c1, _, _, hR, _⟩ := (hBk.below hB (Nat.le_refl _)).at_ hb
      dsimp only at c0 hR
      have hpl : B.pages.length < 1000000000000 := by rw [HSH.out B (List.mem_of_getElem? hb)]; omega
      have hk1 : (k : Int) < f.length := by omega
      have hl4 := HL.out
      have e1 : IntKind.i64.wrap ((k : Int) + 1) = (k : Int) + 1 := IntWalk.i64_in _ (by omega)
      clear hl4
      have hT2 : Hid (partGo 0 f = if partly B = true then some k else partGo (k + 1) (f.drop (k + 1))) := by rw [Hid, hT.out, drop_cons hb]; rfl
      have hRa := hR.alloc (.cells #[.slice Z B.pages.length cz, .int .i64 B.worn] 35)
      have hBa : Below w1.heap.size w1 (wr.alloc (.cells #[.slice Z B.pages.length cz, .int .i64 B.worn] 35)) := hB.alloc hB.size _
      have hsz : (wr.alloc (.cells #[.slice Z B.pages.length cz, .int .i64 B.worn] 35)).heap.size = wr.heap.size + 1 := by simp
      clear hb hT
      go_wp2_with fail
      refine (impl_partlyUsed B Z _ cz _ rfl hpl hRa).mono ?_
      rintro e w2 ⟨rfl, hb2⟩
      have hB2 := hBa.trans (hb2.mono (by have := hB.size; omega))
      by_cases hpt : partly B = true
      · have h3 : Hid (openI f = ((k : Int), true)) := by rw [Hid]; unfold openI; rw [hT2.out, if_pos hpt]
        rw [hpt]
        go_wp2
        go_ret2
        exact ⟨by rw [hfin.out, h3.out]; rfl, hb1.trans (hB2.mono hb1.size)⟩
      · have h3 : Hid (partGo 0 f = partGo (k + 1) (f.drop (k + 1))) := by rw [Hid, hT2.out, if_neg hpt]
        rw [show partly B = false from by simpa using hpt]
        go_wp2
        go_roundw
        (case rel => exact ⟨k + 1, by omega, by go_num, hB2, h3⟩)
        (case measure => simp [intOf]; omega)
    · obtain rfl : k = f.length := by omega
      have hnone : Hid (openI f = (((bestGo f 0 0 false f).1 : Int), (bestGo f 0 0 false f).2)) := by
       rw [Hid]; unfold openI; rw [hT.out, List.drop_of_length_le (Nat.le_refl _)]; rfl
      clear hT
      have hl4 := HL.out
      have hfp : 0 < f.length := by omega
      clear hl4
      go_wp2
      go_loopw [6, 7, 26] (fun q u i wl => ∃ (k m : Nat) (fd : Bool), k ≤ f.length ∧ m < f.length ∧ i = .int .i64 k ∧ q = .int .i64 m ∧ u = .bool fd ∧ Below w1.heap.size w1 wl ∧ Hid (bestGo f 0 0 false f = bestGo f k m fd (f.drop k))) (fun _ _ i _ => f.length - (intOf i).toNat)
      case atStart => exact ⟨0, 0, false, by omega, hfp, rfl, rfl, rfl, hB, rfl⟩
      case round =>
       obtain ⟨k, m, fd, hk, hm, rfl, rfl, rfl, hBl, hT⟩ := hrel
       by_cases hlt : k < f.length
       · obtain ⟨B, hb⟩ := get_some hlt
         obtain ⟨Bm, hbm⟩ := get_some hm
         have hBkl := hBk.below hBl (Nat.le_refl _)
         obtain ⟨⟨Z, cz⟩, _, c0, c1, _, _, hR, _⟩ := hBkl.at_ hb
         obtain ⟨_, _, _, m1, _⟩ := hBkl.at_ hbm
         dsimp only at c0 hR
         have hpl : B.pages.length < 1000000000000 := by rw [HSH.out B (List.mem_of_getElem? hb)]; omega
         have hcl := clean_le4 (HSH.out B (List.mem_of_getElem? hb))
         have hgm : f.getD m zbk = Bm := by rw [List.getD_eq_getElem?_getD, hbm]; rfl
         have hT2 : Hid (bestGo f 0 0 false f = if clean B = 4 ∧ (fd = false ∨ B.worn < Bm.worn) then bestGo f (k + 1) k true (f.drop (k + 1)) else bestGo f (k + 1) m fd (f.drop (k + 1))) := by rw [Hid, hT.out, drop_cons hb, bestGo, hgm]
         have hk1 : (k : Int) < f.length := by omega
         have hm1 : (m : Int) < f.length := by omega
         clear hb hbm hgm hT hBkl
         have hl4 := HL.out
         have e1 : IntKind.i64.wrap ((k : Int) + 1) = (k : Int) + 1 := IntWalk.i64_in _ (by omega)
         clear hl4
         have hnw := Row.new wr #[.slice Z B.pages.length cz, .int .i64 B.worn] 35
         obtain ⟨y0, _⟩ := hnw.at0 (j := 0) rfl
         obtain ⟨y1, _⟩ := hnw.at0 (j := 1) rfl
         have l9 : wr.heap.size < (wr.alloc (.cells #[.slice Z B.pages.length cz, .int .i64 B.worn] 35)).heap.size := by simp
         have lg0 := lt_of_cell m1
         have y2 : (wr.alloc (.cells #[.slice Z B.pages.length cz, .int .i64 B.worn] 35)).cell? ⟨g, o + m * 2 + 1, none⟩ = some (.int .i64 Bm.worn) := (((Below.refl wr.heap.size wr).alloc (Nat.le_refl _) _).cell (p := ⟨g, o + m * 2 + 1, none⟩) lg0).trans m1
         have lg : g < (wr.alloc (.cells #[.slice Z B.pages.length cz, .int .i64 B.worn] 35)).heap.size := by omega
         have hRd := (hR.alloc (.cells #[.slice Z B.pages.length cz, .int .i64 B.worn] 35)).drew
         have hBa : Below w1.heap.size w1 (wr.alloc (.cells #[.slice Z B.pages.length cz, .int .i64 B.worn] 35)) := hBl.alloc hBl.size _
         have hsz := hBa.size
         clear hnw
         by_cases hq : clean B = 4
         · have HQ := Lib.hid hq
           cases fd
           · have h3 : Hid (bestGo f 0 0 false f = bestGo f (k + 1) k true (f.drop (k + 1))) := by rw [Hid, hT2.out, if_pos ⟨hq, .inl rfl⟩]
             clear hq
             go_wp2
             refine wp_region_held_drew (S := (fun w' => w'.cell? ⟨wr.heap.size, 0, none⟩ = some (.slice Z B.pages.length cz) ∧ w'.cell? ⟨wr.heap.size, 1, none⟩ = some (.int .i64 B.worn) ∧ w'.cell? ⟨g, o + m * 2 + 1, none⟩ = some (.int .i64 Bm.worn))) (by kernel_rfl) ⟨y0, y1, y2⟩ (fun hHeld => ?_)
             refine wpAnyH_take (i := 0) (v := ?va0) rfl (by kernel_rfl) (by kernel_rfl) (by kernel_rfl) (fun _ _ _ h => h) (Or.inl ⟨by rfl, ?ya0⟩) hHeld ?ra0
             case ya0 => (intro w' hS; (try dsimp only at hS); obtain ⟨s0, s1, s2⟩ := hS; (try go_simp); (try with_reducible rfl))
             try simp only [Act.put, jA, jB, jC, jD, jE, jF]
             refine wpAnyH_ready (rs := [1]) (by kernel_rfl) (by simp) ?_
             refine AllReadyH.cons rfl (fun K hK => ?_) AllReadyH.nil
             go_simp
             refine (impl_freePages B Z _ cz _ rfl hpl hRd).mono ?_
             rw [HQ.out]
             rintro e w10 ⟨rfl, hb10⟩
             replace hb10 := undrew hb10
             go_wp2_with fail
             refine hK.out _ _ ⟨(hb10.cell (p := ⟨wr.heap.size, 0, none⟩) l9).trans y0, (hb10.cell (p := ⟨wr.heap.size, 1, none⟩) l9).trans y1, (hb10.cell (p := ⟨g, o + m * 2 + 1, none⟩) lg).trans y2⟩ (fun hHeld2 => ?_)
             clear hK K
             try simp only [Act.put, jA, jB, jC, jD, jE, jF]
             refine wpAnyH_take (i := 2) (v := ?va2) rfl (by kernel_rfl) (by kernel_rfl) (by kernel_rfl) (fun _ _ _ h => h) (Or.inl ⟨by rfl, ?ya2⟩) hHeld2 ?ra2
             case ya2 => (intro w' hS; (try dsimp only at hS); obtain ⟨s0, s1, s2⟩ := hS; (try go_simp); (try with_reducible rfl))
             try simp only [Act.put, jA, jB, jC, jD, jE, jF]
             refine wpAnyH_take (i := 3) (v := ?va3) rfl (by kernel_rfl) (by kernel_rfl) (by kernel_rfl) (fun _ _ _ h => h) (Or.inl ⟨by rfl, ?ya3⟩) hHeld2 ?ra3
             case ya3 => (intro w' hS; (try dsimp only at hS); obtain ⟨s0, s1, s2⟩ := hS; (try go_simp); (try with_reducible rfl))
             try simp only [Act.put, jA, jB, jC, jD, jE, jF]
             refine wpAnyH_take (i := 4) (v := ?va4) rfl (by kernel_rfl) (by kernel_rfl) (by kernel_rfl) (fun _ _ _ h => h) (Or.inl ⟨by rfl, ?ya4⟩) hHeld2 ?ra4
             case ya4 => (intro w' hS; (try dsimp only at hS); obtain ⟨s0, s1, s2⟩ := hS; (try go_simp); (try with_reducible rfl))
             try simp only [Act.put, jA, jB, jC, jD, jE, jF]
             refine wpAnyH_take (i := 5) (v := ?va5) rfl (by kernel_rfl) (by kernel_rfl) (by kernel_rfl) (fun _ _ _ h => h) (Or.inl ⟨by rfl, ?ya5⟩) hHeld2 ?ra5
             case ya5 => (intro w' hS; (try dsimp only at hS); obtain ⟨s0, s1, s2⟩ := hS; (try go_simp); (try with_reducible rfl))
             try simp only [Act.put, jA, jB, jC, jD, jE, jF]
             refine wpAnyH_take (i := 6) (v := ?va6) rfl (by kernel_rfl) (by kernel_rfl) (by kernel_rfl) (fun _ _ _ h => h) (Or.inl ⟨by rfl, ?ya6⟩) hHeld2 ?ra6
             case ya6 => (intro w' hS; (try dsimp only at hS); obtain ⟨s0, s1, s2⟩ := hS; (try go_simp); (try with_reducible rfl))
             try simp only [Act.put, jA, jB, jC, jD, jE, jF]
             refine wpAnyH_take (i := 7) (v := undef) rfl (by kernel_rfl) (by kernel_rfl) (by kernel_rfl) (fun _ _ _ h => h) (Or.inr ⟨by rfl, rfl⟩) hHeld2 ?_
             try simp only [Act.put, jA, jB, jC, jD, jE, jF]
             refine wpAnyH_take (i := 8) (v := undef) rfl (by kernel_rfl) (by kernel_rfl) (by kernel_rfl) (fun _ _ _ h => h) (Or.inr ⟨by rfl, rfl⟩) hHeld2 ?_
             try simp only [Act.put, jA, jB, jC, jD, jE, jF]
             refine wpAnyH_take (i := 9) (v := undef) rfl (by kernel_rfl) (by kernel_rfl) (by kernel_rfl) (fun _ _ _ h => h) (Or.inr ⟨by rfl, rfl⟩) hHeld2 ?_
             try simp only [Act.put, jA, jB, jC, jD, jE, jF]
             refine wpAnyH_take (i := 10) (v := undef) rfl (by kernel_rfl) (by kernel_rfl) (by kernel_rfl) (fun _ _ _ h => h) (Or.inr ⟨by rfl, rfl⟩) hHeld2 ?_
             try simp only [Act.put, jA, jB, jC, jD, jE, jF]
             refine wpAnyH_take (i := 11) (v := undef) rfl (by kernel_rfl) (by kernel_rfl) (by kernel_rfl) (fun _ _ _ h => h) (Or.inr ⟨by rfl, rfl⟩) hHeld2 ?_
             try simp only [Act.put, jA, jB, jC, jD, jE, jF]
             refine wpAnyH_take (i := 12) (v := undef) rfl (by kernel_rfl) (by kernel_rfl) (by kernel_rfl) (fun _ _ _ h => h) (Or.inr ⟨by rfl, rfl⟩) hHeld2 ?_
             try simp only [Act.put, jA, jB, jC, jD, jE, jF]
             refine wpAnyH_take (i := 13) (v := undef) rfl (by kernel_rfl) (by kernel_rfl) (by kernel_rfl) (fun _ _ _ h => h) (Or.inr ⟨by rfl, rfl⟩) hHeld2 ?_
             try simp only [Act.put, jA, jB, jC, jD, jE, jF]
             refine wpAnyH_take (i := 14) (v := undef) rfl (by kernel_rfl) (by kernel_rfl) (by kernel_rfl) (fun _ _ _ h => h) (Or.inr ⟨by rfl, rfl⟩) hHeld2 ?_
             try simp only [Act.put, jA, jB, jC, jD, jE, jF]
             refine wpAnyH_take (i := 15) (v := ?va15) rfl (by kernel_rfl) (by kernel_rfl) (by kernel_rfl) (fun _ _ _ h => h) (Or.inl ⟨by rfl, ?ya15⟩) hHeld2 ?ra15
             case ya15 => (intro w' hS; (try dsimp only at hS); obtain ⟨s0, s1, s2⟩ := hS; (try go_simp); (try with_reducible rfl))
             try simp only [Act.put, jA, jB, jC, jD, jE, jF]
             refine wpAnyH_take (i := 16) (v := ?va16) rfl (by kernel_rfl) (by kernel_rfl) (by kernel_rfl) (fun _ _ _ h => h) (Or.inl ⟨by rfl, ?ya16⟩) hHeld2 ?ra16
             case ya16 => (intro w' hS; (try dsimp only at hS); obtain ⟨s0, s1, s2⟩ := hS; (try go_simp); (try with_reducible rfl))
             try simp only [Act.put, jA, jB, jC, jD, jE, jF]
             refine wpAnyH_done (by kernel_rfl) ?_ _
             have hB10 := hBa.trans (hb10.mono hsz)
             clear y0 y1 y2 hb10
             go_wp2
             go_roundw
             (case rel => exact ⟨k + 1, k, true, by omega, by omega, by go_num, rfl, rfl, hB10, h3⟩)
             (case measure => simp [intOf]; omega)
           · by_cases hwn : B.worn < Bm.worn
             · have h3 : Hid (bestGo f 0 0 false f = bestGo f (k + 1) k true (f.drop (k + 1))) := by rw [Hid, hT2.out, if_pos ⟨hq, .inr hwn⟩]
               clear hq
               go_wp2
               refine wp_region_held_drew (S := (fun w' => w'.cell? ⟨wr.heap.size, 0, none⟩ = some (.slice Z B.pages.length cz) ∧ w'.cell? ⟨wr.heap.size, 1, none⟩ = some (.int .i64 B.worn) ∧ w'.cell? ⟨g, o + m * 2 + 1, none⟩ = some (.int .i64 Bm.worn))) (by kernel_rfl) ⟨y0, y1, y2⟩ (fun hHeld => ?_)
               refine wpAnyH_take (i := 0) (v := ?vb0) rfl (by kernel_rfl) (by kernel_rfl) (by kernel_rfl) (fun _ _ _ h => h) (Or.inl ⟨by rfl, ?yb0⟩) hHeld ?rb0
               case yb0 => (intro w' hS; (try dsimp only at hS); obtain ⟨s0, s1, s2⟩ := hS; (try go_simp); (try with_reducible rfl))
               try simp only [Act.put, jA, jB, jC, jD, jE, jF]
               refine wpAnyH_ready (rs := [1]) (by kernel_rfl) (by simp) ?_
               refine AllReadyH.cons rfl (fun K hK => ?_) AllReadyH.nil
               go_simp
               refine (impl_freePages B Z _ cz _ rfl hpl hRd).mono ?_
               rw [HQ.out]
               rintro e w10 ⟨rfl, hb10⟩
               replace hb10 := undrew hb10
               go_wp2_with fail
               refine hK.out _ _ ⟨(hb10.cell (p := ⟨wr.heap.size, 0, none⟩) l9).trans y0, (hb10.cell (p := ⟨wr.heap.size, 1, none⟩) l9).trans y1, (hb10.cell (p := ⟨g, o + m * 2 + 1, none⟩) lg).trans y2⟩ (fun hHeld2 => ?_)
               clear hK K
               try simp only [Act.put, jA, jB, jC, jD, jE, jF]
               refine wpAnyH_take (i := 2) (v := ?vb2) rfl (by kernel_rfl) (by kernel_rfl) (by kernel_rfl) (fun _ _ _ h => h) (Or.inl ⟨by rfl, ?yb2⟩) hHeld2 ?rb2
               case yb2 => (intro w' hS; (try dsimp only at hS); obtain ⟨s0, s1, s2⟩ := hS; (try go_simp); (try with_reducible rfl))
               try simp only [Act.put, jA, jB, jC, jD, jE, jF]
               refine wpAnyH_take (i := 3) (v := ?vb3) rfl (by kernel_rfl) (by kernel_rfl) (by kernel_rfl) (fun _ _ _ h => h) (Or.inl ⟨by rfl, ?yb3⟩) hHeld2 ?rb3
               case yb3 => (intro w' hS; (try dsimp only at hS); obtain ⟨s0, s1, s2⟩ := hS; (try go_simp); (try with_reducible rfl))
               try simp only [Act.put, jA, jB, jC, jD, jE, jF]
               refine wpAnyH_take (i := 4) (v := ?vb4) rfl (by kernel_rfl) (by kernel_rfl) (by kernel_rfl) (fun _ _ _ h => h) (Or.inl ⟨by rfl, ?yb4⟩) hHeld2 ?rb4
               case yb4 => (intro w' hS; (try dsimp only at hS); obtain ⟨s0, s1, s2⟩ := hS; (try go_simp); (try with_reducible rfl))
               try simp only [Act.put, jA, jB, jC, jD, jE, jF]
               refine wpAnyH_take (i := 5) (v := ?vb5) rfl (by kernel_rfl) (by kernel_rfl) (by kernel_rfl) (fun _ _ _ h => h) (Or.inl ⟨by rfl, ?yb5⟩) hHeld2 ?rb5
               case yb5 => (intro w' hS; (try dsimp only at hS); obtain ⟨s0, s1, s2⟩ := hS; (try go_simp); (try with_reducible rfl))
               try simp only [Act.put, jA, jB, jC, jD, jE, jF]
               refine wpAnyH_take (i := 6) (v := ?vb6) rfl (by kernel_rfl) (by kernel_rfl) (by kernel_rfl) (fun _ _ _ h => h) (Or.inl ⟨by rfl, ?yb6⟩) hHeld2 ?rb6
               case yb6 => (intro w' hS; (try dsimp only at hS); obtain ⟨s0, s1, s2⟩ := hS; (try go_simp); (try with_reducible rfl))
               try simp only [Act.put, jA, jB, jC, jD, jE, jF]
               refine wpAnyH_take (i := 7) (v := ?vb7) rfl (by kernel_rfl) (by kernel_rfl) (by kernel_rfl) (fun _ _ _ h => h) (Or.inl ⟨by rfl, ?yb7⟩) hHeld2 ?rb7
               case yb7 => (intro w' hS; (try dsimp only at hS); obtain ⟨s0, s1, s2⟩ := hS; (try go_simp); (try with_reducible rfl))
               try simp only [Act.put, jA, jB, jC, jD, jE, jF]
               refine wpAnyH_take (i := 8) (v := ?vb8) rfl (by kernel_rfl) (by kernel_rfl) (by kernel_rfl) (fun _ _ _ h => h) (Or.inl ⟨by rfl, ?yb8⟩) hHeld2 ?rb8
               case yb8 => (intro w' hS; (try dsimp only at hS); obtain ⟨s0, s1, s2⟩ := hS; (try go_simp); (try with_reducible rfl))
               try simp only [Act.put, jA, jB, jC, jD, jE, jF]
               refine wpAnyH_take (i := 9) (v := ?vb9) rfl (by kernel_rfl) (by kernel_rfl) (by kernel_rfl) (fun _ _ _ h => h) (Or.inl ⟨by rfl, ?yb9⟩) hHeld2 ?rb9
               case yb9 => (intro w' hS; (try dsimp only at hS); obtain ⟨s0, s1, s2⟩ := hS; (try go_simp); (try with_reducible rfl))
               try simp only [Act.put, jA, jB, jC, jD, jE, jF]
               refine wpAnyH_take (i := 10) (v := ?vb10) rfl (by kernel_rfl) (by kernel_rfl) (by kernel_rfl) (fun _ _ _ h => h) (Or.inl ⟨by rfl, ?yb10⟩) hHeld2 ?rb10
               case yb10 => (intro w' hS; (try dsimp only at hS); obtain ⟨s0, s1, s2⟩ := hS; (try go_simp); (try with_reducible rfl))
               try simp only [Act.put, jA, jB, jC, jD, jE, jF]
               refine wpAnyH_take (i := 11) (v := ?vb11) rfl (by kernel_rfl) (by kernel_rfl) (by kernel_rfl) (fun _ _ _ h => h) (Or.inl ⟨by rfl, ?yb11⟩) hHeld2 ?rb11
               case yb11 => (intro w' hS; (try dsimp only at hS); obtain ⟨s0, s1, s2⟩ := hS; (try go_simp); (try with_reducible rfl))
               try simp only [Act.put, jA, jB, jC, jD, jE, jF]
               refine wpAnyH_take (i := 12) (v := ?vb12) rfl (by kernel_rfl) (by kernel_rfl) (by kernel_rfl) (fun _ _ _ h => h) (Or.inl ⟨by rfl, ?yb12⟩) hHeld2 ?rb12
               case yb12 => (intro w' hS; (try dsimp only at hS); obtain ⟨s0, s1, s2⟩ := hS; (try go_simp); (try with_reducible rfl))
               try simp only [Act.put, jA, jB, jC, jD, jE, jF]
               refine wpAnyH_take (i := 13) (v := ?vb13) rfl (by kernel_rfl) (by kernel_rfl) (by kernel_rfl) (fun _ _ _ h => h) (Or.inl ⟨by rfl, ?yb13⟩) hHeld2 ?rb13
               case yb13 => (intro w' hS; (try dsimp only at hS); obtain ⟨s0, s1, s2⟩ := hS; (try go_simp); (try with_reducible rfl))
               try simp only [Act.put, jA, jB, jC, jD, jE, jF]
               refine wpAnyH_take (i := 14) (v := ?vb14) rfl (by kernel_rfl) (by kernel_rfl) (by kernel_rfl) (fun _ _ _ h => h) (Or.inl ⟨by rfl, ?yb14⟩) hHeld2 ?rb14
               case yb14 => (intro w' hS; (try dsimp only at hS); obtain ⟨s0, s1, s2⟩ := hS; (try go_simp); (try with_reducible rfl))
               try simp only [Act.put, jA, jB, jC, jD, jE, jF]
               refine wpAnyH_take (i := 15) (v := ?vb15) rfl (by kernel_rfl) (by kernel_rfl) (by kernel_rfl) (fun _ _ _ h => h) (Or.inl ⟨by rfl, ?yb15⟩) hHeld2 ?rb15
               case yb15 => (intro w' hS; (try dsimp only at hS); obtain ⟨s0, s1, s2⟩ := hS; (try go_simp); (try with_reducible rfl))
               try simp only [Act.put, jA, jB, jC, jD, jE, jF]
               refine wpAnyH_take (i := 16) (v := ?vb16) rfl (by kernel_rfl) (by kernel_rfl) (by kernel_rfl) (fun _ _ _ h => h) (Or.inl ⟨by rfl, ?yb16⟩) hHeld2 ?rb16
               case yb16 => (intro w' hS; (try dsimp only at hS); obtain ⟨s0, s1, s2⟩ := hS; (try go_simp); (try with_reducible rfl))
               try simp only [Act.put, jA, jB, jC, jD, jE, jF]
               refine wpAnyH_done (by kernel_rfl) ?_ _
               have hB10 := hBa.trans (hb10.mono hsz)
               clear y0 y1 y2 hb10
               go_wp2
               go_roundw
               (case rel => exact ⟨k + 1, k, true, by omega, by omega, by go_num, rfl, rfl, hB10, h3⟩)
               (case measure => simp [intOf]; omega)
             · have h3 : Hid (bestGo f 0 0 false f = bestGo f (k + 1) m true (f.drop (k + 1))) := by rw [Hid, hT2.out, if_neg (by rintro ⟨_, h | h⟩; cases h; exact hwn h)]
               clear hq
               go_wp2
               refine wp_region_held_drew (S := (fun w' => w'.cell? ⟨wr.heap.size, 0, none⟩ = some (.slice Z B.pages.length cz) ∧ w'.cell? ⟨wr.heap.size, 1, none⟩ = some (.int .i64 B.worn) ∧ w'.cell? ⟨g, o + m * 2 + 1, none⟩ = some (.int .i64 Bm.worn))) (by kernel_rfl) ⟨y0, y1, y2⟩ (fun hHeld => ?_)
               refine wpAnyH_take (i := 0) (v := ?vc0) rfl (by kernel_rfl) (by kernel_rfl) (by kernel_rfl) (fun _ _ _ h => h) (Or.inl ⟨by rfl, ?yc0⟩) hHeld ?rc0
               case yc0 => (intro w' hS; (try dsimp only at hS); obtain ⟨s0, s1, s2⟩ := hS; (try go_simp); (try with_reducible rfl))
               try simp only [Act.put, jA, jB, jC, jD, jE, jF]
               refine wpAnyH_ready (rs := [1]) (by kernel_rfl) (by simp) ?_
               refine AllReadyH.cons rfl (fun K hK => ?_) AllReadyH.nil
               go_simp
               refine (impl_freePages B Z _ cz _ rfl hpl hRd).mono ?_
               rw [HQ.out]
               rintro e w10 ⟨rfl, hb10⟩
               replace hb10 := undrew hb10
               go_wp2_with fail
               refine hK.out _ _ ⟨(hb10.cell (p := ⟨wr.heap.size, 0, none⟩) l9).trans y0, (hb10.cell (p := ⟨wr.heap.size, 1, none⟩) l9).trans y1, (hb10.cell (p := ⟨g, o + m * 2 + 1, none⟩) lg).trans y2⟩ (fun hHeld2 => ?_)
               clear hK K
               try simp only [Act.put, jA, jB, jC, jD, jE, jF]
               refine wpAnyH_take (i := 2) (v := ?vc2) rfl (by kernel_rfl) (by kernel_rfl) (by kernel_rfl) (fun _ _ _ h => h) (Or.inl ⟨by rfl, ?yc2⟩) hHeld2 ?rc2
               case yc2 => (intro w' hS; (try dsimp only at hS); obtain ⟨s0, s1, s2⟩ := hS; (try go_simp); (try with_reducible rfl))
               try simp only [Act.put, jA, jB, jC, jD, jE, jF]
               refine wpAnyH_take (i := 3) (v := ?vc3) rfl (by kernel_rfl) (by kernel_rfl) (by kernel_rfl) (fun _ _ _ h => h) (Or.inl ⟨by rfl, ?yc3⟩) hHeld2 ?rc3
               case yc3 => (intro w' hS; (try dsimp only at hS); obtain ⟨s0, s1, s2⟩ := hS; (try go_simp); (try with_reducible rfl))
               try simp only [Act.put, jA, jB, jC, jD, jE, jF]
               refine wpAnyH_take (i := 4) (v := ?vc4) rfl (by kernel_rfl) (by kernel_rfl) (by kernel_rfl) (fun _ _ _ h => h) (Or.inl ⟨by rfl, ?yc4⟩) hHeld2 ?rc4
               case yc4 => (intro w' hS; (try dsimp only at hS); obtain ⟨s0, s1, s2⟩ := hS; (try go_simp); (try with_reducible rfl))
               try simp only [Act.put, jA, jB, jC, jD, jE, jF]
               refine wpAnyH_take (i := 5) (v := ?vc5) rfl (by kernel_rfl) (by kernel_rfl) (by kernel_rfl) (fun _ _ _ h => h) (Or.inl ⟨by rfl, ?yc5⟩) hHeld2 ?rc5
               case yc5 => (intro w' hS; (try dsimp only at hS); obtain ⟨s0, s1, s2⟩ := hS; (try go_simp); (try with_reducible rfl))
               try simp only [Act.put, jA, jB, jC, jD, jE, jF]
               refine wpAnyH_take (i := 6) (v := ?vc6) rfl (by kernel_rfl) (by kernel_rfl) (by kernel_rfl) (fun _ _ _ h => h) (Or.inl ⟨by rfl, ?yc6⟩) hHeld2 ?rc6
               case yc6 => (intro w' hS; (try dsimp only at hS); obtain ⟨s0, s1, s2⟩ := hS; (try go_simp); (try with_reducible rfl))
               try simp only [Act.put, jA, jB, jC, jD, jE, jF]
               refine wpAnyH_take (i := 7) (v := ?vc7) rfl (by kernel_rfl) (by kernel_rfl) (by kernel_rfl) (fun _ _ _ h => h) (Or.inl ⟨by rfl, ?yc7⟩) hHeld2 ?rc7
               case yc7 => (intro w' hS; (try dsimp only at hS); obtain ⟨s0, s1, s2⟩ := hS; (try go_simp); (try with_reducible rfl))
               try simp only [Act.put, jA, jB, jC, jD, jE, jF]
               refine wpAnyH_take (i := 8) (v := ?vc8) rfl (by kernel_rfl) (by kernel_rfl) (by kernel_rfl) (fun _ _ _ h => h) (Or.inl ⟨by rfl, ?yc8⟩) hHeld2 ?rc8
               case yc8 => (intro w' hS; (try dsimp only at hS); obtain ⟨s0, s1, s2⟩ := hS; (try go_simp); (try with_reducible rfl))
               try simp only [Act.put, jA, jB, jC, jD, jE, jF]
               refine wpAnyH_take (i := 9) (v := ?vc9) rfl (by kernel_rfl) (by kernel_rfl) (by kernel_rfl) (fun _ _ _ h => h) (Or.inl ⟨by rfl, ?yc9⟩) hHeld2 ?rc9
               case yc9 => (intro w' hS; (try dsimp only at hS); obtain ⟨s0, s1, s2⟩ := hS; (try go_simp); (try with_reducible rfl))
               try simp only [Act.put, jA, jB, jC, jD, jE, jF]
               refine wpAnyH_take (i := 10) (v := ?vc10) rfl (by kernel_rfl) (by kernel_rfl) (by kernel_rfl) (fun _ _ _ h => h) (Or.inl ⟨by rfl, ?yc10⟩) hHeld2 ?rc10
               case yc10 => (intro w' hS; (try dsimp only at hS); obtain ⟨s0, s1, s2⟩ := hS; (try go_simp); (try with_reducible rfl))
               try simp only [Act.put, jA, jB, jC, jD, jE, jF]
               refine wpAnyH_take (i := 11) (v := ?vc11) rfl (by kernel_rfl) (by kernel_rfl) (by kernel_rfl) (fun _ _ _ h => h) (Or.inl ⟨by rfl, ?yc11⟩) hHeld2 ?rc11
               case yc11 => (intro w' hS; (try dsimp only at hS); obtain ⟨s0, s1, s2⟩ := hS; (try go_simp); (try with_reducible rfl))
               try simp only [Act.put, jA, jB, jC, jD, jE, jF]
               refine wpAnyH_take (i := 12) (v := ?vc12) rfl (by kernel_rfl) (by kernel_rfl) (by kernel_rfl) (fun _ _ _ h => h) (Or.inl ⟨by rfl, ?yc12⟩) hHeld2 ?rc12
               case yc12 => (intro w' hS; (try dsimp only at hS); obtain ⟨s0, s1, s2⟩ := hS; (try go_simp); (try with_reducible rfl))
               try simp only [Act.put, jA, jB, jC, jD, jE, jF]
               refine wpAnyH_take (i := 13) (v := ?vc13) rfl (by kernel_rfl) (by kernel_rfl) (by kernel_rfl) (fun _ _ _ h => h) (Or.inl ⟨by rfl, ?yc13⟩) hHeld2 ?rc13
               case yc13 => (intro w' hS; (try dsimp only at hS); obtain ⟨s0, s1, s2⟩ := hS; (try go_simp); (try with_reducible rfl))
               try simp only [Act.put, jA, jB, jC, jD, jE, jF]
               refine wpAnyH_take (i := 14) (v := ?vc14) rfl (by kernel_rfl) (by kernel_rfl) (by kernel_rfl) (fun _ _ _ h => h) (Or.inl ⟨by rfl, ?yc14⟩) hHeld2 ?rc14
               case yc14 => (intro w' hS; (try dsimp only at hS); obtain ⟨s0, s1, s2⟩ := hS; (try go_simp); (try with_reducible rfl))
               try simp only [Act.put, jA, jB, jC, jD, jE, jF]
               refine wpAnyH_take (i := 15) (v := ?vc15) rfl (by kernel_rfl) (by kernel_rfl) (by kernel_rfl) (fun _ _ _ h => h) (Or.inl ⟨by rfl, ?yc15⟩) hHeld2 ?rc15
               case yc15 => (intro w' hS; (try dsimp only at hS); obtain ⟨s0, s1, s2⟩ := hS; (try go_simp); (try with_reducible rfl))
               try simp only [Act.put, jA, jB, jC, jD, jE, jF]
               refine wpAnyH_take (i := 16) (v := ?vc16) rfl (by kernel_rfl) (by kernel_rfl) (by kernel_rfl) (fun _ _ _ h => h) (Or.inl ⟨by rfl, ?yc16⟩) hHeld2 ?rc16
               case yc16 => (intro w' hS; (try dsimp only at hS); obtain ⟨s0, s1, s2⟩ := hS; (try go_simp); (try with_reducible rfl))
               try simp only [Act.put, jA, jB, jC, jD, jE, jF]
               refine wpAnyH_done (by kernel_rfl) ?_ _
               have hB10 := hBa.trans (hb10.mono hsz)
               clear y0 y1 y2 hb10
               go_wp2
               go_roundw
               (case rel => exact ⟨k + 1, m, true, by omega, hm, by go_num, rfl, rfl, hB10, h3⟩)
               (case measure => simp [intOf]; omega)
         · have h3 : Hid (bestGo f 0 0 false f = bestGo f (k + 1) m fd (f.drop (k + 1))) := by rw [Hid, hT2.out, if_neg (fun h => hq h.1)]
           have e4 : ((clean B : Int) == 4) = false := by rw [beq_eq_false_iff_ne]; omega
           clear hq
           go_wp2
           refine wp_region_held_drew (S := (fun w' => w'.cell? ⟨wr.heap.size, 0, none⟩ = some (.slice Z B.pages.length cz) ∧ w'.cell? ⟨wr.heap.size, 1, none⟩ = some (.int .i64 B.worn) ∧ w'.cell? ⟨g, o + m * 2 + 1, none⟩ = some (.int .i64 Bm.worn))) (by kernel_rfl) ⟨y0, y1, y2⟩ (fun hHeld => ?_)
           refine wpAnyH_take (i := 0) (v := ?vd0) rfl (by kernel_rfl) (by kernel_rfl) (by kernel_rfl) (fun _ _ _ h => h) (Or.inl ⟨by rfl, ?yd0⟩) hHeld ?rd0
           case yd0 => (intro w' hS; (try dsimp only at hS); obtain ⟨s0, s1, s2⟩ := hS; (try go_simp); (try with_reducible rfl))
           try simp only [Act.put, jA, jB, jC, jD, jE, jF]
           refine wpAnyH_ready (rs := [1]) (by kernel_rfl) (by simp) ?_
           refine AllReadyH.cons rfl (fun K hK => ?_) AllReadyH.nil
           go_simp
           refine (impl_freePages B Z _ cz _ rfl hpl hRd).mono ?_
           rintro e w10 ⟨rfl, hb10⟩
           replace hb10 := undrew hb10
           go_wp2_with fail
           refine hK.out _ _ ⟨(hb10.cell (p := ⟨wr.heap.size, 0, none⟩) l9).trans y0, (hb10.cell (p := ⟨wr.heap.size, 1, none⟩) l9).trans y1, (hb10.cell (p := ⟨g, o + m * 2 + 1, none⟩) lg).trans y2⟩ (fun hHeld2 => ?_)
           clear hK K
           try simp only [Act.put, jA, jB, jC, jD, jE, jF]
           refine wpAnyH_take (i := 2) (v := ?vd2) rfl (by kernel_rfl) (by kernel_rfl) (by kernel_rfl) (fun _ _ _ h => h) (Or.inl ⟨by rfl, ?yd2⟩) hHeld2 ?rd2
           case yd2 => (intro w' hS; (try dsimp only at hS); obtain ⟨s0, s1, s2⟩ := hS; (try go_simp); (try with_reducible rfl))
           try simp only [Act.put, jA, jB, jC, jD, jE, jF]
           refine wpAnyH_take (i := 3) (v := ?vd3) rfl (by kernel_rfl) (by kernel_rfl) (by kernel_rfl) (fun _ _ _ h => h) (Or.inl ⟨by rfl, ?yd3⟩) hHeld2 ?rd3
           case yd3 => (intro w' hS; (try dsimp only at hS); obtain ⟨s0, s1, s2⟩ := hS; (try go_simp); (try with_reducible rfl))
           try simp only [Act.put, jA, jB, jC, jD, jE, jF]
           refine wpAnyH_take (i := 4) (v := undef) rfl (by kernel_rfl) (by kernel_rfl) (by kernel_rfl) (fun _ _ _ h => h) (Or.inr ⟨by rfl, rfl⟩) hHeld2 ?_
           try simp only [Act.put, jA, jB, jC, jD, jE, jF]
           refine wpAnyH_take (i := 5) (v := undef) rfl (by kernel_rfl) (by kernel_rfl) (by kernel_rfl) (fun _ _ _ h => h) (Or.inr ⟨by rfl, rfl⟩) hHeld2 ?_
           try simp only [Act.put, jA, jB, jC, jD, jE, jF]
           refine wpAnyH_take (i := 6) (v := undef) rfl (by kernel_rfl) (by kernel_rfl) (by kernel_rfl) (fun _ _ _ h => h) (Or.inr ⟨by rfl, rfl⟩) hHeld2 ?_
           try simp only [Act.put, jA, jB, jC, jD, jE, jF]
           refine wpAnyH_take (i := 7) (v := undef) rfl (by kernel_rfl) (by kernel_rfl) (by kernel_rfl) (fun _ _ _ h => h) (Or.inr ⟨by rfl, rfl⟩) hHeld2 ?_
           try simp only [Act.put, jA, jB, jC, jD, jE, jF]
           refine wpAnyH_take (i := 8) (v := undef) rfl (by kernel_rfl) (by kernel_rfl) (by kernel_rfl) (fun _ _ _ h => h) (Or.inr ⟨by rfl, rfl⟩) hHeld2 ?_
           try simp only [Act.put, jA, jB, jC, jD, jE, jF]
           refine wpAnyH_take (i := 9) (v := undef) rfl (by kernel_rfl) (by kernel_rfl) (by kernel_rfl) (fun _ _ _ h => h) (Or.inr ⟨by rfl, rfl⟩) hHeld2 ?_
           try simp only [Act.put, jA, jB, jC, jD, jE, jF]
           refine wpAnyH_take (i := 10) (v := undef) rfl (by kernel_rfl) (by kernel_rfl) (by kernel_rfl) (fun _ _ _ h => h) (Or.inr ⟨by rfl, rfl⟩) hHeld2 ?_
           try simp only [Act.put, jA, jB, jC, jD, jE, jF]
           refine wpAnyH_take (i := 11) (v := undef) rfl (by kernel_rfl) (by kernel_rfl) (by kernel_rfl) (fun _ _ _ h => h) (Or.inr ⟨by rfl, rfl⟩) hHeld2 ?_
           try simp only [Act.put, jA, jB, jC, jD, jE, jF]
           refine wpAnyH_take (i := 12) (v := undef) rfl (by kernel_rfl) (by kernel_rfl) (by kernel_rfl) (fun _ _ _ h => h) (Or.inr ⟨by rfl, rfl⟩) hHeld2 ?_
           try simp only [Act.put, jA, jB, jC, jD, jE, jF]
           refine wpAnyH_take (i := 13) (v := undef) rfl (by kernel_rfl) (by kernel_rfl) (by kernel_rfl) (fun _ _ _ h => h) (Or.inr ⟨by rfl, rfl⟩) hHeld2 ?_
           try simp only [Act.put, jA, jB, jC, jD, jE, jF]
           refine wpAnyH_take (i := 14) (v := undef) rfl (by kernel_rfl) (by kernel_rfl) (by kernel_rfl) (fun _ _ _ h => h) (Or.inr ⟨by rfl, rfl⟩) hHeld2 ?_
           try simp only [Act.put, jA, jB, jC, jD, jE, jF]
           refine wpAnyH_take (i := 15) (v := undef) rfl (by kernel_rfl) (by kernel_rfl) (by kernel_rfl) (fun _ _ _ h => h) (Or.inr ⟨by rfl, rfl⟩) hHeld2 ?_
           try simp only [Act.put, jA, jB, jC, jD, jE, jF]
           refine wpAnyH_take (i := 16) (v := ?vd16) rfl (by kernel_rfl) (by kernel_rfl) (by kernel_rfl) (fun _ _ _ h => h) (Or.inl ⟨by rfl, ?yd16⟩) hHeld2 ?rd16
           case yd16 => (intro w' hS; (try dsimp only at hS); obtain ⟨s0, s1, s2⟩ := hS; (try go_simp); (try with_reducible rfl))
           try simp only [Act.put, jA, jB, jC, jD, jE, jF]
           refine wpAnyH_done (by kernel_rfl) ?_ _
           have hB10 := hBa.trans (hb10.mono hsz)
           clear y0 y1 y2 hb10
           go_wp2
           go_roundw
           (case rel => exact ⟨k + 1, m, fd, by omega, hm, by go_num, rfl, rfl, hB10, h3⟩)
           (case measure => simp [intOf]; omega)
       · obtain rfl : k = f.length := by omega
         have h3 : Hid (bestGo f 0 0 false f = (m, fd)) := by rw [Hid, hT.out, List.drop_of_length_le (Nat.le_refl _)]; rfl
         go_wp2
         go_ret2
         exact ⟨by rw [hfin.out, hnone.out, h3.out]; rfl, hb1.trans (hBl.mono hb1.size)⟩
 · have hok' : flashOk f = false := by simpa using hok
   have hfin : Hid (findOpen f = (0, false)) := by unfold Hid findOpen; rw [if_neg hok]
   rw [hok']
   go_wp2
   go_ret2
   exact ⟨by rw [hfin.out]; rfl, hb1⟩
end Go.Proofs.Ytclnogfmmekooaa
namespace Go.Proofs.Ytclnogfmmekooaa
set_option linter.unusedVariables false
set_option linter.unusedSimpArgs false
open Go.Conc Go.ConcN Go.ConcR.Gen Go.RowKit
theorem cons_of_len {α : Type} {l : List α} {n : Nat} (h : l.length = n + 1) : ∃ a t, l = a :: t ∧ t.length = n := by
 cases l with
 | nil => simp at h
 | cons a t => exact ⟨a, t, rfl, by simpa using h⟩
theorem VIn.pair {Gc : Cfg} {A : Nat → Prop} {a b : Value} (h : VIn Gc A (.tuple #[a, b])) : VIn Gc A a := by
 cases h with
 | tuple h => exact h a (by simp)
theorem rem_of {m k : Nat} (n : Nat) (h : m % n = k) : (m : Int) % n = (k : Int) := by subst h; rfl
section
variable {P : Program} {Post : Value → World → Prop} {SB : Nat → Prop} {b : Frame} {k : List Item} {cs : List Frame} {w : World} {ops : Array Oper} {F : World → Prop} {id : Nat}
/-- An operation that gives a value and touches nothing. -/
theorem f_op {a : Act} {j : Nat} {rest : List Nat} {o : Oper} {v : Value} (ho : ops[j]? = some o) (hw : Region.wanted o (yielded ops a.tmps) = true) (hk : b.kind ≠ .early)
 (hrun : ∀ w, (execOp a.eval o).run P w = .ok (.value v) w ∧ listed P b.fn a o w = #[])
 (next : Fine P Post SB (G (b.at (a.put o.dst v) (.inRegion ops rest :: k)) cs) w) : Fine P Post SB (G (b.at a (.inRegion ops (j :: rest) :: k)) cs) w :=
 f_val (F := fun _ => True) (fun _ _ _ _ => trivial) trivial ho hw hk (fun w _ => ⟨(hrun w).1, by rw [(hrun w).2]; simp⟩) next
end
end Go.Proofs.Ytclnogfmmekooaa
