/- The reference's WearAll, WearLost; the draws of their flashes. -/
import Derived.Test.YtclnogfmmekooaaZ8
namespace Go.Proofs.Ytclnogfmmekooaa
set_option linter.unusedVariables false
set_option linter.unusedSimpArgs false
open Go.RowKit Go.Maps
set_option maxHeartbeats 4000000
set_option maxRecDepth 100000
def suS (a : Int) (b : Bk) : Int := a + b.worn
def toS (a : Int) (b : Bk) : Int := a + (tornN b.pages : Int)
theorem wSum_def (f : List Bk) : wSum f = f.foldl suS 0 := rfl
theorem wTorn_def (f : List Bk) : wTorn f = f.foldl toS 0 := rfl
theorem tornN_cons (p : Pg) (ps : List Pg) : (tornN (p :: ps) : Int) = (if p.state = 2 then 1 else 0) + (tornN ps : Int) := by
 unfold tornN
 rw [List.countP_cons]
 by_cases h : p.state = 2 <;> simp [h] <;> omega
theorem spec_WearAll (f : List Bk) (A : Option Addr) (c : Nat) (w : World) (hlen : f.length < 1000000000000) (hF : Fl w A f) : Calls Try.prog 25 #[.slice A f.length c] w fun e w' => e = .returned (.int .i64 (if flashOk f then wSum f else -1)) ∧ Below w.heap.size w w' := by
 by_cases hok : flashOk f = true
 · have hc := fun w hF => spec_FlashOk f A c w hlen hF
   rw [hok] at hc
   rw [hok]
   have h4 := (flash_four hok).1
   have hw := Lib.hid (flash_four hok).2
   have hS : Hid (wSum f = (f.drop 0).foldl suS 0) := rfl
   have HL := Lib.hid h4
   clear hok h4
   have HC := Lib.hid hc
   clear hc
   go_enter Try.func25, Try.ntmps25
   go_wp2_with fail
   (with_reducible refine (HC.out _ hF).mono ?_)
   rintro e w1 ⟨rfl, hb1⟩
   obtain ⟨hs, hB⟩ := hF.below hb1 (Nat.le_refl _)
   obtain ⟨g, o, rfl⟩ := hB.addr (by rintro rfl; have := HL.out; simp at this)
   clear hF HC
   go_wp2
   go_loopw [3, 4] (fun q i wr => ∃ (k : Nat) (m : Int), k ≤ f.length ∧ i = .int .i64 k ∧ q = .int .i64 m ∧ wr = w1 ∧ Hid (wSum f = (f.drop k).foldl suS m) ∧ Hid (0 ≤ m ∧ m ≤ 200 * k)) (fun _ i _ => f.length - (intOf i).toNat)
   case atStart => exact ⟨0, 0, by omega, rfl, rfl, rfl, hS, ⟨by omega, by omega⟩⟩
   case round =>
    clear hS
    obtain ⟨k, m, hk, rfl, rfl, rfl, hS, hM⟩ := hrel
    by_cases hlt : k < f.length
    · obtain ⟨b, hb⟩ := get_some hlt
      obtain ⟨x, _, c0, c1, _⟩ := hB.at_ hb
      have hd := Lib.hid (drop_cons hb)
      have hbw := Lib.hid (hw.out b (List.mem_of_getElem? hb)).2
      have hk1 : (k : Int) < f.length := by omega
      have hx : IntKind.i64.wrap (m + b.worn) = m + b.worn := by have := hM.out; have := hbw.out; have := HL.out; rw [IntKind.wrap_i64]; omega
      clear hb
      go_wp2
      go_roundw
      case rel => exact ⟨k + 1, suS m b, by omega, by go_num, by unfold suS; first | rfl | (rw [hx]), by trivial, by rw [Hid, hS.out, hd.out]; rfl, by have := hM.out; have := hbw.out; unfold suS; exact ⟨by omega, by omega⟩⟩
      case measure => simp [intOf]; omega
    · obtain rfl : k = f.length := by omega
      have eS : m = wSum f := by rw [hS.out, List.drop_of_length_le (Nat.le_refl _)]; rfl
      subst eS
      go_wp2
      go_ret
      exact ⟨ret_int (by first | rfl | (simp; done)), hb1⟩
 · have hc := fun w hF => spec_FlashOk f A c w hlen hF
   have hf : flashOk f = false := by simpa using hok
   rw [hf] at hc
   rw [hf]
   go_enter Try.func25, Try.ntmps25
   go_wp2_with fail
   (with_reducible refine (hc _ hF).mono ?_)
   rintro e w1 ⟨rfl, hb1⟩
   go_wp2
   go_ret
   exact ⟨ret_int (by simp), hb1⟩
theorem spec_WearLost (f : List Bk) (A : Option Addr) (c : Nat) (w : World) (hlen : f.length < 1000000000000) (hF : Fl w A f) : Calls Try.prog 16 #[.slice A f.length c] w fun e w' => e = .returned (.int .i64 (if flashOk f then wTorn f else -1)) ∧ Below w.heap.size w w' := by
 by_cases hok : flashOk f = true
 · have hc := fun w hF => spec_FlashOk f A c w hlen hF
   rw [hok] at hc
   rw [hok]
   have h4 := (flash_four hok).1
   have hw := Lib.hid (flash_four hok).2
   have hS : Hid (wTorn f = (f.drop 0).foldl toS 0) := rfl
   have HL := Lib.hid h4
   clear hok h4
   have HC := Lib.hid hc
   clear hc
   go_enter Try.func16, Try.ntmps16
   go_wp2_with fail
   (with_reducible refine (HC.out _ hF).mono ?_)
   rintro e w1 ⟨rfl, hb1⟩
   obtain ⟨hs, hB⟩ := hF.below hb1 (Nat.le_refl _)
   obtain ⟨g, o, rfl⟩ := hB.addr (by rintro rfl; have := HL.out; simp at this)
   clear hF HC
   go_wp2
   go_loopw [3, 4] (fun q i wr => ∃ (k : Nat) (m : Int), k ≤ f.length ∧ i = .int .i64 k ∧ q = .int .i64 m ∧ wr = w1 ∧ Hid (wTorn f = (f.drop k).foldl toS m) ∧ Hid (0 ≤ m ∧ m ≤ 4 * k)) (fun _ i _ => f.length - (intOf i).toNat)
   case atStart => exact ⟨0, 0, by omega, rfl, rfl, rfl, hS, ⟨by omega, by omega⟩⟩
   case round =>
    clear hS
    obtain ⟨k, m, hk, rfl, rfl, rfl, hS, hM⟩ := hrel
    by_cases hlt : k < f.length
    · obtain ⟨b, hb⟩ := get_some hlt
      obtain ⟨⟨Ap, cp⟩, _, c0, c1, _, _, hR, _⟩ := hB.at_ hb
      have hd := Lib.hid (drop_cons hb)
      have hbl := (hw.out b (List.mem_of_getElem? hb)).1
      have hk1 : (k : Int) < f.length := by omega
      obtain ⟨ps, wn⟩ := b
      dsimp only at *
      rw [hbl] at c0
      have HBL := Lib.hid hbl
      have hT0 : Hid (wTorn f = (f.drop (k + 1)).foldl toS (m + (tornN (ps.drop 0) : Int))) := by rw [Hid, hS.out, hd.out]; rfl
      clear hb hS hd hbl
      go_wp2
      go_loopw [3, 5] (fun q j wl => ∃ (r : Nat) (n : Int), r ≤ 4 ∧ j = .int .i64 r ∧ q = .int .i64 n ∧ wl = wr ∧ Hid (wTorn f = (f.drop (k + 1)).foldl toS (n + (tornN (ps.drop r) : Int))) ∧ Hid (0 ≤ n ∧ n ≤ 4 * k + r)) (fun _ j _ => 4 - (intOf j).toNat)
      case atStart => exact ⟨0, m, by omega, rfl, rfl, rfl, hT0, by have := hM.out; exact ⟨by omega, by omega⟩⟩
      case round =>
       clear hT0
       obtain ⟨r, n, hr, rfl, rfl, rfl, hT, hN⟩ := hrel
       by_cases hltm : r < 4
       · obtain ⟨p, hq⟩ := get_some (l := ps) (k := r) (by rw [HBL.out]; exact hltm)
         obtain ⟨pb, po, rfl⟩ := hR.addr (pgs_ne (by rintro rfl; simp at hq))
         obtain ⟨p0, p1, p2, p3, p4⟩ := hR.pg hq
         have hd := Lib.hid (drop_cons hq)
         have hm1 : (r : Int) < 4 := by omega
         have hx : IntKind.i64.wrap (n + 1) = n + 1 := by have := hN.out; have := HL.out; rw [IntKind.wrap_i64]; omega
         clear hq
         by_cases h2 : p.state = 2
         · have hT2 : Hid (wTorn f = (f.drop (k + 1)).foldl toS (n + 1 + (tornN (ps.drop (r + 1)) : Int))) := by
            rw [Hid, hT.out, hd.out, tornN_cons, if_pos h2, Int.add_assoc]
           rw [h2] at p0
           clear h2 hT
           go_wp2
           go_roundw
           case rel => exact ⟨r + 1, n + 1, by omega, by go_num, by first | rfl | (rw [hx]), by trivial, hT2, by have := hN.out; exact ⟨by omega, by omega⟩⟩
           case measure => simp [intOf]; omega
         · have hT2 : Hid (wTorn f = (f.drop (k + 1)).foldl toS (n + (tornN (ps.drop (r + 1)) : Int))) := by
            rw [Hid, hT.out, hd.out, tornN_cons, if_neg h2, Int.zero_add]
           have h2' : (p.state == 2) = false := by simpa using h2
           clear hT
           go_wp2
           go_roundw
           case rel => exact ⟨r + 1, n, by omega, by go_num, rfl, by trivial, hT2, by have := hN.out; exact ⟨by omega, by omega⟩⟩
           case measure => simp [intOf]; omega
       · obtain rfl : r = 4 := by omega
         have hT2 : Hid (wTorn f = (f.drop (k + 1)).foldl toS n) := by
          have := hT.out
          rw [List.drop_of_length_le (by rw [HBL.out]; exact Nat.le_refl _)] at this
          rw [Hid, this, show (tornN [] : Int) = 0 from rfl, Int.add_zero]
         clear hT
         go_wp2
         go_roundw
         case rel => exact ⟨k + 1, n, by omega, by go_num, rfl, by trivial, hT2, by have := hN.out; exact ⟨by omega, by omega⟩⟩
         case measure => simp [intOf]; omega
    · obtain rfl : k = f.length := by omega
      have eS : m = wTorn f := by rw [hS.out, List.drop_of_length_le (Nat.le_refl _)]; rfl
      subst eS
      go_wp2
      go_ret
      exact ⟨ret_int (by first | rfl | (simp; done)), hb1⟩
 · have hc := fun w hF => spec_FlashOk f A c w hlen hF
   have hf : flashOk f = false := by simpa using hok
   rw [hf] at hc
   rw [hf]
   go_enter Try.func16, Try.ntmps16
   go_wp2_with fail
   (with_reducible refine (hc _ hF).mono ?_)
   rintro e w1 ⟨rfl, hb1⟩
   go_wp2
   go_ret
   exact ⟨ret_int (by simp), hb1⟩
theorem spec_DrawWearAll (A : Option Addr) (bs : List Nat) (c : Nat) (w : World) (hc : Code w A bs c) :
 Calls Try.prog 24 #[.slice A bs.length c] w fun e w' => ∃ g o c f, e = .returned (.slice (some ⟨g, o, none⟩) f.length c) ∧ DrawnFl w w' g o f := by
 go_enter Try.func24, Try.ntmps24
 go_wp2_with fail
 refine (spec_l6Open A bs c _ hc.len hc.cap hc.byte hc.row).mono ?_
 rintro e w1 ⟨rfl, hR1, hb1⟩
 go_wp2_with fail
 refine (spec_l71Flash _ _ 0 _ (by omega) hR1).mono ?_
 rintro e w2 ⟨g, o, c, f, rfl, hf, hO, hR2, hA2⟩
 have hs := hb1.size
 go_wp2
 go_ret
 exact ⟨g, o, c, f, rfl, hf, hO.mono hs (Nat.le_refl _), hb1.trans (hA2.below (by omega) (fun i hi => by omega))⟩
theorem spec_DrawWearLost (A : Option Addr) (bs : List Nat) (c : Nat) (w : World) (hc : Code w A bs c) :
 Calls Try.prog 23 #[.slice A bs.length c] w fun e w' => ∃ g o c f, e = .returned (.slice (some ⟨g, o, none⟩) f.length c) ∧ DrawnFl w w' g o f := by
 go_enter Try.func23, Try.ntmps23
 go_wp2_with fail
 refine (spec_l6Open A bs c _ hc.len hc.cap hc.byte hc.row).mono ?_
 rintro e w1 ⟨rfl, hR1, hb1⟩
 go_wp2_with fail
 refine (spec_l71Flash _ _ 0 _ (by omega) hR1).mono ?_
 rintro e w2 ⟨g, o, c, f, rfl, hf, hO, hR2, hA2⟩
 have hs := hb1.size
 go_wp2
 go_ret
 exact ⟨g, o, c, f, rfl, hf, hO.mono hs (Nat.le_refl _), hb1.trans (hA2.below (by omega) (fun i hi => by omega))⟩
end Go.Proofs.Ytclnogfmmekooaa
