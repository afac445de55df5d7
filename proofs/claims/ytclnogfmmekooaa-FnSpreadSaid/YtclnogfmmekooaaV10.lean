/- The loops of the law FnSpread, as a lone piece of code. (Printed by genv10.py.) -/
import Derived.Test.YtclnogfmmekooaaV13
import Derived.Test.YtclnogfmmekooaaV8
import Derived.Deep.RegionHeld3
import Derived.BigQuiet
namespace Go.Proofs.Ytclnogfmmekooaa
set_option linter.unusedVariables false
set_option linter.unusedSimpArgs false
open Go.RowKit Go.Maps
set_option maxRecDepth 100000
set_option maxHeartbeats 4000000
/-- whether a pair of n was met -/
def rIn (n : Int) (x : Bk) (r : Int) (l : List Bk) : Int := l.foldl (fun r b => if x.worn - b.worn = n then 1 else r) r
def rOut (n : Int) (f l : List Bk) : Int := l.foldl (fun r x => rIn n x r f) 0
theorem rIn_stays (n : Int) (x : Bk) : ∀ l : List Bk, rIn n x 1 l = 1
 | [] => rfl
 | b :: l => by
   have ih := rIn_stays n x l
   unfold rIn at ih ⊢
   rw [List.foldl_cons, ite_self]
   exact ih
theorem rIn_met (n : Int) (x : Bk) : ∀ (l : List Bk) (r : Int), (∃ b ∈ l, x.worn - b.worn = n) → rIn n x r l = 1
 | [], _, h => by obtain ⟨b, hb, _⟩ := h; cases hb
 | c :: l, r, h => by
   by_cases hc : x.worn - c.worn = n
   · have := rIn_stays n x l
     unfold rIn at this ⊢
     rw [List.foldl_cons, if_pos hc]
     exact this
   · obtain ⟨b, hb, e⟩ := h
     have hb' : b ∈ l := (List.mem_cons.1 hb).resolve_left (by rintro rfl; exact hc e)
     have := rIn_met n x l r ⟨b, hb', e⟩
     unfold rIn at this ⊢
     rw [List.foldl_cons, if_neg hc]
     exact this
theorem rOut_stays (n : Int) (f : List Bk) : ∀ l : List Bk, l.foldl (fun r x => rIn n x r f) 1 = 1
 | [] => rfl
 | x :: l => by rw [List.foldl_cons, rIn_stays]; exact rOut_stays n f l
theorem rOut_met (n : Int) (f : List Bk) : ∀ (l : List Bk) (r : Int), (∃ x ∈ l, ∃ b ∈ f, x.worn - b.worn = n) → l.foldl (fun r x => rIn n x r f) r = 1
 | [], _, h => by obtain ⟨b, hb, _⟩ := h; cases hb
 | c :: l, r, h => by
   rw [List.foldl_cons]
   by_cases hc : ∃ b ∈ f, c.worn - b.worn = n
   · rw [rIn_met n c f r hc]; exact rOut_stays n f l
   · obtain ⟨b, hb, e⟩ := h
     have hb' : b ∈ l := (List.mem_cons.1 hb).resolve_left (by rintro rfl; exact hc e)
     exact rOut_met n f l _ ⟨b, hb', e⟩
theorem spread_met {f : List Bk} (hok : flashOk f = true) : rOut (wHi f - wLo f) f f = 1 := by
 obtain ⟨x, hx, ex⟩ := wHi_mem hok
 obtain ⟨y, hy, ey⟩ := wLo_mem hok
 exact rOut_met _ f f 0 ⟨x, hx, y, hy, by rw [ex, ey]⟩
theorem arrs87 (T : Array Value) (h : T.size = 87) : ∃ v0 v1 v2 v3 v4 v5 v6 v7 v8 v9 v10 v11 v12 v13 v14 v15 v16 v17 v18 v19 v20 v21 v22 v23 v24 v25 v26 v27 v28 v29 v30 v31 v32 v33 v34 v35 v36 v37 v38 v39 v40 v41 v42 v43 v44 v45 v46 v47 v48 v49 v50 v51 v52 v53 v54 v55 v56 v57 v58 v59 v60 v61 v62 v63 v64 v65 v66 v67 v68 v69 v70 v71 v72 v73 v74 v75 v76 v77 v78 v79 v80 v81 v82 v83 v84 v85 v86, T = #[v0, v1, v2, v3, v4, v5, v6, v7, v8, v9, v10, v11, v12, v13, v14, v15, v16, v17, v18, v19, v20, v21, v22, v23, v24, v25, v26, v27, v28, v29, v30, v31, v32, v33, v34, v35, v36, v37, v38, v39, v40, v41, v42, v43, v44, v45, v46, v47, v48, v49, v50, v51, v52, v53, v54, v55, v56, v57, v58, v59, v60, v61, v62, v63, v64, v65, v66, v67, v68, v69, v70, v71, v72, v73, v74, v75, v76, v77, v78, v79, v80, v81, v82, v83, v84, v85, v86] := by
 obtain ⟨l⟩ := T
 replace h : l.length = 87 := h
 obtain ⟨v0, l0, e0, h⟩ := cons_of_len h
 obtain ⟨v1, l1, e1, h⟩ := cons_of_len h
 obtain ⟨v2, l2, e2, h⟩ := cons_of_len h
 obtain ⟨v3, l3, e3, h⟩ := cons_of_len h
 obtain ⟨v4, l4, e4, h⟩ := cons_of_len h
 obtain ⟨v5, l5, e5, h⟩ := cons_of_len h
 obtain ⟨v6, l6, e6, h⟩ := cons_of_len h
 obtain ⟨v7, l7, e7, h⟩ := cons_of_len h
 obtain ⟨v8, l8, e8, h⟩ := cons_of_len h
 obtain ⟨v9, l9, e9, h⟩ := cons_of_len h
 obtain ⟨v10, l10, e10, h⟩ := cons_of_len h
 obtain ⟨v11, l11, e11, h⟩ := cons_of_len h
 obtain ⟨v12, l12, e12, h⟩ := cons_of_len h
 obtain ⟨v13, l13, e13, h⟩ := cons_of_len h
 obtain ⟨v14, l14, e14, h⟩ := cons_of_len h
 obtain ⟨v15, l15, e15, h⟩ := cons_of_len h
 obtain ⟨v16, l16, e16, h⟩ := cons_of_len h
 obtain ⟨v17, l17, e17, h⟩ := cons_of_len h
 obtain ⟨v18, l18, e18, h⟩ := cons_of_len h
 obtain ⟨v19, l19, e19, h⟩ := cons_of_len h
 obtain ⟨v20, l20, e20, h⟩ := cons_of_len h
 obtain ⟨v21, l21, e21, h⟩ := cons_of_len h
 obtain ⟨v22, l22, e22, h⟩ := cons_of_len h
 obtain ⟨v23, l23, e23, h⟩ := cons_of_len h
 obtain ⟨v24, l24, e24, h⟩ := cons_of_len h
 obtain ⟨v25, l25, e25, h⟩ := cons_of_len h
 obtain ⟨v26, l26, e26, h⟩ := cons_of_len h
 obtain ⟨v27, l27, e27, h⟩ := cons_of_len h
 obtain ⟨v28, l28, e28, h⟩ := cons_of_len h
 obtain ⟨v29, l29, e29, h⟩ := cons_of_len h
 obtain ⟨v30, l30, e30, h⟩ := cons_of_len h
 obtain ⟨v31, l31, e31, h⟩ := cons_of_len h
 obtain ⟨v32, l32, e32, h⟩ := cons_of_len h
 obtain ⟨v33, l33, e33, h⟩ := cons_of_len h
 obtain ⟨v34, l34, e34, h⟩ := cons_of_len h
 obtain ⟨v35, l35, e35, h⟩ := cons_of_len h
 obtain ⟨v36, l36, e36, h⟩ := cons_of_len h
 obtain ⟨v37, l37, e37, h⟩ := cons_of_len h
 obtain ⟨v38, l38, e38, h⟩ := cons_of_len h
 obtain ⟨v39, l39, e39, h⟩ := cons_of_len h
 obtain ⟨v40, l40, e40, h⟩ := cons_of_len h
 obtain ⟨v41, l41, e41, h⟩ := cons_of_len h
 obtain ⟨v42, l42, e42, h⟩ := cons_of_len h
 obtain ⟨v43, l43, e43, h⟩ := cons_of_len h
 obtain ⟨v44, l44, e44, h⟩ := cons_of_len h
 obtain ⟨v45, l45, e45, h⟩ := cons_of_len h
 obtain ⟨v46, l46, e46, h⟩ := cons_of_len h
 obtain ⟨v47, l47, e47, h⟩ := cons_of_len h
 obtain ⟨v48, l48, e48, h⟩ := cons_of_len h
 obtain ⟨v49, l49, e49, h⟩ := cons_of_len h
 obtain ⟨v50, l50, e50, h⟩ := cons_of_len h
 obtain ⟨v51, l51, e51, h⟩ := cons_of_len h
 obtain ⟨v52, l52, e52, h⟩ := cons_of_len h
 obtain ⟨v53, l53, e53, h⟩ := cons_of_len h
 obtain ⟨v54, l54, e54, h⟩ := cons_of_len h
 obtain ⟨v55, l55, e55, h⟩ := cons_of_len h
 obtain ⟨v56, l56, e56, h⟩ := cons_of_len h
 obtain ⟨v57, l57, e57, h⟩ := cons_of_len h
 obtain ⟨v58, l58, e58, h⟩ := cons_of_len h
 obtain ⟨v59, l59, e59, h⟩ := cons_of_len h
 obtain ⟨v60, l60, e60, h⟩ := cons_of_len h
 obtain ⟨v61, l61, e61, h⟩ := cons_of_len h
 obtain ⟨v62, l62, e62, h⟩ := cons_of_len h
 obtain ⟨v63, l63, e63, h⟩ := cons_of_len h
 obtain ⟨v64, l64, e64, h⟩ := cons_of_len h
 obtain ⟨v65, l65, e65, h⟩ := cons_of_len h
 obtain ⟨v66, l66, e66, h⟩ := cons_of_len h
 obtain ⟨v67, l67, e67, h⟩ := cons_of_len h
 obtain ⟨v68, l68, e68, h⟩ := cons_of_len h
 obtain ⟨v69, l69, e69, h⟩ := cons_of_len h
 obtain ⟨v70, l70, e70, h⟩ := cons_of_len h
 obtain ⟨v71, l71, e71, h⟩ := cons_of_len h
 obtain ⟨v72, l72, e72, h⟩ := cons_of_len h
 obtain ⟨v73, l73, e73, h⟩ := cons_of_len h
 obtain ⟨v74, l74, e74, h⟩ := cons_of_len h
 obtain ⟨v75, l75, e75, h⟩ := cons_of_len h
 obtain ⟨v76, l76, e76, h⟩ := cons_of_len h
 obtain ⟨v77, l77, e77, h⟩ := cons_of_len h
 obtain ⟨v78, l78, e78, h⟩ := cons_of_len h
 obtain ⟨v79, l79, e79, h⟩ := cons_of_len h
 obtain ⟨v80, l80, e80, h⟩ := cons_of_len h
 obtain ⟨v81, l81, e81, h⟩ := cons_of_len h
 obtain ⟨v82, l82, e82, h⟩ := cons_of_len h
 obtain ⟨v83, l83, e83, h⟩ := cons_of_len h
 obtain ⟨v84, l84, e84, h⟩ := cons_of_len h
 obtain ⟨v85, l85, e85, h⟩ := cons_of_len h
 obtain ⟨v86, l86, e86, h⟩ := cons_of_len h
 have e := List.eq_nil_of_length_eq_zero h
 exact ⟨_, _, _, _, _, _, _, _, _, _, _, _, _, _, _, _, _, _, _, _, _, _, _, _, _, _, _, _, _, _, _, _, _, _, _, _, _, _, _, _, _, _, _, _, _, _, _, _, _, _, _, _, _, _, _, _, _, _, _, _, _, _, _, _, _, _, _, _, _, _, _, _, _, _, _, _, _, _, _, _, _, _, _, _, _, _, _, by rw [e0, e1, e2, e3, e4, e5, e6, e7, e8, e9, e10, e11, e12, e13, e14, e15, e16, e17, e18, e19, e20, e21, e22, e23, e24, e25, e26, e27, e28, e29, e30, e31, e32, e33, e34, e35, e36, e37, e38, e39, e40, e41, e42, e43, e44, e45, e46, e47, e48, e49, e50, e51, e52, e53, e54, e55, e56, e57, e58, e59, e60, e61, e62, e63, e64, e65, e66, e67, e68, e69, e70, e71, e72, e73, e74, e75, e76, e77, e78, e79, e80, e81, e82, e83, e84, e85, e86, e]⟩
noncomputable def spC : Go.Code := match Try.f6.body with | some (.seq _ (.seq _ (.seq _ (.seq _ (.seq _ (.seq _ (.seq _ (.seq c _)))))))) => c | _ => .skip
def spQ (n : Int) (g off d : Nat) (f : List Bk) (a : Act) (_ : World) : Prop := ∃ T : Array Value, a = ⟨T, []⟩ ∧ T.size = 87 ∧ T[3]? = some (.slice (some ⟨g, off, none⟩) f.length d) ∧ T[4]? = some (.int .i64 n) ∧ T[5]? = some (.int .i64 (wSum f)) ∧ T[6]? = some (.int .i64 1)
theorem spLoop {W0 W : World} {g off d : Nat} {f : List Bk} {n : Int} (h0 : Bel W0 W) (hok : flashOk f = true) (hn : n = wHi f - wLo f) (hf : Fl W (some ⟨g, off, none⟩) f) (T : Array Value) (hT : T.size = 87) (t3 : T[3]? = some (.slice (some ⟨g, off, none⟩) f.length d)) (t4 : T[4]? = some (.int .i64 n)) (t5 : T[5]? = some (.int .i64 0)) (t6 : T[6]? = some (.int .i64 0)) :
 spC.wp Try.prog (PieceQ (spQ n g off d f) W0) ⟨T, []⟩ W := by
 have h4 := Lib.hid (flash_four hok).1
 simp only [spC, Try.f6]
 obtain ⟨v0, v1, v2, v3, v4, v5, v6, v7, v8, v9, v10, v11, v12, v13, v14, v15, v16, v17, v18, v19, v20, v21, v22, v23, v24, v25, v26, v27, v28, v29, v30, v31, v32, v33, v34, v35, v36, v37, v38, v39, v40, v41, v42, v43, v44, v45, v46, v47, v48, v49, v50, v51, v52, v53, v54, v55, v56, v57, v58, v59, v60, v61, v62, v63, v64, v65, v66, v67, v68, v69, v70, v71, v72, v73, v74, v75, v76, v77, v78, v79, v80, v81, v82, v83, v84, v85, v86, rfl⟩ := arrs87 T hT
 simp only [List.getElem?_toArray, List.getElem?_cons_succ, List.getElem?_cons_zero, Option.some.injEq, Nat.reduceAdd, Nat.zero_add] at t3 t4 t5 t6
 subst t3 t4 t5 t6
 have hn' := Lib.hid hn
 clear hn
 have HOK := Lib.hid hok
 clear hok
 go_wp2
 go_loopw [5, 6, 7] (fun a r i wr => ∃ k : Nat, k ≤ 4 ∧ i = .int .i64 k ∧ a = .int .i64 (wSum (f.take k)) ∧ r = .int .i64 (rOut n f (f.take k)) ∧ Below W.heap.size W wr) (fun _ _ i _ => 4 - (intOf i).toNat)
 case atStart => exact ⟨0, by omega, rfl, rfl, rfl, Below.refl _ _⟩
 case round =>
  obtain ⟨k, hk, rfl, rfl, rfl, hB⟩ := hrel
  rename World => wo
  by_cases hlt : k < 4
  · obtain ⟨b, hb⟩ := get_some (l := f) (k := k) (by rw [h4.out]; exact hlt)
    have HBM := Lib.hid (List.mem_of_getElem? hb)
    have hbw := ((flash_four HOK.out).2 b HBM.out).2
    have c0 := (hf.below hB (Nat.le_refl _)).worn hb
    have hkl : (k : Int) < (f.length : Int) := by rw [h4.out]; omega
    have hk1 : IntKind.i64.wrap ((k : Int) + 1) = (k : Int) + 1 := IntWalk.i64_in _ (by omega)
    have htk : f.take (k + 1) = f.take k ++ [b] := by rw [List.take_add_one, hb]; rfl
    have hadd : IntKind.i64.wrap (wSum (f.take k) + b.worn) = wSum (f.take (k + 1)) := by
     have e : wSum (f.take (k + 1)) = wSum (f.take k) + b.worn := by rw [htk]; unfold wSum; rw [List.foldl_append]; rfl
     have := wSum_small HOK.out (k := k)
     rw [e, IntKind.wrap_i64]; omega
    have HST := Lib.hid (show rOut n f (f.take (k + 1)) = rIn n b (rOut n f (f.take k)) f by rw [htk]; unfold rOut; rw [List.foldl_append]; rfl)
    have HB := Lib.hid hb
    clear htk hb
    go_wp2
    go_loopw [6, 8] (fun r j wi => ∃ m : Nat, m ≤ 4 ∧ j = .int .i64 m ∧ r = .int .i64 (rIn n b (rOut n f (f.take k)) (f.take m)) ∧ Below W.heap.size W wi) (fun _ j _ => 4 - (intOf j).toNat)
    case atStart => exact ⟨0, by omega, rfl, rfl, hB⟩
    case round =>
     obtain ⟨m, hm, rfl, rfl, hBi⟩ := hrel
     rename World => wi
     by_cases hlt2 : m < 4
     · obtain ⟨c, hc⟩ := get_some (l := f) (k := m) (by rw [h4.out]; exact hlt2)
       have HCM := Lib.hid (List.mem_of_getElem? hc)
       have hcw := ((flash_four HOK.out).2 c HCM.out).2
       have d0 := (hf.below hBi (Nat.le_refl _)).worn HB.out
       have d1 := (hf.below hBi (Nat.le_refl _)).worn hc
       have hml : (m : Int) < (f.length : Int) := by rw [h4.out]; omega
       have hm1 : IntKind.i64.wrap ((m : Int) + 1) = (m : Int) + 1 := IntWalk.i64_in _ (by omega)
       have hsub : IntKind.i64.wrap (b.worn - c.worn) = b.worn - c.worn := by rw [IntKind.wrap_i64]; omega
       have hle : ¬ (n < b.worn - c.worn) := by have := wLo_le HCM.out; have := le_wHi HBM.out; have := hn'.out; omega
       have HS2 := Lib.hid (show rIn n b (rOut n f (f.take k)) (f.take (m + 1)) = if b.worn - c.worn = n then 1 else rIn n b (rOut n f (f.take k)) (f.take m) by rw [List.take_add_one, hc]; unfold rIn; rw [show (some c).toList = [c] from rfl, List.foldl_append]; rfl)
       clear hc
       go_wp2
       go_quiet (fail)
       have hBq : Below W.heap.size W (wi.drewN nq) := hBi.trans (Below.drewN' _ _ _)
       by_cases he : b.worn - c.worn = n
       · have HS3 := Lib.hid (HS2.out.trans (if_pos he))
         go_wp2
         go_quiet (fail)
         have hBz : Below W.heap.size W ((wi.drewN _).drewN nq) := hBq.trans (Below.drewN' _ _ _)
         go_wp2
         go_roundw
         (case rel => first | exact ⟨m + 1, by omega, by go_num, by rw [HS3.out], hBi.trans (Below.drewN' _ _ _)⟩ | ((repeat apply Exists.intro); exact ⟨⟨m + 1, by omega, by go_num, by rw [HS3.out], hBz⟩, rfl⟩) | ((repeat apply Exists.intro); exact ⟨⟨m + 1, by omega, by go_num, by rw [HS3.out], hBi.trans (Below.drewN' _ _ _)⟩, rfl⟩))
         (case measure => simp [intOf]; omega)
       · have HS3 := Lib.hid (HS2.out.trans (if_neg he))
         go_wp2
         go_quiet (fail)
         have hBz : Below W.heap.size W ((wi.drewN _).drewN nq) := hBq.trans (Below.drewN' _ _ _)
         go_wp2
         go_roundw
         (case rel => first | exact ⟨m + 1, by omega, by go_num, by rw [HS3.out], hBi.trans (Below.drewN' _ _ _)⟩ | ((repeat apply Exists.intro); exact ⟨⟨m + 1, by omega, by go_num, by rw [HS3.out], hBz⟩, rfl⟩) | ((repeat apply Exists.intro); exact ⟨⟨m + 1, by omega, by go_num, by rw [HS3.out], hBi.trans (Below.drewN' _ _ _)⟩, rfl⟩))
         (case measure => simp [intOf]; omega)
     · obtain rfl : m = 4 := by omega
       have hkx : ¬ ((4 : Nat) : Int) < (f.length : Int) := by rw [h4.out]; omega
       have hky : ¬ (4 : Int) < (f.length : Int) := by rw [h4.out]; omega
       rw [List.take_of_length_le (show f.length ≤ 4 by rw [h4.out]; omega), ← HST.out]
       go_wp2
       go_roundw
       (case rel => first | exact ⟨k + 1, by omega, by go_num, rfl, rfl, hBi⟩ | ((repeat apply Exists.intro); exact ⟨⟨k + 1, by omega, by go_num, rfl, rfl, hBi⟩, rfl⟩))
       (case measure => simp [intOf]; omega)
  · obtain rfl : k = 4 := by omega
    have hkx : ¬ ((4 : Nat) : Int) < (f.length : Int) := by rw [h4.out]; omega
    have hky : ¬ (4 : Int) < (f.length : Int) := by rw [h4.out]; omega
    rw [List.take_of_length_le (show f.length ≤ 4 by rw [h4.out]; omega)]
    have HE := Lib.hid (show rOut n f f = 1 by rw [hn'.out]; exact spread_met HOK.out)
    rw [HE.out]
    go_wp2
    exact PieceQ.mk' rfl ⟨_, rfl, rfl, rfl, rfl, rfl, rfl⟩ (Below.bel h0 hB)
end Go.Proofs.Ytclnogfmmekooaa
