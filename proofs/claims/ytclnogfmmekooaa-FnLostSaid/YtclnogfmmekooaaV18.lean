/- The loop of the law FnLost, as a lone piece of code. (Printed by genv18.py.) -/
import Derived.Test.YtclnogfmmekooaaV13
import Derived.Test.YtclnogfmmekooaaV8
import Derived.Deep.RegionHeld3
import Derived.BigQuiet
namespace Go.Proofs.Ytclnogfmmekooaa
set_option linter.unusedVariables false
set_option linter.unusedSimpArgs false
open Go.RowKit Go.Maps
set_option maxRecDepth 100000
set_option maxHeartbeats 4000000
theorem arrs79 (T : Array Value) (h : T.size = 79) : ∃ v0 v1 v2 v3 v4 v5 v6 v7 v8 v9 v10 v11 v12 v13 v14 v15 v16 v17 v18 v19 v20 v21 v22 v23 v24 v25 v26 v27 v28 v29 v30 v31 v32 v33 v34 v35 v36 v37 v38 v39 v40 v41 v42 v43 v44 v45 v46 v47 v48 v49 v50 v51 v52 v53 v54 v55 v56 v57 v58 v59 v60 v61 v62 v63 v64 v65 v66 v67 v68 v69 v70 v71 v72 v73 v74 v75 v76 v77 v78, T = #[v0, v1, v2, v3, v4, v5, v6, v7, v8, v9, v10, v11, v12, v13, v14, v15, v16, v17, v18, v19, v20, v21, v22, v23, v24, v25, v26, v27, v28, v29, v30, v31, v32, v33, v34, v35, v36, v37, v38, v39, v40, v41, v42, v43, v44, v45, v46, v47, v48, v49, v50, v51, v52, v53, v54, v55, v56, v57, v58, v59, v60, v61, v62, v63, v64, v65, v66, v67, v68, v69, v70, v71, v72, v73, v74, v75, v76, v77, v78] := by
 obtain ⟨l⟩ := T
 replace h : l.length = 79 := h
 obtain ⟨v0, l0, e0, h⟩ := cons_of_len h
 obtain ⟨v1, l1, e1, h⟩ := cons_of_len h
 obtain ⟨v2, l2, e2, h⟩ := cons_of_len h
 obtain ⟨v3, l3, e3, h⟩ := cons_of_len h
 obtain ⟨v4, l4, e4, h⟩ := cons_of_len h
 obtain ⟨v5, l5, e5, h⟩ := cons_of_len h
 obtain ⟨v6, l6, e6, h⟩ := cons_of_len h
 obtain ⟨v7, l7, e7, h⟩ := cons_of_len h
 obtain ⟨v8, l8, e8, h⟩ := cons_of_len h
 obtain ⟨v9, l9, e9, h⟩ := cons_of_len h
 obtain ⟨v10, l10, e10, h⟩ := cons_of_len h
 obtain ⟨v11, l11, e11, h⟩ := cons_of_len h
 obtain ⟨v12, l12, e12, h⟩ := cons_of_len h
 obtain ⟨v13, l13, e13, h⟩ := cons_of_len h
 obtain ⟨v14, l14, e14, h⟩ := cons_of_len h
 obtain ⟨v15, l15, e15, h⟩ := cons_of_len h
 obtain ⟨v16, l16, e16, h⟩ := cons_of_len h
 obtain ⟨v17, l17, e17, h⟩ := cons_of_len h
 obtain ⟨v18, l18, e18, h⟩ := cons_of_len h
 obtain ⟨v19, l19, e19, h⟩ := cons_of_len h
 obtain ⟨v20, l20, e20, h⟩ := cons_of_len h
 obtain ⟨v21, l21, e21, h⟩ := cons_of_len h
 obtain ⟨v22, l22, e22, h⟩ := cons_of_len h
 obtain ⟨v23, l23, e23, h⟩ := cons_of_len h
 obtain ⟨v24, l24, e24, h⟩ := cons_of_len h
 obtain ⟨v25, l25, e25, h⟩ := cons_of_len h
 obtain ⟨v26, l26, e26, h⟩ := cons_of_len h
 obtain ⟨v27, l27, e27, h⟩ := cons_of_len h
 obtain ⟨v28, l28, e28, h⟩ := cons_of_len h
 obtain ⟨v29, l29, e29, h⟩ := cons_of_len h
 obtain ⟨v30, l30, e30, h⟩ := cons_of_len h
 obtain ⟨v31, l31, e31, h⟩ := cons_of_len h
 obtain ⟨v32, l32, e32, h⟩ := cons_of_len h
 obtain ⟨v33, l33, e33, h⟩ := cons_of_len h
 obtain ⟨v34, l34, e34, h⟩ := cons_of_len h
 obtain ⟨v35, l35, e35, h⟩ := cons_of_len h
 obtain ⟨v36, l36, e36, h⟩ := cons_of_len h
 obtain ⟨v37, l37, e37, h⟩ := cons_of_len h
 obtain ⟨v38, l38, e38, h⟩ := cons_of_len h
 obtain ⟨v39, l39, e39, h⟩ := cons_of_len h
 obtain ⟨v40, l40, e40, h⟩ := cons_of_len h
 obtain ⟨v41, l41, e41, h⟩ := cons_of_len h
 obtain ⟨v42, l42, e42, h⟩ := cons_of_len h
 obtain ⟨v43, l43, e43, h⟩ := cons_of_len h
 obtain ⟨v44, l44, e44, h⟩ := cons_of_len h
 obtain ⟨v45, l45, e45, h⟩ := cons_of_len h
 obtain ⟨v46, l46, e46, h⟩ := cons_of_len h
 obtain ⟨v47, l47, e47, h⟩ := cons_of_len h
 obtain ⟨v48, l48, e48, h⟩ := cons_of_len h
 obtain ⟨v49, l49, e49, h⟩ := cons_of_len h
 obtain ⟨v50, l50, e50, h⟩ := cons_of_len h
 obtain ⟨v51, l51, e51, h⟩ := cons_of_len h
 obtain ⟨v52, l52, e52, h⟩ := cons_of_len h
 obtain ⟨v53, l53, e53, h⟩ := cons_of_len h
 obtain ⟨v54, l54, e54, h⟩ := cons_of_len h
 obtain ⟨v55, l55, e55, h⟩ := cons_of_len h
 obtain ⟨v56, l56, e56, h⟩ := cons_of_len h
 obtain ⟨v57, l57, e57, h⟩ := cons_of_len h
 obtain ⟨v58, l58, e58, h⟩ := cons_of_len h
 obtain ⟨v59, l59, e59, h⟩ := cons_of_len h
 obtain ⟨v60, l60, e60, h⟩ := cons_of_len h
 obtain ⟨v61, l61, e61, h⟩ := cons_of_len h
 obtain ⟨v62, l62, e62, h⟩ := cons_of_len h
 obtain ⟨v63, l63, e63, h⟩ := cons_of_len h
 obtain ⟨v64, l64, e64, h⟩ := cons_of_len h
 obtain ⟨v65, l65, e65, h⟩ := cons_of_len h
 obtain ⟨v66, l66, e66, h⟩ := cons_of_len h
 obtain ⟨v67, l67, e67, h⟩ := cons_of_len h
 obtain ⟨v68, l68, e68, h⟩ := cons_of_len h
 obtain ⟨v69, l69, e69, h⟩ := cons_of_len h
 obtain ⟨v70, l70, e70, h⟩ := cons_of_len h
 obtain ⟨v71, l71, e71, h⟩ := cons_of_len h
 obtain ⟨v72, l72, e72, h⟩ := cons_of_len h
 obtain ⟨v73, l73, e73, h⟩ := cons_of_len h
 obtain ⟨v74, l74, e74, h⟩ := cons_of_len h
 obtain ⟨v75, l75, e75, h⟩ := cons_of_len h
 obtain ⟨v76, l76, e76, h⟩ := cons_of_len h
 obtain ⟨v77, l77, e77, h⟩ := cons_of_len h
 obtain ⟨v78, l78, e78, h⟩ := cons_of_len h
 have e := List.eq_nil_of_length_eq_zero h
 exact ⟨_, _, _, _, _, _, _, _, _, _, _, _, _, _, _, _, _, _, _, _, _, _, _, _, _, _, _, _, _, _, _, _, _, _, _, _, _, _, _, _, _, _, _, _, _, _, _, _, _, _, _, _, _, _, _, _, _, _, _, _, _, _, _, _, _, _, _, _, _, _, _, _, _, _, _, _, _, _, _, by rw [e0, e1, e2, e3, e4, e5, e6, e7, e8, e9, e10, e11, e12, e13, e14, e15, e16, e17, e18, e19, e20, e21, e22, e23, e24, e25, e26, e27, e28, e29, e30, e31, e32, e33, e34, e35, e36, e37, e38, e39, e40, e41, e42, e43, e44, e45, e46, e47, e48, e49, e50, e51, e52, e53, e54, e55, e56, e57, e58, e59, e60, e61, e62, e63, e64, e65, e66, e67, e68, e69, e70, e71, e72, e73, e74, e75, e76, e77, e78, e]⟩
noncomputable def loT : Go.Code := match Try.f10.body with | some (.seq _ (.seq _ (.seq _ (.seq _ (.seq _ (.seq _ (.seq _ c))))))) => c | _ => .skip
noncomputable def loC : Go.Code := match Try.f10.body with | some (.seq _ (.seq _ (.seq _ (.seq _ (.seq _ (.seq _ (.seq _ (.seq _ (.seq c _))))))))) => c | _ => .skip
def loQ (a : Act) (w : World) : Prop := ∃ (T : Array Value) (A : Option Addr) (c : Nat) (h : List Bk), a = ⟨T, []⟩ ∧ T.size = 79 ∧ T[9]? = some (.slice A h.length c) ∧ Fl w A h ∧ flashOk h = true ∧ wTorn h = 0
def loR (a : Act) (_ : World) : Prop := ∃ T : Array Value, a = ⟨T, []⟩ ∧ T.size = 79 ∧ T[2]? = some (.bool true)
theorem wipeN_len (f : List Bk) : ∀ k, (wipeN f k).length = f.length
 | 0 => rfl
 | k + 1 => by
   rw [wipeN]
   split
   · rw [List.length_set]; exact wipeN_len f k
   · exact wipeN_len f k
theorem loLoop {W0 W : World} {g off d : Nat} {f : List Bk} (h0 : Bel W0 W) (hok : flashOk f = true) (hf : Fl W (some ⟨g, off, none⟩) f) (T : Array Value) (hT : T.size = 79) (t3 : T[3]? = some (.slice (some ⟨g, off, none⟩) f.length d)) (t9 : T[9]? = some (.slice (some ⟨g, off, none⟩) f.length d)) :
 loC.wp Try.prog (PieceQR loQ loR W0) ⟨T, []⟩ W := by
 have h4 := Lib.hid (flash_four hok).1
 simp only [loC, Try.f10]
 obtain ⟨v0, v1, v2, v3, v4, v5, v6, v7, v8, v9, v10, v11, v12, v13, v14, v15, v16, v17, v18, v19, v20, v21, v22, v23, v24, v25, v26, v27, v28, v29, v30, v31, v32, v33, v34, v35, v36, v37, v38, v39, v40, v41, v42, v43, v44, v45, v46, v47, v48, v49, v50, v51, v52, v53, v54, v55, v56, v57, v58, v59, v60, v61, v62, v63, v64, v65, v66, v67, v68, v69, v70, v71, v72, v73, v74, v75, v76, v77, v78, rfl⟩ := arrs79 T hT
 simp only [List.getElem?_toArray, List.getElem?_cons_succ, List.getElem?_cons_zero, Option.some.injEq, Nat.reduceAdd, Nat.zero_add] at t3 t9
 subst t3 t9
 have HOK := Lib.hid hok
 clear hok
 go_wp2
 go_loopw [9, 10] (fun y i wr => ∃ (k c : Nat) (A : Option Addr) (h : List Bk), k ≤ 4 ∧ i = .int .i64 k ∧ y = .slice A h.length c ∧ Hid (h = wipeN f k) ∧ Fl wr A h ∧ Hid (flashOk h = true) ∧ Below W.heap.size W wr) (fun _ i _ => 4 - (intOf i).toNat)
 case atStart => exact ⟨0, d, _, f, by omega, rfl, rfl, rfl, hf, HOK.out, Below.refl _ _⟩
 case round =>
  obtain ⟨k, c, A, h, hk, rfl, rfl, HH, hF, HO, hB⟩ := hrel
  rename World => wo
  by_cases hlt : k < 4
  · obtain ⟨b, hb⟩ := get_some (l := f) (k := k) (by rw [h4.out]; exact hlt)
    have HA := Lib.hid (show h[k]? = some b by rw [HH.out, wipeN_from f k k (Nat.le_refl _)]; exact hb)
    have HFW := Lib.hid (flashWipe_at HO.out HA.out false)
    have c0 := (hf.below hB (Nat.le_refl _)).worn hb
    have hkl : (k : Int) < (f.length : Int) := by rw [h4.out]; omega
    have hk1 : IntKind.i64.wrap ((k : Int) + 1) = (k : Int) + 1 := IntWalk.i64_in _ (by omega)
    have hzo := hB.size
    by_cases hw : b.worn = 200
    · rw [if_pos hw] at HFW
      have hq : (b.worn == 200) = true := by rw [hw]; rfl
      have HW := Lib.hid hw
      clear hw hb
      go_wp2_with fail
      refine (impl_FlashWipe h (k : Int) false A c _ hF).mono ?_
      rw [HFW.out]
      rintro e w1 ⟨A1, c1, rfl, _, hO1, hb1⟩
      dsimp only at hO1 ⊢
      have hB1 := hB.trans (hb1.mono hzo)
      replace c0 := (hb1.cell (p := ⟨g, off + k * 2 + 1, none⟩) (lt_of_cell c0)).trans c0
      clear hb1 hO1
      go_wp2
      exact PieceQR.mkR rfl ⟨_, rfl, rfl, by first | rfl | (simp [hq]) | (simp [HW.out])⟩ (Below.bel h0 hB1)
    · rw [if_neg hw] at HFW
      have HK := Lib.hid (wiped_keeps HO.out HA.out hw false)
      have HN := Lib.hid (show h.set k (wipedBk b false) = wipeN f (k + 1) by rw [wipeN_succ hb, HH.out])
      clear hw hb
      go_wp2_with fail
      refine (impl_FlashWipe h (k : Int) false A c _ hF).mono ?_
      rw [HFW.out]
      rintro e w1 ⟨A1, c1, rfl, _, hO1, hb1⟩
      dsimp only at hO1 ⊢
      have hB1 := hB.trans (hb1.mono hzo)
      have hF1 := hO1.fl
      clear hb1 hO1
      generalize h.set k (wipedBk b false) = h1 at *
      go_wp2
      go_roundw
      (case rel => exact ⟨k + 1, c1, A1, h1, by omega, by go_num, rfl, HN.out, hF1, HK.out, hB1⟩)
      (case measure => simp [intOf]; omega)
  · obtain rfl : k = 4 := by omega
    have HZ := Lib.hid (show wTorn h = 0 by rw [HH.out]; exact wipeN_all (by rw [wipeN_len, h4.out]))
    go_wp2
    exact PieceQR.mkN rfl ⟨_, A, c, h, rfl, rfl, rfl, hF, HO.out, HZ.out⟩ (Below.bel h0 hB)
end Go.Proofs.Ytclnogfmmekooaa
