/- The loop of the law FnSpreadWipe, as a lone piece of code. (Printed by genv14.py.) -/
import Derived.Test.YtclnogfmmekooaaV13
import Derived.Test.YtclnogfmmekooaaV8
import Derived.Deep.RegionHeld3
import Derived.BigQuiet
namespace Go.Proofs.Ytclnogfmmekooaa
set_option linter.unusedVariables false
set_option linter.unusedSimpArgs false
open Go.RowKit Go.Maps
set_option maxRecDepth 100000
set_option maxHeartbeats 4000000
theorem arrs94 (T : Array Value) (h : T.size = 94) : ∃ v0 v1 v2 v3 v4 v5 v6 v7 v8 v9 v10 v11 v12 v13 v14 v15 v16 v17 v18 v19 v20 v21 v22 v23 v24 v25 v26 v27 v28 v29 v30 v31 v32 v33 v34 v35 v36 v37 v38 v39 v40 v41 v42 v43 v44 v45 v46 v47 v48 v49 v50 v51 v52 v53 v54 v55 v56 v57 v58 v59 v60 v61 v62 v63 v64 v65 v66 v67 v68 v69 v70 v71 v72 v73 v74 v75 v76 v77 v78 v79 v80 v81 v82 v83 v84 v85 v86 v87 v88 v89 v90 v91 v92 v93, T = #[v0, v1, v2, v3, v4, v5, v6, v7, v8, v9, v10, v11, v12, v13, v14, v15, v16, v17, v18, v19, v20, v21, v22, v23, v24, v25, v26, v27, v28, v29, v30, v31, v32, v33, v34, v35, v36, v37, v38, v39, v40, v41, v42, v43, v44, v45, v46, v47, v48, v49, v50, v51, v52, v53, v54, v55, v56, v57, v58, v59, v60, v61, v62, v63, v64, v65, v66, v67, v68, v69, v70, v71, v72, v73, v74, v75, v76, v77, v78, v79, v80, v81, v82, v83, v84, v85, v86, v87, v88, v89, v90, v91, v92, v93] := by
 obtain ⟨l⟩ := T
 replace h : l.length = 94 := h
 obtain ⟨v0, l0, e0, h⟩ := cons_of_len h
 obtain ⟨v1, l1, e1, h⟩ := cons_of_len h
 obtain ⟨v2, l2, e2, h⟩ := cons_of_len h
 obtain ⟨v3, l3, e3, h⟩ := cons_of_len h
 obtain ⟨v4, l4, e4, h⟩ := cons_of_len h
 obtain ⟨v5, l5, e5, h⟩ := cons_of_len h
 obtain ⟨v6, l6, e6, h⟩ := cons_of_len h
 obtain ⟨v7, l7, e7, h⟩ := cons_of_len h
 obtain ⟨v8, l8, e8, h⟩ := cons_of_len h
 obtain ⟨v9, l9, e9, h⟩ := cons_of_len h
 obtain ⟨v10, l10, e10, h⟩ := cons_of_len h
 obtain ⟨v11, l11, e11, h⟩ := cons_of_len h
 obtain ⟨v12, l12, e12, h⟩ := cons_of_len h
 obtain ⟨v13, l13, e13, h⟩ := cons_of_len h
 obtain ⟨v14, l14, e14, h⟩ := cons_of_len h
 obtain ⟨v15, l15, e15, h⟩ := cons_of_len h
 obtain ⟨v16, l16, e16, h⟩ := cons_of_len h
 obtain ⟨v17, l17, e17, h⟩ := cons_of_len h
 obtain ⟨v18, l18, e18, h⟩ := cons_of_len h
 obtain ⟨v19, l19, e19, h⟩ := cons_of_len h
 obtain ⟨v20, l20, e20, h⟩ := cons_of_len h
 obtain ⟨v21, l21, e21, h⟩ := cons_of_len h
 obtain ⟨v22, l22, e22, h⟩ := cons_of_len h
 obtain ⟨v23, l23, e23, h⟩ := cons_of_len h
 obtain ⟨v24, l24, e24, h⟩ := cons_of_len h
 obtain ⟨v25, l25, e25, h⟩ := cons_of_len h
 obtain ⟨v26, l26, e26, h⟩ := cons_of_len h
 obtain ⟨v27, l27, e27, h⟩ := cons_of_len h
 obtain ⟨v28, l28, e28, h⟩ := cons_of_len h
 obtain ⟨v29, l29, e29, h⟩ := cons_of_len h
 obtain ⟨v30, l30, e30, h⟩ := cons_of_len h
 obtain ⟨v31, l31, e31, h⟩ := cons_of_len h
 obtain ⟨v32, l32, e32, h⟩ := cons_of_len h
 obtain ⟨v33, l33, e33, h⟩ := cons_of_len h
 obtain ⟨v34, l34, e34, h⟩ := cons_of_len h
 obtain ⟨v35, l35, e35, h⟩ := cons_of_len h
 obtain ⟨v36, l36, e36, h⟩ := cons_of_len h
 obtain ⟨v37, l37, e37, h⟩ := cons_of_len h
 obtain ⟨v38, l38, e38, h⟩ := cons_of_len h
 obtain ⟨v39, l39, e39, h⟩ := cons_of_len h
 obtain ⟨v40, l40, e40, h⟩ := cons_of_len h
 obtain ⟨v41, l41, e41, h⟩ := cons_of_len h
 obtain ⟨v42, l42, e42, h⟩ := cons_of_len h
 obtain ⟨v43, l43, e43, h⟩ := cons_of_len h
 obtain ⟨v44, l44, e44, h⟩ := cons_of_len h
 obtain ⟨v45, l45, e45, h⟩ := cons_of_len h
 obtain ⟨v46, l46, e46, h⟩ := cons_of_len h
 obtain ⟨v47, l47, e47, h⟩ := cons_of_len h
 obtain ⟨v48, l48, e48, h⟩ := cons_of_len h
 obtain ⟨v49, l49, e49, h⟩ := cons_of_len h
 obtain ⟨v50, l50, e50, h⟩ := cons_of_len h
 obtain ⟨v51, l51, e51, h⟩ := cons_of_len h
 obtain ⟨v52, l52, e52, h⟩ := cons_of_len h
 obtain ⟨v53, l53, e53, h⟩ := cons_of_len h
 obtain ⟨v54, l54, e54, h⟩ := cons_of_len h
 obtain ⟨v55, l55, e55, h⟩ := cons_of_len h
 obtain ⟨v56, l56, e56, h⟩ := cons_of_len h
 obtain ⟨v57, l57, e57, h⟩ := cons_of_len h
 obtain ⟨v58, l58, e58, h⟩ := cons_of_len h
 obtain ⟨v59, l59, e59, h⟩ := cons_of_len h
 obtain ⟨v60, l60, e60, h⟩ := cons_of_len h
 obtain ⟨v61, l61, e61, h⟩ := cons_of_len h
 obtain ⟨v62, l62, e62, h⟩ := cons_of_len h
 obtain ⟨v63, l63, e63, h⟩ := cons_of_len h
 obtain ⟨v64, l64, e64, h⟩ := cons_of_len h
 obtain ⟨v65, l65, e65, h⟩ := cons_of_len h
 obtain ⟨v66, l66, e66, h⟩ := cons_of_len h
 obtain ⟨v67, l67, e67, h⟩ := cons_of_len h
 obtain ⟨v68, l68, e68, h⟩ := cons_of_len h
 obtain ⟨v69, l69, e69, h⟩ := cons_of_len h
 obtain ⟨v70, l70, e70, h⟩ := cons_of_len h
 obtain ⟨v71, l71, e71, h⟩ := cons_of_len h
 obtain ⟨v72, l72, e72, h⟩ := cons_of_len h
 obtain ⟨v73, l73, e73, h⟩ := cons_of_len h
 obtain ⟨v74, l74, e74, h⟩ := cons_of_len h
 obtain ⟨v75, l75, e75, h⟩ := cons_of_len h
 obtain ⟨v76, l76, e76, h⟩ := cons_of_len h
 obtain ⟨v77, l77, e77, h⟩ := cons_of_len h
 obtain ⟨v78, l78, e78, h⟩ := cons_of_len h
 obtain ⟨v79, l79, e79, h⟩ := cons_of_len h
 obtain ⟨v80, l80, e80, h⟩ := cons_of_len h
 obtain ⟨v81, l81, e81, h⟩ := cons_of_len h
 obtain ⟨v82, l82, e82, h⟩ := cons_of_len h
 obtain ⟨v83, l83, e83, h⟩ := cons_of_len h
 obtain ⟨v84, l84, e84, h⟩ := cons_of_len h
 obtain ⟨v85, l85, e85, h⟩ := cons_of_len h
 obtain ⟨v86, l86, e86, h⟩ := cons_of_len h
 obtain ⟨v87, l87, e87, h⟩ := cons_of_len h
 obtain ⟨v88, l88, e88, h⟩ := cons_of_len h
 obtain ⟨v89, l89, e89, h⟩ := cons_of_len h
 obtain ⟨v90, l90, e90, h⟩ := cons_of_len h
 obtain ⟨v91, l91, e91, h⟩ := cons_of_len h
 obtain ⟨v92, l92, e92, h⟩ := cons_of_len h
 obtain ⟨v93, l93, e93, h⟩ := cons_of_len h
 have e := List.eq_nil_of_length_eq_zero h
 exact ⟨_, _, _, _, _, _, _, _, _, _, _, _, _, _, _, _, _, _, _, _, _, _, _, _, _, _, _, _, _, _, _, _, _, _, _, _, _, _, _, _, _, _, _, _, _, _, _, _, _, _, _, _, _, _, _, _, _, _, _, _, _, _, _, _, _, _, _, _, _, _, _, _, _, _, _, _, _, _, _, _, _, _, _, _, _, _, _, _, _, _, _, _, _, _, by rw [e0, e1, e2, e3, e4, e5, e6, e7, e8, e9, e10, e11, e12, e13, e14, e15, e16, e17, e18, e19, e20, e21, e22, e23, e24, e25, e26, e27, e28, e29, e30, e31, e32, e33, e34, e35, e36, e37, e38, e39, e40, e41, e42, e43, e44, e45, e46, e47, e48, e49, e50, e51, e52, e53, e54, e55, e56, e57, e58, e59, e60, e61, e62, e63, e64, e65, e66, e67, e68, e69, e70, e71, e72, e73, e74, e75, e76, e77, e78, e79, e80, e81, e82, e83, e84, e85, e86, e87, e88, e89, e90, e91, e92, e93, e]⟩
noncomputable def swC : Go.Code := match Try.f7.body with | some (.seq _ (.seq _ (.seq _ (.seq _ (.seq _ (.seq _ (.seq _ (.seq c _)))))))) => c | _ => .skip
/-- the least worn block and the most worn one of the first k -/
def Ext (f : List Bk) (k lo hi : Nat) (bl bh : Bk) : Prop := f[lo]? = some bl ∧ f[hi]? = some bh ∧ ∀ (j : Nat) (b : Bk), j < k → f[j]? = some b → bl.worn ≤ b.worn ∧ b.worn ≤ bh.worn
theorem Ext.next {f : List Bk} {k lo hi : Nat} {bl bh b : Bk} (h : Ext f k lo hi bl bh) (hb : f[k]? = some b) :
 Ext f (k + 1) (if b.worn < bl.worn then k else lo) (if bh.worn < b.worn then k else hi) (if b.worn < bl.worn then b else bl) (if bh.worn < b.worn then b else bh) := by
 obtain ⟨h1, h2, h3⟩ := h
 refine ⟨?_, ?_, fun j c hj hc => ?_⟩
 · split
   · exact hb
   · exact h1
 · split
   · exact hb
   · exact h2
 · by_cases e : j = k
   · subst e
     rw [hb] at hc; cases hc
     split <;> split <;> omega
   · have := h3 j c (by omega) hc
     split <;> split <;> omega
theorem Ext.all {f : List Bk} (hok : flashOk f = true) {lo hi : Nat} {bl bh : Bk} (h : Ext f 4 lo hi bl bh) : bl.worn = wLo f ∧ bh.worn = wHi f := by
 obtain ⟨h1, h2, h3⟩ := h
 have hall : ∀ b ∈ f, bl.worn ≤ b.worn ∧ b.worn ≤ bh.worn := fun b hb => by
  obtain ⟨j, hj⟩ := List.mem_iff_getElem?.1 hb
  have := (List.getElem?_eq_some_iff.1 hj).1
  exact h3 j b (by have := (flash_four hok).1; omega) hj
 obtain ⟨x, hx, ex⟩ := wLo_mem hok
 obtain ⟨y, hy, ey⟩ := wHi_mem hok
 have a1 := wLo_le (List.mem_of_getElem? h1)
 have a2 := le_wHi (List.mem_of_getElem? h2)
 have a3 := hall x hx
 have a4 := hall y hy
 omega
def swQ (n : Int) (g off d : Nat) (f : List Bk) (a : Act) (_ : World) : Prop := ∃ (T : Array Value) (lo hi : Nat) (bl bh : Bk), a = ⟨T, []⟩ ∧ T.size = 94 ∧ T[3]? = some (.slice (some ⟨g, off, none⟩) f.length d) ∧ T[4]? = some (.int .i64 n) ∧ T[5]? = some (.int .i64 (lo : Int)) ∧ T[6]? = some (.int .i64 (hi : Int)) ∧ f[lo]? = some bl ∧ f[hi]? = some bh ∧ bl.worn = wLo f ∧ bh.worn = wHi f
theorem swLoop {W0 W : World} {g off d : Nat} {f : List Bk} {n : Int} (h0 : Bel W0 W) (hok : flashOk f = true) (hf : Fl W (some ⟨g, off, none⟩) f) (T : Array Value) (hT : T.size = 94) (t3 : T[3]? = some (.slice (some ⟨g, off, none⟩) f.length d)) (t4 : T[4]? = some (.int .i64 n)) (t5 : T[5]? = some (.int .i64 0)) (t6 : T[6]? = some (.int .i64 0)) :
 swC.wp Try.prog (PieceQ (swQ n g off d f) W0) ⟨T, []⟩ W := by
 have h4 := Lib.hid (flash_four hok).1
 simp only [swC, Try.f7]
 obtain ⟨v0, v1, v2, v3, v4, v5, v6, v7, v8, v9, v10, v11, v12, v13, v14, v15, v16, v17, v18, v19, v20, v21, v22, v23, v24, v25, v26, v27, v28, v29, v30, v31, v32, v33, v34, v35, v36, v37, v38, v39, v40, v41, v42, v43, v44, v45, v46, v47, v48, v49, v50, v51, v52, v53, v54, v55, v56, v57, v58, v59, v60, v61, v62, v63, v64, v65, v66, v67, v68, v69, v70, v71, v72, v73, v74, v75, v76, v77, v78, v79, v80, v81, v82, v83, v84, v85, v86, v87, v88, v89, v90, v91, v92, v93, rfl⟩ := arrs94 T hT
 simp only [List.getElem?_toArray, List.getElem?_cons_succ, List.getElem?_cons_zero, Option.some.injEq, Nat.reduceAdd, Nat.zero_add] at t3 t4 t5 t6
 subst t3 t4 t5 t6
 have HOK := Lib.hid hok
 clear hok
 go_wp2
 go_loopw [5, 6, 7] (fun l h i wr => ∃ (k lo hi : Nat) (bl bh : Bk), k ≤ 4 ∧ i = .int .i64 k ∧ l = .int .i64 lo ∧ h = .int .i64 hi ∧ lo < 4 ∧ hi < 4 ∧ Hid (Ext f k lo hi bl bh) ∧ Below W.heap.size W wr) (fun _ _ i _ => 4 - (intOf i).toNat)
 case atStart =>
  obtain ⟨b, hb⟩ := get_some (l := f) (k := 0) (by rw [h4.out]; omega)
  exact ⟨0, 0, 0, b, b, by omega, rfl, rfl, rfl, by omega, by omega, ⟨hb, hb, fun j c hj => by omega⟩, Below.refl _ _⟩
 case round =>
  obtain ⟨k, lo, hi, bl, bh, hk, rfl, rfl, rfl, hlo, hhi, HE, hB⟩ := hrel
  rename World => wo
  by_cases hlt : k < 4
  · obtain ⟨b, hb⟩ := get_some (l := f) (k := k) (by rw [h4.out]; exact hlt)
    have HN := Lib.hid (HE.out.next hb)
    have hfo := hf.below hB (Nat.le_refl _)
    have c0 := hfo.worn hb
    have c1 := hfo.worn HE.out.1
    have c2 := hfo.worn HE.out.2.1
    have hkl : (k : Int) < (f.length : Int) := by rw [h4.out]; omega
    have hll : (lo : Int) < (f.length : Int) := by rw [h4.out]; omega
    have hhl : (hi : Int) < (f.length : Int) := by rw [h4.out]; omega
    have hk1 : IntKind.i64.wrap ((k : Int) + 1) = (k : Int) + 1 := IntWalk.i64_in _ (by omega)
    clear hb hfo
    go_wp2
    go_quiet (fail)
    have hBq : Below W.heap.size W (wo.drewN nq) := hB.trans (Below.drewN' _ _ _)
    by_cases hl : b.worn < bl.worn
    · have HL := Lib.hid HN.out
      rw [if_pos hl, if_pos hl] at HL
      go_wp2
      go_quiet (fail)
      have hBz : Below W.heap.size W ((wo.drewN _).drewN nq) := hBq.trans (Below.drewN' _ _ _)
      by_cases hh : bh.worn < b.worn
      · have HZ := Lib.hid HL.out
        rw [if_pos hh, if_pos hh] at HZ
        go_wp2
        go_roundw
        (case rel => exact ⟨k + 1, k, k, b, b, by omega, by go_num, rfl, rfl, hlt, hlt, HZ, hB.trans (Below.drewN' _ _ _)⟩)
        (case measure => simp [intOf]; omega)
      · have HZ := Lib.hid HL.out
        rw [if_neg hh, if_neg hh] at HZ
        go_wp2
        go_roundw
        (case rel => exact ⟨k + 1, k, hi, b, bh, by omega, by go_num, rfl, rfl, hlt, hhi, HZ, hB.trans (Below.drewN' _ _ _)⟩)
        (case measure => simp [intOf]; omega)
    · have HL := Lib.hid HN.out
      rw [if_neg hl, if_neg hl] at HL
      go_wp2
      go_quiet (fail)
      have hBz : Below W.heap.size W ((wo.drewN _).drewN nq) := hBq.trans (Below.drewN' _ _ _)
      by_cases hh : bh.worn < b.worn
      · have HZ := Lib.hid HL.out
        rw [if_pos hh, if_pos hh] at HZ
        go_wp2
        go_roundw
        (case rel => exact ⟨k + 1, lo, k, bl, b, by omega, by go_num, rfl, rfl, hlo, hlt, HZ, hB.trans (Below.drewN' _ _ _)⟩)
        (case measure => simp [intOf]; omega)
      · have HZ := Lib.hid HL.out
        rw [if_neg hh, if_neg hh] at HZ
        go_wp2
        go_roundw
        (case rel => exact ⟨k + 1, lo, hi, bl, bh, by omega, by go_num, rfl, rfl, hlo, hhi, HZ, hB.trans (Below.drewN' _ _ _)⟩)
        (case measure => simp [intOf]; omega)
  · obtain rfl : k = 4 := by omega
    have hkx : ¬ ((4 : Nat) : Int) < (f.length : Int) := by rw [h4.out]; omega
    have hky : ¬ (4 : Int) < (f.length : Int) := by rw [h4.out]; omega
    have HA := Lib.hid (HE.out.all HOK.out)
    go_wp2
    exact PieceQ.mk' rfl ⟨_, lo, hi, bl, bh, rfl, rfl, rfl, rfl, rfl, rfl, HE.out.1, HE.out.2.1, HA.out.1, HA.out.2⟩ (Below.bel h0 hB)
end Go.Proofs.Ytclnogfmmekooaa
