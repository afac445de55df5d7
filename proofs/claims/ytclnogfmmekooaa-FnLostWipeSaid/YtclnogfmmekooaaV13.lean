/- A lone piece of code in a law's own frame, beside leavers: what the kit's walk shows of it holds there. -/
import Derived.Test.YtclnogfmmekooaaZ9
namespace Go.Proofs.Ytclnogfmmekooaa
set_option linter.unusedVariables false
set_option linter.unusedSimpArgs false
open Go.Conc Go.ConcN Go.ConcR.Gen Go.RowKit
section
variable {SB A : Nat → Prop} {w0 w : World} {Post : Value → World → Prop}
/-- What is asked of a lone piece's end. -/
def PieceQ (Q : Act → World → Prop) (w : World) (e : Exit) (a : Act) (w' : World) : Prop := e = .normal ∧ a.defers = [] ∧ Q a w' ∧ Bel w w'
theorem PieceQ.mk' {Q : Act → World → Prop} {a0 w' : World} {a : Act} (hd : a.defers = []) (h : Q a w') (hb : Bel a0 w') : PieceQ Q a0 .normal a w' := ⟨rfl, hd, h, hb⟩
/-- A lone piece of code. -/
theorem Co.wp {Gd : Option (Nat × Nat × Nat)} {bf : Frame} {a : Act} {c : Go.Code} {k : List Item} {cs : List Frame} (Q : Act → World → Prop) (co : Co (good Gd) SB A w0 w) (hbk : bf.kind = .normal) (hc : codeOk Try.prog (good Gd) c = true) (hk : ∀ id, exitTo id k = none)
 (ht : ∀ v ∈ a.tmps, VIn (good Gd) A v) (hd : a.defers = []) (hQ : ∀ a w T d, Q a (Go.Proofs.Ytclnogfmmekooaa.tp w T d) → Q a w)
 (h : ∀ T d, c.wp Try.prog (PieceQ Q (cutW (good Gd) w)) a (Go.Proofs.Ytclnogfmmekooaa.tp (cutW (good Gd) w) T d))
 (next : ∀ A' a' w', (∀ b, A b → A' b) → Co (good Gd) SB A' w0 w' → Bel w w' → (∀ v ∈ a'.tmps, VIn (good Gd) A' v) → Q a' (cutW (good Gd) w') → Fine Try.prog Post SB (G (bf.at a' k) cs) w') : Fine Try.prog Post SB (G (bf.at a (.code c :: k)) cs) w := by
 refine Fine.wp (P := Try.prog) (G := good Gd) (A := A) (wR := w) (Q := fun e a w' => e = .normal ∧ Q a w' ∧ Bel (cutW (good Gd) w) w') (cleanP Gd) hbk hc hk ht hd co.hin co.away (fun e a w T d h => ⟨h.1, hQ _ _ _ _ h.2.1, ⟨h.2.2.os, h.2.2.output, h.2.2.size, h.2.2.block⟩⟩) (fun T d => ?_) ?_ ?_
 · refine Go.Code.wp_mono (fun e a' w' h => ?_) (h T d)
   obtain ⟨h1, h2, h3, h4⟩ := h
   exact ⟨.inl h1, h1, h3, h4⟩
 · intro A' a' w' ht hk' hh hv hq hdef
   have hb := Bel.uncut hq.2.2 ht
   exact next A' a' w' hk'.grow ⟨hh, co.away.kept hk', co.bel.trans hb⟩ hb hv hq.2.1
 · intro A' a' w' todo _ _ _ _ hq
   cases hq.1
end
section
variable {SB A : Nat → Prop} {w0 w : World} {Post : Value → World → Prop}
/-- .. of a piece that may return. -/
def PieceQR (Q QR : Act → World → Prop) (w : World) (e : Exit) (a : Act) (w' : World) : Prop := ((e = .normal ∧ Q a w') ∨ (e = .ret ∧ QR a w')) ∧ a.defers = [] ∧ Bel w w'
theorem PieceQR.mkN {Q QR : Act → World → Prop} {a0 w' : World} {a : Act} (hd : a.defers = []) (h : Q a w') (hb : Bel a0 w') : PieceQR Q QR a0 .normal a w' := ⟨.inl ⟨rfl, h⟩, hd, hb⟩
theorem PieceQR.mkR {Q QR : Act → World → Prop} {a0 w' : World} {a : Act} (hd : a.defers = []) (h : QR a w') (hb : Bel a0 w') : PieceQR Q QR a0 .ret a w' := ⟨.inr ⟨rfl, h⟩, hd, hb⟩
theorem Co.wpR {Gd : Option (Nat × Nat × Nat)} {bf : Frame} {a : Act} {c : Go.Code} {k : List Item} {cs : List Frame} (Q QR : Act → World → Prop) (co : Co (good Gd) SB A w0 w) (hbk : bf.kind = .normal) (hc : codeOk Try.prog (good Gd) c = true) (hk : ∀ id, exitTo id k = none)
 (ht : ∀ v ∈ a.tmps, VIn (good Gd) A v) (hd : a.defers = []) (hQ : ∀ a w T d, Q a (Go.Proofs.Ytclnogfmmekooaa.tp w T d) → Q a w) (hQR : ∀ a w T d, QR a (Go.Proofs.Ytclnogfmmekooaa.tp w T d) → QR a w)
 (h : ∀ T d, c.wp Try.prog (PieceQR Q QR (cutW (good Gd) w)) a (Go.Proofs.Ytclnogfmmekooaa.tp (cutW (good Gd) w) T d))
 (next : ∀ A' a' w', (∀ b, A b → A' b) → Co (good Gd) SB A' w0 w' → Bel w w' → (∀ v ∈ a'.tmps, VIn (good Gd) A' v) → Q a' (cutW (good Gd) w') → Fine Try.prog Post SB (G (bf.at a' k) cs) w')
 (nextR : ∀ A' a' w' todo, (∀ b, A b → A' b) → Co (good Gd) SB A' w0 w' → Bel w w' → (∀ v ∈ a'.tmps, VIn (good Gd) A' v) → QR a' (cutW (good Gd) w') → Fine Try.prog Post SB (G { bf.at a' todo with mode := .returning } cs) w') : Fine Try.prog Post SB (G (bf.at a (.code c :: k)) cs) w := by
 refine Fine.wp (P := Try.prog) (G := good Gd) (A := A) (wR := w) (Q := fun e a w' => ((e = .normal ∧ Q a w') ∨ (e = .ret ∧ QR a w')) ∧ Bel (cutW (good Gd) w) w') (cleanP Gd) hbk hc hk ht hd co.hin co.away (fun e a w T d h => ⟨h.1.imp (fun x => ⟨x.1, hQ _ _ _ _ x.2⟩) (fun x => ⟨x.1, hQR _ _ _ _ x.2⟩), ⟨h.2.os, h.2.output, h.2.size, h.2.block⟩⟩) (fun T d => ?_) ?_ ?_
 · refine Go.Code.wp_mono (fun e a' w' h => ?_) (h T d)
   obtain ⟨h1, h3, h4⟩ := h
   exact ⟨h1.imp (·.1) (fun x => ⟨x.1, h3⟩), h1, h4⟩
 · intro A' a' w' ht hk' hh hv hq hdef
   have hb := Bel.uncut hq.2 ht
   rcases hq.1 with ⟨_, h⟩ | ⟨h, _⟩
   · exact next A' a' w' hk'.grow ⟨hh, co.away.kept hk', co.bel.trans hb⟩ hb hv h
   · cases h
 · intro A' a' w' todo ht hk' hh hv hq hdef
   have hb := Bel.uncut hq.2 ht
   rcases hq.1 with ⟨h, _⟩ | ⟨_, h⟩
   · cases h
   · exact nextR A' a' w' todo hk'.grow ⟨hh, co.away.kept hk', co.bel.trans hb⟩ hb hv h
end
theorem Fl.worn {W : World} {g off : Nat} {f : List Bk} (h : Fl W (some ⟨g, off, none⟩) f) {k : Nat} {b : Bk} (hb : f[k]? = some b) : W.cell? ⟨g, off + k * 2 + 1, none⟩ = some (.int .i64 b.worn) := by
 obtain ⟨hs, hf⟩ := h
 obtain ⟨x, _, _, c1, _⟩ := hf.at_ hb
 exact c1
theorem Below.bel {a W w : World} (h0 : Bel a W) (h : Below W.heap.size W w) : Bel a w := h0.trans ⟨h.os, h.output, h.size, h.block⟩
/-- All of a list lie within. -/
def AllV (Gc : Cfg) (A : Nat → Prop) (l : List Value) : Prop := ∀ v ∈ l, VIn Gc A v
theorem AllV.nil {Gc : Cfg} {A : Nat → Prop} : AllV Gc A [] := fun v hv => (by cases hv)
theorem AllV.cons {Gc : Cfg} {A : Nat → Prop} {v : Value} {l : List Value} (h : VIn Gc A v) (t : AllV Gc A l) : AllV Gc A (v :: l) := fun x hx => by
 rcases List.mem_cons.1 hx with rfl | hx
 · exact h
 · exact t x hx
theorem AllV.arr {Gc : Cfg} {A : Nat → Prop} {l : List Value} (h : AllV Gc A l) : ∀ v ∈ l.toArray, VIn Gc A v := fun v hv => h v (List.mem_toArray.1 hv)
theorem VIn.undef {Gc : Cfg} {A : Nat → Prop} : VIn Gc A Go.undef := .tuple (by simp)
theorem VIn.pr {Gc : Cfg} {A : Nat → Prop} {x y : Value} (h : VIn Gc A x) (k : VIn Gc A y) : VIn Gc A (.tuple #[x, y]) := .tuple fun v hv => by
 simp only [List.mem_toArray, List.mem_cons, List.not_mem_nil, or_false] at hv
 rcases hv with rfl | rfl
 · exact h
 · exact k
end Go.Proofs.Ytclnogfmmekooaa
