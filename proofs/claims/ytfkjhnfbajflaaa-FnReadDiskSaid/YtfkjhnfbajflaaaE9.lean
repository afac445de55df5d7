/- Plain laws: a new store, a wiped store. -/
import Derived.Test.YtfkjhnfbajflaaaH17
namespace Go.Proofs.Ytfkjhnfbajflaaa
set_option linter.unusedVariables false
set_option linter.unusedSimpArgs false
theorem lastPs_none {a : Int} : ∀ {ps : List Pg} {o : Rc}, (∀ p ∈ ps, p.state ≠ 1) → lastPs a o ps = o
  | [], _, _ => rfl
  | p :: ps, o, h => by
    show lastPs a (lastStep a o p) ps = o
    have : lastStep a o p = o := by unfold lastStep; rw [if_neg (fun e => h p (List.mem_cons_self ..) e.1)]
    rw [this]
    exact lastPs_none fun q hq => h q (List.mem_cons_of_mem _ hq)
theorem last_none : ∀ {f : List Bk} {a : Int} {o : Rc}, (∀ b ∈ f, ∀ p ∈ b.pages, p.state ≠ 1) → f.foldl (fun o b => lastPs a o b.pages) o = o
  | [], _, _, _ => rfl
  | b :: f, a, o, h => by
    rw [List.foldl_cons, lastPs_none (h b (List.mem_cons_self ..))]
    exact last_none fun c hc => h c (List.mem_cons_of_mem _ hc)
theorem new_pages : ∀ b ∈ flashNew, ∀ p ∈ b.pages, p.state ≠ 1 := by decide
theorem last_new (a : Int) : last flashNew a = rc0 := last_none new_pages
theorem order_new : findOrderI flashNew = true := by decide
theorem diskGo_vals {f : List Bk} : ∀ {xs : List Int} {i : Nat}, diskGo f i xs = true → ∀ v ∈ xs, valB v = true
  | [], _, _, v, hv => by cases hv
  | x :: xs, i, h, v, hv => by
    unfold diskGo at h
    split at h
    · rename_i hx
      split at h
      · cases h
      · rcases List.mem_cons.1 hv with rfl | hv
        · exact hx
        · exact diskGo_vals h v hv
    · cases h
theorem diskGo_new : ∀ {xs : List Int} {i : Nat}, (∀ v ∈ xs, valB v = true) → diskGo flashNew i xs = true
  | [], _, _ => rfl
  | x :: xs, i, h => by
    unfold diskGo
    rw [if_pos (h x (List.mem_cons_self ..)), if_neg]
    · exact diskGo_new fun v hv => h v (List.mem_cons_of_mem _ hv)
    · unfold diskBad
      rw [last_new]
      rintro ⟨h0, _⟩
      exact absurd h0 (by decide)
theorem wiped_store {xs : List Int} (h6 : xs.length = 6) (hv : ∀ v ∈ xs, valB v = true) : storeOk ⟨flashNew, xs⟩ = true := by
  unfold storeOk
  rw [if_pos h6, if_pos order_new]
  exact diskGo_new hv
theorem allV_new {xs : List Int} (h6 : xs.length = 6) : allV ⟨flashNew, xs⟩ = xs := by
  refine List.ext_getElem? fun i => ?_
  by_cases hi : i < 6
  · obtain ⟨v, hv⟩ := get_some (l := xs) (k := i) (by omega)
    rw [allV_get _ hi, hv]
    unfold readV
    rw [last_new, if_neg (by decide), show ((i : Int) + 1 - 1).toNat = i by omega, List.getD_eq_getElem?_getD]
    dsimp only
    rw [hv]; rfl
  · rw [List.getElem?_eq_none (by rw [allV_len]; omega), List.getElem?_eq_none (by omega)]
theorem dirty_new (a : Int) : dirty flashNew a = false := by unfold dirty; rw [last_new]; rfl
theorem dirtyTo_new : ∀ k, dirtyTo flashNew k = []
  | 0 => rfl
  | k + 1 => by
    unfold dirtyTo
    rw [if_neg (by rw [dirty_new]; simp)]
    exact dirtyTo_new k
theorem dirtyL_new {xs : List Int} : dirtyL ⟨flashNew, xs⟩ = [] := by
  unfold dirtyL
  split
  · exact dirtyTo_new 6
  · rfl
theorem disk0_vals : ∀ v ∈ disk0, valB v = true := by decide
theorem new_ok : storeOk ⟨flashNew, disk0⟩ = true := wiped_store rfl disk0_vals
theorem storeRead_ok {s : St} (h : storeOk s = true) {k : Nat} (hk : k < 6) : storeRead s ((k : Int) + 1) = readV s ((k : Int) + 1) := by
  unfold storeRead
  rw [if_pos h, if_pos (by unfold addrB; simp; omega)]
end Go.Proofs.Ytfkjhnfbajflaaa
