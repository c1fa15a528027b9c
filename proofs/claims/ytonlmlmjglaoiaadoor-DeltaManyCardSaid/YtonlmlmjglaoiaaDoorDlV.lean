/- Many rows of one cell each, of which one is different: plain laws. No condition. -/
import Derived.Test.YtonlmlmjglaoiaaDoorDlK
namespace Go.Proofs.YtonlmlmjglaoiaaDoor
set_option linter.unusedVariables false
set_option linter.unusedSimpArgs false

def rowA : Ln := ⟨[one45 97], false⟩
def rowB : Ln := ⟨[one45 98], false⟩
def manyA (n : Nat) : List Ln := List.replicate n rowA
def manyB (n j : Nat) : List Ln := (manyA n).set j rowB
theorem scrA : scrAt 1 rowA = true := by kernel_rfl
theorem scrAB : scrAt 1 rowB = true := by kernel_rfl
theorem manyA_mem {n : Nat} {x : Ln} (h : x ∈ manyA n) : x = rowA := List.eq_of_mem_replicate h
theorem manyB_mem {n j : Nat} {x : Ln} (h : x ∈ manyB n j) : x = rowA ∨ x = rowB := by
  rcases List.mem_or_eq_of_mem_set h with h | h
  · exact .inl (manyA_mem h)
  · exact .inr h
theorem cols_many {ls : List Ln} (h0 : ls ≠ []) (h : ∀ x ∈ ls, x = rowA ∨ x = rowB) : cols ls = 1 := by
  obtain ⟨x, r, rfl⟩ := List.exists_cons_of_ne_nil h0
  rcases h x (List.mem_cons_self ..) with e | e <;> (subst e; rfl)
theorem scrB_many {ls : List Ln} (h0 : ls ≠ []) (h : ∀ x ∈ ls, x = rowA ∨ x = rowB) : scrB ls = true := by
  unfold scrB
  rw [cols_many h0 h, List.all_eq_true]
  intro x hx
  rcases h x hx with e | e
  · subst e; exact scrA
  · subst e; exact scrAB
theorem manyA_ne {n : Nat} (h : 0 < n) : manyA n ≠ [] := by intro e; have := congrArg List.length e; simp [manyA] at this; omega
theorem manyB_ne {n j : Nat} (h : 0 < n) : manyB n j ≠ [] := by intro e; have := congrArg List.length e; simp [manyB, manyA] at this; omega
theorem many_len (n j : Nat) : (manyA n).length = n ∧ (manyB n j).length = n := by simp [manyA, manyB]
theorem chk_many {n j : Nat} (h0 : 0 < n) (hn : n ≤ 1000) : chk (manyA n) (manyB n j) = 0 := by
  have hA : ∀ x ∈ manyA n, x = rowA ∨ x = rowB := fun x h => .inl (manyA_mem h)
  have hB : ∀ x ∈ manyB n j, x = rowA ∨ x = rowB := fun x h => manyB_mem h
  unfold chk scrD
  rw [scrB_many (manyA_ne h0) hA, scrB_many (manyB_ne h0) hB, cols_many (manyA_ne h0) hA, cols_many (manyB_ne h0) hB, (many_len n j).1, (many_len n j).2]
  simp [hn]
theorem chk_much {n j : Nat} (hn : 1000 < n) : chk (manyA n) (manyB n j) = 2 ∧ scrD (manyA n) = false := by
  have h1 : scrD (manyA n) = false := by
    unfold scrD; rw [(many_len n j).1, decide_eq_false (by omega)]; simp
  refine ⟨?_, h1⟩
  unfold chk; rw [h1]; rfl
theorem rowP_same (i : Nat) (x : Ln) : rowP zc i x x = [] := by simp [rowP, parts_same]
theorem rowP_AB (j : Nat) : rowP zc j rowA rowB = [⟨j, 0, [one45 98], false⟩] := by kernel_rfl
theorem ofUp_many {n j : Nat} (hj : j < n) : ∀ k, k ≤ n → ofUp zc (manyA n) (manyB n j) k = if j < k then [⟨j, 0, [one45 98], false⟩] else []
  | 0, _ => by simp [ofUp]
  | k + 1, hk => by
    have ha : (manyA n)[k]? = some rowA := by unfold manyA; rw [List.getElem?_replicate, if_pos (by omega)]
    have hb : (manyB n j)[k]? = some (if j = k then rowB else rowA) := by
      unfold manyB
      by_cases h : j = k
      · subst h; rw [List.getElem?_set_self (by simp [manyA]; omega), if_pos rfl]
      · rw [List.getElem?_set_ne h, ha, if_neg h]
    rw [ofUp_next ha hb, ofUp_many hj k (by omega)]
    by_cases h : j = k
    · subst h; rw [if_pos rfl, rowP_AB, if_neg (by omega), if_pos (by omega)]; rfl
    · rw [if_neg h, rowP_same, List.append_nil]
      by_cases h2 : j < k
      · rw [if_pos h2, if_pos (by omega)]
      · rw [if_neg h2, if_neg (by omega)]
theorem ofR_many {n j : Nat} (hj : j < n) (hn : n ≤ 1000) : ofR (manyA n) (manyB n j) = [⟨j, 0, [one45 98], false⟩] := by
  unfold ofR ofP
  rw [if_pos (chk_many (by omega) hn), (many_len n j).1, ofUp_many hj n (Nat.le_refl _), if_pos hj]
theorem ofR_much {n j : Nat} (hn : 1000 < n) : ofR (manyA n) (manyB n j) = [] := by
  unfold ofR; rw [(chk_much hn).1]; rfl
theorem apR_much {n : Nat} (j : Nat) (hn : 1000 < n) (l : List Pt) : apR (manyA n) l = (2, []) := by
  unfold apR; rw [(chk_much (j := j) hn).2]; rfl
theorem apR_many {n j : Nat} (hj : j < n) (hn : n ≤ 1000) : apR (manyA n) [⟨j, 0, [one45 98], false⟩] = (0, manyB n j) := by
  have hs : scrD (manyA n) = true := by
    unfold scrD; rw [scrB_many (manyA_ne (by omega)) (fun x h => .inl (manyA_mem h)), (many_len n j).1]; simpa using hn
  unfold apR
  rw [if_pos hs, apP]
  have ha : (manyA n)[j]? = some rowA := by unfold manyA; rw [List.getElem?_replicate, if_pos (by omega)]
  have h1 := ap1_ok (x := manyA n) (p := ⟨j, 0, [one45 98], false⟩) (i := j) (q := 0) (t := rowA) rfl ha rfl (by show 0 + 1 ≤ 1; omega) ⟨by kernel_rfl, by kernel_rfl⟩
  rw [h1]
  simp only [if_true, apP]
  rfl
end Go.Proofs.YtonlmlmjglaoiaaDoor
