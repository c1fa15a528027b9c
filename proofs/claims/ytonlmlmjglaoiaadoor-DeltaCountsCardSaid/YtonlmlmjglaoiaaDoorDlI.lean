/- Numbers in strict order, and what slices.Compact makes of sorted ones: plain laws. No condition. -/
import Derived.Lib.SlicesCompact
import Derived.Test.YtonlmlmjglaoiaaDoorBase
namespace Go.Proofs.YtonlmlmjglaoiaaDoor
set_option linter.unusedVariables false
set_option linter.unusedSimpArgs false
open Go.Lib Go.Sort

def Asc (xs : List Int) : Prop := xs.Pairwise (· < ·)
theorem asc_eq : ∀ {xs ys : List Int}, Asc xs → Asc ys → (∀ x, x ∈ xs ↔ x ∈ ys) → xs = ys
  | [], [], _, _, _ => rfl
  | [], y :: ys, _, _, h => by have := (h y).2 (List.mem_cons_self ..); cases this
  | x :: xs, [], _, _, h => by have := (h x).1 (List.mem_cons_self ..); cases this
  | x :: xs, y :: ys, hx, hy, h => by
    obtain ⟨h1, h2⟩ := List.pairwise_cons.1 hx
    obtain ⟨h3, h4⟩ := List.pairwise_cons.1 hy
    have e : x = y := by
      rcases List.mem_cons.1 ((h x).1 (List.mem_cons_self ..)) with e | e
      · exact e
      · rcases List.mem_cons.1 ((h y).2 (List.mem_cons_self ..)) with e2 | e2
        · exact e2.symm
        · have := h1 y e2; have := h3 x e; omega
    subst e
    congr 1
    refine asc_eq h2 h4 fun z => ⟨fun hz => ?_, fun hz => ?_⟩
    · rcases List.mem_cons.1 ((h z).1 (List.mem_cons_of_mem _ hz)) with e | e
      · have := h1 z hz; omega
      · exact e
    · rcases List.mem_cons.1 ((h z).2 (List.mem_cons_of_mem _ hz)) with e | e
      · have := h3 z hz; omega
      · exact e
theorem asc_ins {xs : List Int} {r : Int} {k : Nat} (h : Asc xs) (hk : k ≤ xs.length) (hlt : ∀ (j : Nat) x, j < k → xs[j]? = some x → x < r) (hgt : ∀ x, xs[k]? = some x → r < x) : Asc (xs.take k ++ r :: xs.drop k) := by
  unfold Asc at *
  rw [List.pairwise_append]
  have h0 := h
  rw [← List.take_append_drop k xs, List.pairwise_append] at h
  obtain ⟨h1, h2, h3⟩ := h
  have ht : ∀ x ∈ xs.take k, x < r := fun x hx => by
    obtain ⟨j, hj⟩ := List.mem_iff_getElem?.1 hx
    rw [List.getElem?_take] at hj
    split at hj
    · rename_i hjk; exact hlt j x hjk hj
    · cases hj
  have hd : ∀ x ∈ xs.drop k, r < x := fun x hx => by
    obtain ⟨j, hj⟩ := List.mem_iff_getElem?.1 hx
    have hl := (List.getElem?_eq_some_iff.1 hj).1
    rw [List.length_drop] at hl
    have hx0 : (xs.drop k)[0]? = some xs[k] := by rw [List.getElem?_drop, Nat.add_zero]; exact List.getElem?_eq_getElem (by omega)
    have hr := hgt _ (List.getElem?_eq_getElem (show k < xs.length by omega))
    rcases Nat.eq_zero_or_pos j with e | e
    · subst e; rw [hx0] at hj; cases hj; exact hr
    · have := List.pairwise_iff_getElem.1 h2 0 j (by rw [List.length_drop]; omega) (by rw [List.length_drop]; omega) e
      have e1 : (xs.drop k)[0]'(by rw [List.length_drop]; omega) = xs[k] := by have := (List.getElem?_eq_some_iff.1 hx0).2; exact this
      have e2 : (xs.drop k)[j]'(by rw [List.length_drop]; omega) = x := (List.getElem?_eq_some_iff.1 hj).2
      omega
  refine ⟨h1, List.pairwise_cons.2 ⟨hd, h2⟩, fun a ha b hb => ?_⟩
  rcases List.mem_cons.1 hb with e | e
  · subst e; exact ht a ha
  · have := ht a ha; have := hd b e; omega
theorem mem_ins {xs : List Int} {r : Int} {k : Nat} (x : Int) : x ∈ xs.take k ++ r :: xs.drop k ↔ x = r ∨ x ∈ xs := by
  have : x ∈ xs ↔ x ∈ xs.take k ∨ x ∈ xs.drop k := by rw [← List.mem_append, List.take_append_drop]
  rw [List.mem_append, List.mem_cons, this]
  constructor
  · rintro (h | h | h)
    · exact .inr (.inl h)
    · exact .inl h
    · exact .inr (.inr h)
  · rintro (h | h | h)
    · exact .inr (.inl h)
    · exact .inl h
    · exact .inr (.inr h)
theorem compactUpTo_asc {d : Array Int} (h : ∀ i, i + 1 < d.size → d[i]! ≤ d[i + 1]!) : ∀ m, m ≤ d.size → Asc (compactUpTo d m) ∧ (∀ x, x ∈ compactUpTo d m ↔ ∃ j, j < m ∧ d[j]! = x) ∧ (∀ x, x ∈ compactUpTo d m → 0 < m → x ≤ d[m - 1]!)
  | 0, _ => ⟨by simp [compactUpTo, Asc], fun x => by simp [compactUpTo], fun x _ h => by omega⟩
  | m + 1, hm => by
    obtain ⟨h1, h2, h3⟩ := compactUpTo_asc h m (by omega)
    rw [compactUpTo_succ]
    have hle : 0 < m → d[m - 1]! ≤ d[m]! := fun h0 => by
      have := h (m - 1) (by omega)
      rwa [Nat.sub_add_cancel h0] at this
    cases hk : keeps d m with
    | true =>
      rw [if_pos rfl]
      have hne : m = 0 ∨ d[m]! ≠ d[m - 1]! := by unfold keeps at hk; exact of_decide_eq_true hk
      have hlt : ∀ y ∈ compactUpTo d m, y < d[m]! := fun y hy => by
        obtain ⟨j, hj, _⟩ := (h2 y).1 hy
        have a1 := h3 y hy (by omega)
        have a2 := hle (by omega)
        rcases hne with e | e
        · omega
        · omega
      refine ⟨?_, fun x => ?_, fun x hx _ => ?_⟩
      · unfold Asc
        rw [List.pairwise_append]
        exact ⟨h1, List.pairwise_singleton _ _, fun a ha b hb => by simp at hb; subst hb; exact hlt a ha⟩
      · rw [List.mem_append, h2]
        simp only [List.mem_cons, List.not_mem_nil, or_false]
        constructor
        · rintro (⟨j, hj, e⟩ | e)
          · exact ⟨j, by omega, e⟩
          · exact ⟨m, by omega, e.symm⟩
        · rintro ⟨j, hj, e⟩
          by_cases hjm : j = m
          · subst hjm; exact .inr e.symm
          · exact .inl ⟨j, by omega, e⟩
      · rw [Nat.add_sub_cancel]
        rcases List.mem_append.1 hx with hx | hx
        · exact Int.le_of_lt (hlt x hx)
        · simp at hx; omega
    | false =>
      rw [if_neg (by simp), List.append_nil]
      have he : m ≠ 0 ∧ d[m]! = d[m - 1]! := by
        unfold keeps at hk
        have := of_decide_eq_false hk
        refine ⟨fun e => this (.inl e), ?_⟩
        by_cases e : d[m]! = d[m - 1]!
        · exact e
        · exact absurd (.inr e) this
      refine ⟨h1, fun x => ?_, fun x hx _ => ?_⟩
      · rw [h2]
        constructor
        · rintro ⟨j, hj, e⟩; exact ⟨j, by omega, e⟩
        · rintro ⟨j, hj, e⟩
          by_cases hjm : j = m
          · subst hjm; exact ⟨j - 1, by omega, by rw [← he.2]; exact e⟩
          · exact ⟨j, by omega, e⟩
      · rw [Nat.add_sub_cancel, he.2]; exact h3 x hx (by omega)
theorem compact_sorted (rs : List Int) : Asc (compact (rs.mergeSort fun x y => decide (x ≤ y))) ∧ ∀ x, x ∈ compact (rs.mergeSort fun x y => decide (x ≤ y)) ↔ x ∈ rs := by
  obtain ⟨ss, hss⟩ : ∃ ss, ss = rs.mergeSort (fun x y => decide (x ≤ y)) := ⟨_, rfl⟩
  have hp : ss.Pairwise (fun x y => decide (x ≤ y) = true) := by
    rw [hss]
    exact List.pairwise_mergeSort (fun a b c h1 h2 => by simp at *; omega) (fun a b => by simp; omega) rs
  have hs : ∀ i, i + 1 < ss.toArray.size → ss.toArray[i]! ≤ ss.toArray[i + 1]! := fun i hi => by
    have hi : i + 1 < ss.length := by simpa using hi
    have := List.pairwise_iff_getElem.1 hp i (i + 1) (by omega) hi (by omega)
    have e1 : ss.toArray[i]! = ss[i]'(by omega) := by rw [getElem!_pos ss.toArray i (by simpa using (by omega : i < ss.length))]; simp
    have e2 : ss.toArray[i + 1]! = ss[i + 1] := by rw [getElem!_pos ss.toArray (i + 1) (by simpa using hi)]; simp
    rw [e1, e2]; simpa using this
  obtain ⟨h1, h2, _⟩ := compactUpTo_asc hs ss.length (by simp)
  rw [← hss]
  refine ⟨h1, fun x => (h2 x).trans ?_⟩
  have hm : x ∈ rs ↔ x ∈ ss := by rw [hss]; exact (List.mem_mergeSort ..).symm
  rw [hm]
  constructor
  · rintro ⟨j, hj, e⟩
    have e1 : ss.toArray[j]! = ss[j] := by rw [getElem!_pos ss.toArray j (by simpa using hj)]; simp
    rw [e1] at e; rw [← e]; exact List.getElem_mem hj
  · intro hx
    obtain ⟨j, hj⟩ := List.mem_iff_getElem?.1 hx
    have hl := (List.getElem?_eq_some_iff.1 hj).1
    have e1 : ss.toArray[j]! = ss[j] := by rw [getElem!_pos ss.toArray j (by simpa using hl)]; simp
    exact ⟨j, hl, by rw [e1]; exact (List.getElem?_eq_some_iff.1 hj).2⟩
end Go.Proofs.YtonlmlmjglaoiaaDoor
