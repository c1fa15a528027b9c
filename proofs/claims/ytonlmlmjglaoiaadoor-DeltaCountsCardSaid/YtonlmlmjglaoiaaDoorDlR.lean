/- Rows that are valid, and their parts; the sizes of deltas. Plain laws. No condition. -/
import Derived.Test.YtonlmlmjglaoiaaDoorDlE
import Derived.Test.YtonlmlmjglaoiaaDoorDlF
namespace Go.Proofs.YtonlmlmjglaoiaaDoor
set_option linter.unusedVariables false
set_option linter.unusedSimpArgs false

theorem rowOk_at {xs : List Cell} (h : rowOk xs = true) {k : Nat} (hk : k < xs.length) : rowBad xs k = false := by
  unfold rowOk at h
  have := List.all_eq_true.1 h k (List.mem_range.2 hk)
  simpa using this
theorem rowOk_zero {xs : List Cell} (h : rowOk xs = true) : isz zc xs 0 = false := by
  unfold isz
  cases hx : xs[0]? with
  | none => rfl
  | some c =>
    have := rowOk_at h (List.getElem?_eq_some_iff.1 hx).1
    rw [bad_at0 rfl hx] at this
    simp [cellBad] at this
    simpa [zc] using this.1.2
theorem rowOk_next {xs : List Cell} (h : rowOk xs = true) {m : Nat} {p c : Cell} (hp : xs[m]? = some p) (hc : xs[m + 1]? = some c) : (c.width == 0) = (p.width == 2) ∧ (p.width == 2 → penEq c p = true) ∧ c.valid = true ∧ (m + 1 + 1 = xs.length → c.width ≠ 2) := by
  have := rowOk_at h (List.getElem?_eq_some_iff.1 hc).1
  rw [bad_atS rfl hc hp] at this
  unfold cellBad at this
  simp only [Bool.or_eq_false_iff, Bool.and_eq_false_iff, bne_eq_false_iff_eq, Bool.not_eq_false'] at this
  obtain ⟨⟨⟨h1, h2⟩, h3⟩, h4⟩ := this
  refine ⟨h2, fun h5 => ?_, h1, fun h5 h6 => ?_⟩
  · rcases h3 with h3 | h3
    · rw [h5] at h3; cases h3
    · simpa using h3
  · rcases h4 with h4 | h4
    · rw [h6] at h4; cases h4
    · rw [h5] at h4; simp at h4
theorem rowOk_part {xs : List Cell} (h : rowOk xs = true) {f k : Nat} (hfk : f < k) (hk : k ≤ xs.length) (hf : isz zc xs f = false) (hk0 : k < xs.length → isz zc xs k = false) : rowOk ((xs.drop f).take (k - f)) = true := by
  have hl : ((xs.drop f).take (k - f)).length = k - f := by simp; omega
  have hg : ∀ j, j < k - f → ((xs.drop f).take (k - f))[j]? = xs[f + j]? := fun j hj => by rw [List.getElem?_take, if_pos hj, List.getElem?_drop]
  -- a wide cell is not the last one of the part
  have hlast : ∀ j c, j < k - f → xs[f + j]? = some c → j + 1 = k - f → c.width ≠ 2 := by
    intro j c hj hc hj1 hw
    by_cases hkx : k < xs.length
    · have hn : xs[f + j + 1]? = some (xs[f + j + 1]'(by omega)) := List.getElem?_eq_getElem (by omega)
      have := (rowOk_next h hc hn).1
      have h0 := hk0 hkx
      unfold isz at h0
      rw [show k = f + j + 1 by omega, hn] at h0
      simp only [zc] at h0
      rw [h0, hw] at this; cases this
    · rcases Nat.eq_zero_or_pos (f + j) with h0 | h0
      · have e : f + j = 0 := h0
        rw [e] at hc
        have := rowOk_at h (k := 0) (by omega)
        rw [bad_at0 rfl hc] at this
        have h1 : (0 + 1 == xs.length) = true := by simp; omega
        rw [h1] at this
        simp [cellBad, hw] at this
      · obtain ⟨m, hm⟩ : ∃ m, f + j = m + 1 := ⟨f + j - 1, by omega⟩
        rw [hm] at hc
        have hp : xs[m]? = some (xs[m]'(by omega)) := List.getElem?_eq_getElem (by omega)
        exact (rowOk_next h hp hc).2.2.2 (by omega) hw
  refine rowOk_all fun j hj => ?_
  rw [hl] at hj
  obtain ⟨c, hxj⟩ : ∃ c, xs[f + j]? = some c := ⟨_, List.getElem?_eq_getElem (by omega)⟩
  have hval : c.valid = true := by
    rcases Nat.eq_zero_or_pos (f + j) with h0 | h0
    · have := rowOk_at h (k := f + j) (by omega)
      have hx2 := hxj
      rw [h0] at hx2
      rw [show f + j = 0 from h0, bad_at0 rfl hx2] at this
      unfold cellBad at this
      simp only [Bool.or_eq_false_iff] at this
      simpa using this.1.1.1
    · obtain ⟨m, hm⟩ : ∃ m, f + j = m + 1 := ⟨f + j - 1, by omega⟩
      have hx2 := hxj
      rw [hm] at hx2
      have hp : xs[m]? = some (xs[m]'(by omega)) := List.getElem?_eq_getElem (by omega)
      exact (rowOk_next h hp hx2).2.2.1
  rcases Nat.eq_zero_or_pos j with rfl | hj0
  · rw [bad_at0 rfl ((hg 0 hj).trans hxj)]
    unfold isz at hf
    rw [show f = f + 0 from rfl, hxj] at hf
    simp only [zc] at hf
    unfold cellBad
    rw [hval, hf]
    simp only [Bool.not_true, Bool.false_or, Bool.or_false, Bool.and_eq_false_iff, Bool.false_and, bne_self_eq_false]
    by_cases hone : 0 + 1 = k - f
    · left; have := hlast 0 _ hj hxj hone; simpa using this
    · right; rw [hl]; simpa using hone
  · obtain ⟨m, rfl⟩ : ∃ m, j = m + 1 := ⟨j - 1, by omega⟩
    obtain ⟨p, hp⟩ : ∃ p, xs[f + m]? = some p := ⟨_, List.getElem?_eq_getElem (by omega)⟩
    obtain ⟨g1, g2, g3, _⟩ := rowOk_next h hp hxj
    rw [bad_atS rfl ((hg _ hj).trans hxj) ((hg m (by omega)).trans hp)]
    unfold cellBad
    rw [hval, g1, hl]
    simp only [Bool.not_true, Bool.false_or, bne_self_eq_false, Bool.or_eq_false_iff, Bool.and_eq_false_iff]
    refine ⟨?_, ?_⟩
    · by_cases hw : (p.width == 2) = true
      · right; rw [g2 hw]; rfl
      · left; simpa using hw
    · by_cases hone : m + 1 + 1 = k - f
      · left; have := hlast (m + 1) _ hj hxj hone; simpa using this
      · right; simpa using hone
theorem good_row {a b : List Cell} (hl : a.length = b.length) (ha : rowOk a = true) (hb : rowOk b = true) : GoodRow zc rowOk a b :=
  ⟨hl, by unfold Tz; rw [rowOk_zero ha, rowOk_zero hb]; rfl, fun f k h1 h2 h3 h4 => rowOk_part hb h1 h2 h3 h4⟩
theorem lnOk_row {cs : List Cell} (h : lnOk cs = true) : rowOk cs = true ∧ cs.length ≤ 1000 := by
  unfold lnOk at h
  simp at h
  exact ⟨h.2, h.1⟩
/-- Screens with as many rows and columns. -/
theorem chk_ok {a b : List Ln} (h : chk a b = 0) : scrB a = true ∧ scrB b = true ∧ a.length ≤ 1000 ∧ a.length = b.length ∧ cols a = cols b := by
  unfold chk at h
  split at h
  · rename_i h1
    split at h
    · rename_i h2
      unfold scrD at h1
      simp at h1 h2
      exact ⟨h1.1.1, h1.2.1, h1.1.2, h2.1, h2.2⟩
    · cases h
  · cases h
theorem chk_rows {a b : List Ln} (h : chk a b = 0) {i : Nat} {x y : Ln} (hx : a[i]? = some x) (hy : b[i]? = some y) : GoodRow zc rowOk x.cells y.cells ∧ x.cells.length ≤ 1000 := by
  obtain ⟨h1, h2, h3, h4, h5⟩ := chk_ok h
  obtain ⟨a1, a2, a3⟩ := scrB_len h1 (List.mem_iff_getElem?.2 ⟨_, hx⟩)
  obtain ⟨b1, b2, b3⟩ := scrB_len h2 (List.mem_iff_getElem?.2 ⟨_, hy⟩)
  exact ⟨good_row (by omega) (lnOk_row a2).1 (lnOk_row b2).1, (lnOk_row a2).2⟩
theorem extLast_length : ∀ (l : List Pt) (c : Cell), (extLast l c).length = l.length
  | [], _ => rfl
  | [_], _ => rfl
  | p :: q :: r, c => by rw [extLast, List.length_cons, extLast_length (q :: r) c]; rfl
theorem parts_length (row : Int) (is : List Bool) (b : List Cell) (s : Bool) : ∀ k, (parts row is b s k).length ≤ k
  | 0 => Nat.le_refl _
  | k + 1 => by
    have := parts_length row is b s k
    rw [parts]
    split
    · split
      · rw [extLast_length]; omega
      · simp; omega
    · omega
theorem rowP_length (i : Nat) (a b : Ln) : (rowP zc i a b).length ≤ a.cells.length + 1 := by
  unfold rowP
  split
  · simp
  · have := parts_length i (chgR zc a.cells b.cells) b.cells b.soft a.cells.length; omega
theorem ofUp_length (M : Nat) {a b : List Ln} (h : ∀ x ∈ a, x.cells.length + 1 ≤ M) : ∀ k, (ofUp zc a b k).length ≤ k * M
  | 0 => by simp [ofUp]
  | k + 1 => by
    have := ofUp_length M (b := b) h k
    have e : (k + 1) * M = k * M + M := Nat.succ_mul _ _
    rw [ofUp]
    split
    · rename_i x y hx hy
      have h1 := rowP_length k x y
      have h2 := h x (List.mem_iff_getElem?.2 ⟨_, hx⟩)
      rw [List.length_append]; omega
    · omega
theorem ofUp_next {a b : List Ln} {k : Nat} {x y : Ln} (hx : a[k]? = some x) (hy : b[k]? = some y) : ofUp zc a b (k + 1) = ofUp zc a b k ++ rowP zc k x y := by rw [ofUp, hx, hy]
theorem parts_cells : ∀ (row : Int) (is : List Bool) (b : List Cell) (s : Bool) (k : Nat), ∀ p ∈ parts row is b s k, p.cells.length ≤ k
  | row, is, b, s, 0 => by intro p h; cases h
  | row, is, b, s, k + 1 => by
    intro p h
    rw [parts] at h
    split at h
    · split at h
      · rcases List.eq_nil_or_concat (parts row is b s k) with e | ⟨l, q, e⟩
        · rw [e] at h; cases h
        · rw [List.concat_eq_append] at e
          rw [e, extLast_snoc] at h
          have hq := parts_cells row is b s k
          rw [e] at hq
          rcases List.mem_append.1 h with h | h
          · have := hq p (by simp [h]); omega
          · simp at h; subst h; have := hq q (by simp); simp; omega
      · rcases List.mem_append.1 h with h | h
        · have := parts_cells row is b s k p h; omega
        · simp at h; subst h; simp
    · have := parts_cells row is b s k p h; omega
theorem rowP_cells (i : Nat) (a b : Ln) : ∀ p ∈ rowP zc i a b, p.cells.length ≤ a.cells.length := by
  intro p h
  unfold rowP at h
  split at h
  · simp at h; subst h; simp
  · exact parts_cells _ _ _ _ _ p h
theorem ofUp_cells {a b : List Ln} (h : ∀ x ∈ a, x.cells.length ≤ 1000) : ∀ k, ∀ p ∈ ofUp zc a b k, p.cells.length ≤ 1000
  | 0 => by intro p h; cases h
  | k + 1 => by
    intro p hp
    rw [ofUp] at hp
    split at hp
    · rename_i x y hx hy
      rcases List.mem_append.1 hp with hp | hp
      · exact ofUp_cells (b := b) h k p hp
      · exact Nat.le_trans (rowP_cells k x y p hp) (h x (List.mem_iff_getElem?.2 ⟨_, hx⟩))
    · exact ofUp_cells (b := b) h k p hp
end Go.Proofs.YtonlmlmjglaoiaaDoor
