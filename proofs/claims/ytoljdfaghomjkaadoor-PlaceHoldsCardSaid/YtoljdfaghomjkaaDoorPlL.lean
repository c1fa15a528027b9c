/- Laws of layer 9 in plain numbers. No condition. -/
import Derived.Test.YtoljdfaghomjkaaDoorPlN
namespace Go.Proofs.YtoljdfaghomjkaaDoor
set_option linter.unusedVariables false
set_option linter.unusedSimpArgs false
open Go.RowKit

theorem c_lt (l c m d : Int) : cmpP l c m d < 0 ↔ (l < m ∨ l = m ∧ c < d) := by
  unfold cmpP cmpI
  split <;> (try split) <;> (try split) <;> (try split) <;> simp_all <;> omega
theorem c_gt (l c m d : Int) : cmpP l c m d > 0 ↔ (m < l ∨ l = m ∧ d < c) := by
  unfold cmpP cmpI
  split <;> (try split) <;> (try split) <;> (try split) <;> simp_all <;> omega
theorem c_vals (l c m d : Int) : cmpP l c m d = -1 ∨ cmpP l c m d = 0 ∨ cmpP l c m d = 1 := by
  unfold cmpP
  split
  · exact cmpI_eq _ _
  · exact cmpI_eq _ _
theorem c_neg (l c m d : Int) : cmpP m d l c = -cmpP l c m d := by
  have b1 := c_lt l c m d
  have b2 := c_gt l c m d
  have c1 := c_lt m d l c
  have c2 := c_gt m d l c
  have d1 := c_vals l c m d
  have d2 := c_vals m d l c
  omega
theorem c_trans {l c m d x y : Int} (h1 : cmpP l c m d ≤ 0) (h2 : cmpP m d x y ≤ 0) : cmpP l c x y ≤ 0 := by
  have a1 := c_gt l c m d
  have a2 := c_gt m d x y
  have a3 := c_gt l c x y
  omega
theorem di_sign {l c m d cols : Int} (h1 : inB l c cols = true) (h2 : inB m d cols = true) :
    ((m - l) * cols + d - c > 0 ↔ cmpP l c m d < 0) ∧ ((m - l) * cols + d - c = 0 ↔ cmpP l c m d = 0) := by
  obtain ⟨a1, a2, a3, a4⟩ := in_ok h1
  obtain ⟨b1, b2, b3, b4⟩ := in_ok h2
  have e1 := c_lt l c m d
  have e2 := c_gt l c m d
  have e3 := c_vals l c m d
  rcases Int.lt_trichotomy l m with h | h | h
  · have : 1 * cols ≤ (m - l) * cols := Int.mul_le_mul_of_nonneg_right (by omega) (by omega)
    omega
  · subst h
    rw [Int.sub_self, Int.zero_mul]
    omega
  · have : (m - l) * cols ≤ (-1) * cols := Int.mul_le_mul_of_nonneg_right (by omega) (by omega)
    omega
theorem stR_add {l c n m cols x y : Int} (h : stR l c n cols = ((x, y), 0)) : stR l c (n + m) cols = stR x y m cols := by
  unfold stR at h
  split at h
  · rename_i hin
    obtain ⟨⟨b1, b1'⟩, b2, b3, b4⟩ := in_ok hin
    split at h
    · rename_i hr
      simp only [Prod.mk.injEq] at h
      obtain ⟨⟨hx, hy⟩, _⟩ := h
      have e1 : cols * x + y = l * cols + c + n := by rw [← hx, ← hy]; exact Int.mul_ediv_add_emod _ _
      have e2 : x * cols = cols * x := Int.mul_comm _ _
      have y0 : 0 ≤ y := by rw [← hy]; exact Int.emod_nonneg _ (by omega)
      have y1 : y < cols := by rw [← hy]; exact Int.emod_lt_of_pos _ (by omega)
      have x0 : 0 ≤ x := by rw [← hx]; exact Int.ediv_nonneg hr.1 (by omega)
      have x1 : x ≤ 1099511627776 := by
        refine Int.not_lt.1 fun h' => ?_
        have : 1099511627777 * cols ≤ x * cols := Int.mul_le_mul_of_nonneg_right (by omega) (by omega)
        omega
      have hin2 : inB x y cols = true := in_mk ⟨⟨b1, b1'⟩, ⟨x0, x1⟩, y0, y1⟩
      have e3 : l * cols + c + (n + m) = x * cols + y + m := by omega
      unfold stR
      rw [if_pos hin, if_pos hin2, e3]
    · simp at h
  · simp at h
theorem stR_no (l c n cols : Int) : (stR l c n cols).2 = 0 ∨ (stR l c n cols).2 = 2 ∨ (stR l c n cols).2 = 3 := by
  unfold stR
  split
  · split <;> simp
  · simp
theorem cl_in {l c first next cols : Int} (h : clBad first next cols = false) : first ≤ clL l first next ∧ clL l first next < next ∧ 0 ≤ clC l c first next cols ∧ clC l c first next cols < cols := by
  obtain ⟨h1, h2, h3, h4⟩ := clBad_ok h
  obtain ⟨b1, b2⟩ := wide_ok h4
  have b4 : first < next := by simpa using h2
  unfold clL clC
  split <;> (try split) <;> (try split) <;> (try split) <;> omega
theorem cl_mono {l c m d first next cols : Int} (h : clBad first next cols = false) (hk : cmpP l c m d ≤ 0) : cmpP (clL l first next) (clC l c first next cols) (clL m first next) (clC m d first next cols) ≤ 0 := by
  obtain ⟨h1, h2, h3, h4⟩ := clBad_ok h
  obtain ⟨b1, b2⟩ := wide_ok h4
  have b4 : first < next := by simpa using h2
  have e1 := c_gt l c m d
  have e2 := c_gt (clL l first next) (clC l c first next cols) (clL m first next) (clC m d first next cols)
  have hx : (clL l first next = first ∧ clC l c first next cols = 0 ∧ l < first) ∨ (clL l first next = next - 1 ∧ clC l c first next cols = cols - 1 ∧ next ≤ l) ∨
      (clL l first next = l ∧ first ≤ l ∧ l < next ∧ ((clC l c first next cols = 0 ∧ c < 0) ∨ (clC l c first next cols = cols - 1 ∧ cols ≤ c) ∨ (clC l c first next cols = c ∧ 0 ≤ c ∧ c < cols))) := by
    unfold clL clC
    split <;> (try split) <;> (try split) <;> (try split) <;> omega
  have hy : (clL m first next = first ∧ clC m d first next cols = 0 ∧ m < first) ∨ (clL m first next = next - 1 ∧ clC m d first next cols = cols - 1 ∧ next ≤ m) ∨
      (clL m first next = m ∧ first ≤ m ∧ m < next ∧ ((clC m d first next cols = 0 ∧ d < 0) ∨ (clC m d first next cols = cols - 1 ∧ cols ≤ d) ∨ (clC m d first next cols = d ∧ 0 ≤ d ∧ d < cols))) := by
    unfold clL clC
    split <;> (try split) <;> (try split) <;> (try split) <;> omega
  generalize clL l first next = x at *
  generalize clC l c first next cols = y at *
  generalize clL m first next = x' at *
  generalize clC m d first next cols = y' at *
  omega
theorem cl_same {l c first next cols : Int} (h1 : first ≤ l) (h2 : l < next) (h3 : 0 ≤ c) (h4 : c < cols) : clL l first next = l ∧ clC l c first next cols = c := by
  unfold clL clC
  rw [if_neg (by omega), if_neg (by omega), if_neg (by omega), if_neg (by omega), if_neg (by omega), if_neg (by omega)]
  exact ⟨rfl, rfl⟩
end Go.Proofs.YtoljdfaghomjkaaDoor
