/- The reference's test of a row of cells answers as the program's does. The tables hold what the program's text lays. -/
import Derived.Test.YtonlmlmjglaoiaaDoorRow3
namespace Go.Proofs.YtonlmlmjglaoiaaDoor
set_option linter.unusedVariables false
set_option linter.unusedSimpArgs false
open Go.RowKit

/-- The spacer behind a wide cell. -/
def Cell.spacer (c : Cell) : Cell := ⟨0, 0, 0, 0, 0, c.f0, c.f1, c.f2, c.f3, c.f4, c.b0, c.b1, c.b2, c.b3, c.b4, c.flags⟩
theorem run_spacer (c : Cell) (W : World) : (Instr.build 46 #[(3, c.pen)]).run Tryd.prog W = .ok c.spacer.val W := by
  unfold Cell.pen Cell.val Cell.spacer
  go_simp
theorem exec_build1 {P : Program} {ρ : Operand → Value} {o : Oper} {t : TypeId} {i : Nat} {x : Operand} {a v : Value} {W W' : World} (ho : o.op = .build t #[(i, x)]) (hx : ρ x = a) (h : (Instr.build t #[(i, a)]).run P W = .ok v W') : (execOp ρ o).run P W = .ok (.value v) W' := by
  unfold execOp
  rw [ho]
  simp only [List.map_toArray, List.map_cons, List.map_nil, hx, Sem.run_bind, h, Result.andThen_ok]
  rfl

theorem valid_width {c : Cell} (h : c.valid = true) : c.width = 0 ∨ c.width = 1 ∨ c.width = 2 := by
  have h3 := wOf_range c.rune
  unfold Cell.valid at h
  simp only [Bool.and_eq_true] at h
  have h2 := h.2
  split at h2
  · simp at h2; omega
  · simp at h2; omega
theorem valid_zero {d : Cell} (h : d.valid = true) (h0 : d.width = 0) : d.rune = 0 ∧ d.m0 = 0 ∧ d.m1 = 0 ∧ d.m2 = 0 := by
  unfold Cell.valid at h
  simp only [Bool.and_eq_true] at h
  have h2 := h.2
  split at h2
  · rename_i hr
    simp only [Bool.and_eq_true] at h2
    exact ⟨hr, eq3_iff.1 h2.2⟩
  · simp [h0] at h2
theorem valid_spacer {c : Cell} (h : c.valid = true) : c.spacer.valid = true := by
  unfold Cell.valid at h ⊢
  simp only [Bool.and_eq_true] at h
  simp [Cell.spacer, eq3, h.1]
theorem penEq_iff {c d : Cell} : penEq c d = true ↔ c.f0 = d.f0 ∧ c.f1 = d.f1 ∧ c.f2 = d.f2 ∧ c.f3 = d.f3 ∧ c.f4 = d.f4 ∧ c.b0 = d.b0 ∧ c.b1 = d.b1 ∧ c.b2 = d.b2 ∧ c.b3 = d.b3 ∧ c.b4 = d.b4 ∧ c.flags = d.flags := by
  simp [penEq, eq11, eq5, and_assoc]
theorem bad_next {xs : List Cell} {i : Nat} {c d : Cell} (hc : xs[i]? = some c) (hd : xs[i + 1]? = some d) (hw : c.width = 2) (hne : d ≠ c.spacer) : rowBad xs (i + 1) = true := by
  rw [bad_atS rfl hd hc]
  by_cases hv : d.valid = true
  · by_cases h0 : d.width = 0
    · obtain ⟨r, m0, m1, m2⟩ := valid_zero hv h0
      have hp : penEq d c = false := by
        rw [Bool.eq_false_iff]
        intro hp
        obtain ⟨p0, p1, p2, p3, p4, p5, p6, p7, p8, p9, p10⟩ := penEq_iff.1 hp
        apply hne
        cases d; cases c
        simp_all [Cell.spacer]
      simp [cellBad, hw, hp]
    · simp [cellBad, hw, h0]
  · simp [cellBad, hv]
theorem good_next {xs : List Cell} {i : Nat} {c : Cell} (hv : c.valid = true) (hc : xs[i]? = some c) (hd : xs[i + 1]? = some c.spacer) (hw : c.width = 2) : rowBad xs (i + 1) = false := by
  rw [bad_atS rfl hd hc]
  have hp : penEq c.spacer c = true := penEq_iff.2 ⟨rfl, rfl, rfl, rfl, rfl, rfl, rfl, rfl, rfl, rfl, rfl⟩
  have h0 : c.spacer.width = 0 := rfl
  simp [cellBad, valid_spacer hv, hp, hw, h0]
theorem bad_here {xs : List Cell} {i : Nat} {c : Cell} (hb : behindAt xs i = false) (hc : xs[i]? = some c) : rowBad xs i = (!c.valid || c.width == 0 || (c.width == 2 && i + 1 == xs.length)) := by
  unfold rowBad; rw [hc]; simp only [cellBad, hb]; simp
theorem behind_next {xs : List Cell} {i : Nat} {c : Cell} (hc : xs[i]? = some c) (hw : c.width ≠ 2) : behindAt xs (i + 1) = false := by
  simp only [behindAt, hc]; simpa using hw

end Go.Proofs.YtonlmlmjglaoiaaDoor
