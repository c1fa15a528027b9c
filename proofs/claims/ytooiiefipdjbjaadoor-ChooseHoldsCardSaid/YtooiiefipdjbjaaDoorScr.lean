/- Rows: what the statements' tests of them answer. The tables hold what the program's text lays. -/
import Derived.Test.YtooiiefipdjbjaaDoorElT
import Derived.Test.YtooiiefipdjbjaaDoorRg2
import Derived.Test.YtooiiefipdjbjaaDoorLnA
import Derived.Test.YtooiiefipdjbjaaDoorTxA
namespace Go.Proofs.YtooiiefipdjbjaaDoor
set_option linter.unusedVariables false
set_option linter.unusedSimpArgs false
open Go.RowKit

theorem bne_of {a b : Int} {t : Bool} (h : (a == b) = t) : (a != b) = !t := by rw [bne, h]
theorem ways4 (a b c d : Bool) : (a = true ∧ b = true ∧ c = true ∧ d = true) ∨ (a = true ∧ b = true ∧ c = true ∧ d = false) ∨ (a = true ∧ b = true ∧ c = false) ∨ (a = true ∧ b = false) ∨ a = false := by
  cases a <;> cases b <;> cases c <;> cases d <;> simp
theorem ways3 (a b c : Bool) : (a = true ∧ b = true ∧ c = true) ∨ (a = true ∧ b = true ∧ c = false) ∨ (a = true ∧ b = false) ∨ a = false := by
  cases a <;> cases b <;> cases c <;> simp
theorem ways2 (a b : Bool) : (a = true ∧ b = true) ∨ (a = true ∧ b = false) ∨ a = false := by
  cases a <;> cases b <;> simp

/-- Is a line one of a screen with so many columns? -/
def scrAt (n : Nat) (l : Ln) : Bool := lnOk l.cells && !(l.cells.length == 0) && (l.cells.length == n)
def cols (ls : List Ln) : Nat := match ls with | [] => 0 | l :: _ => l.cells.length
def scrB (ls : List Ln) : Bool := ls.all (scrAt (cols ls))
theorem cols_of {ls : List Ln} {x : Ln} (h : ls[0]? = some x) : cols ls = x.cells.length := by
  cases ls with
  | nil => cases h
  | cons l r => cases h; rfl
theorem scrB_bad {ls : List Ln} {k : Nat} {x : Ln} (h : ls[k]? = some x) (hb : scrAt (cols ls) x = false) : scrB ls = false := by
  unfold scrB
  rw [List.all_eq_false]
  exact ⟨x, List.mem_iff_getElem?.2 ⟨_, h⟩, by simp [hb]⟩
theorem scr_more {ls : List Ln} {k n : Nat} {x : Ln} (h : ls[k]? = some x) (hb : scrAt n x = true) (ha : (ls.take k).all (scrAt n) = true) : (ls.take (k + 1)).all (scrAt n) = true := by
  rw [List.take_add_one, List.all_append, ha, h]; simp [hb]
theorem scrB_len {ls : List Ln} (h : scrB ls = true) {x : Ln} (hx : x ∈ ls) : x.cells.length = cols ls ∧ lnOk x.cells = true ∧ 0 < x.cells.length := by
  unfold scrB at h
  have := List.all_eq_true.1 h x hx
  simp [scrAt] at this
  have h2 := this.1.2
  refine ⟨this.2, this.1.1, ?_⟩
  rcases Nat.eq_zero_or_pos x.cells.length with h3 | h3
  · exact absurd (List.eq_nil_of_length_eq_zero h3) h2
  · exact h3

/-- Are lines rows, and is a number that of a first row? -/
def rowsOk (ls : List Ln) (first : Int) : Bool := scrB ls && (decide (first ≥ 0) && decide (first ≤ 1099511627776))
theorem rowsOk_ok {ls : List Ln} {first : Int} (h : rowsOk ls first = true) : (∀ x ∈ ls, x.cells.length = cols ls ∧ lnOk x.cells = true ∧ 0 < x.cells.length) ∧ 0 ≤ first ∧ first ≤ 1099511627776 := by
  unfold rowsOk at h
  rw [Bool.and_eq_true, Bool.and_eq_true, decide_eq_true_eq, decide_eq_true_eq] at h
  exact ⟨fun x hx => scrB_len h.1 hx, h.2.1, h.2.2⟩
theorem rowsOk_no {ls : List Ln} {first : Int} (h : scrB ls = false) : rowsOk ls first = false := by unfold rowsOk; rw [h]; rfl
/-- At most so many lines with at most so many cells each. -/
def smallB (ls : List Ln) : Bool := decide (ls.length ≤ 10) && ls.all fun l => decide (l.cells.length ≤ 20)
theorem smallB_ok {ls : List Ln} (h : smallB ls = true) : ls.length ≤ 10 ∧ ∀ l ∈ ls, l.cells.length ≤ 20 := by
  unfold smallB at h
  simpa using h
end Go.Proofs.YtooiiefipdjbjaaDoor
