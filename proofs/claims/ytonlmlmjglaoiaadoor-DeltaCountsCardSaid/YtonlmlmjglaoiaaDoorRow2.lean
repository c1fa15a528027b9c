/- Rows of cells: comparing them, testing them. The tables hold what the program's text lays. -/
import Derived.Test.YtonlmlmjglaoiaaDoorOps
namespace Go.Proofs.YtonlmlmjglaoiaaDoor
set_option linter.unusedVariables false
set_option linter.unusedSimpArgs false
open Go.RowKit

theorem take_more {α : Type} {xs ys : List α} {k : Nat} {c : α} (h : xs.take k = ys.take k) (h1 : xs[k]? = some c) (h2 : ys[k]? = some c) : xs.take (k + 1) = ys.take (k + 1) := by
  rw [List.take_add_one, List.take_add_one, h, h1, h2]

end Go.Proofs.YtonlmlmjglaoiaaDoor
