/- gathered (search): the text of rows, and the place of the cell of each byte. No condition. -/
import Derived.Test.YtooiiefipdjbjaaDoorTxC
import Derived.Deep.CutRange
namespace Go.Proofs.YtooiiefipdjbjaaDoor
set_option linter.unusedVariables false
set_option linter.unusedSimpArgs false
open Go.RowKit

theorem gath_mem {α : Type} {ls : List α} {k : Nat} {x : α} (h : ls[k]? = some x) : x ∈ ls := List.mem_iff_getElem?.2 ⟨k, h⟩
end Go.Proofs.YtooiiefipdjbjaaDoor
