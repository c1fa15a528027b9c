/- From what the row's list and the world's shape give to what the walks ask (42). No condition. -/
import Derived.Test.YtohiigmlkhpneaaDoorLaw
import Derived.Test.YtohiigmlkhpneaaDoorOpenL
import Derived.Test.YtohiigmlkhpneaaDoorSrI
namespace Go.Proofs.YtohiigmlkhpneaaDoor
set_option linter.unusedVariables false
set_option linter.unusedSimpArgs false
open Go.RowKit
theorem std_of_shaped {W : World} (hsh : W.ShapedOpen Tryd.prog) : Std W := by
  have h := Tryd.laysM143.s1_3 W hsh
  exact h
end Go.Proofs.YtohiigmlkhpneaaDoor
