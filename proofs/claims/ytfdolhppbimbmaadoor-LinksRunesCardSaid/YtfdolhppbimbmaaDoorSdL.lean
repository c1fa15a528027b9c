/- From what the row's list and the world's shape give to what the walks ask (42). No condition. -/
import Derived.Test.YtfdolhppbimbmaaDoorLaw
import Derived.Test.YtfdolhppbimbmaaDoorOpenL
import Derived.Test.YtfdolhppbimbmaaDoorSrI
namespace Go.Proofs.YtfdolhppbimbmaaDoor
set_option linter.unusedVariables false
set_option linter.unusedSimpArgs false
open Go.RowKit
theorem std_of_shaped {W : World} (hsh : W.ShapedOpen Tryd.prog) : Std W := by
  have h := Tryd.laysM143.s1_3 W hsh
  exact h
end Go.Proofs.YtfdolhppbimbmaaDoor
