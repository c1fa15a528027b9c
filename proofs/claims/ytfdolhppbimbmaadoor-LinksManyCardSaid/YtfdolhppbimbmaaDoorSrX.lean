/- matched (42): the reference's search. The tables hold what the program's text lays. -/
import Derived.Test.YtfdolhppbimbmaaDoorSrW
import Derived.Test.YtfdolhppbimbmaaDoorSeqH
namespace Go.Proofs.YtfdolhppbimbmaaDoor
set_option linter.unusedVariables false
set_option linter.unusedSimpArgs false
open Go.RowKit Go.Shelf
attribute [local go_sem] Oper.semAt_some

def lastB (ls : List Ln) (i : Nat) (x : Ln) : Bool := !x.soft || decide (i + 1 = ls.length)
end Go.Proofs.YtfdolhppbimbmaaDoor
