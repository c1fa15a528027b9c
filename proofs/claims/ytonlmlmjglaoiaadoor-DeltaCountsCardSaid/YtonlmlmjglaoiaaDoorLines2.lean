/- Lists of lines: comparing them; the reference's copy of a line. No condition. -/
import Derived.Test.YtonlmlmjglaoiaaDoorLines
namespace Go.Proofs.YtonlmlmjglaoiaaDoor
set_option linter.unusedVariables false
set_option linter.unusedSimpArgs false
open Go.RowKit

end Go.Proofs.YtonlmlmjglaoiaaDoor
