/- What the statements ask of Get and Pop. No condition. -/
import Derived.Test.YtpicffaghoggdaaDoorPop
namespace Go.Proofs.YtpicffaghoggdaaDoor
set_option linter.unusedVariables false
set_option linter.unusedSimpArgs false
open Go.RowKit

end Go.Proofs.YtpicffaghoggdaaDoor
