/- The chapter's examples. No condition. -/
import Derived.Test.YtpicffaghoggdaaDoorPgS
import Derived.Test.YtpicffaghoggdaaDoorLnA
namespace Go.Proofs.YtpicffaghoggdaaDoor
set_option linter.unusedVariables false
set_option linter.unusedSimpArgs false
open Go.RowKit

end Go.Proofs.YtpicffaghoggdaaDoor
