/- The chapter's examples. No condition. -/
import Derived.Test.YthjcnhgfagefjaaDoorPgS
import Derived.Test.YthjcnhgfagefjaaDoorLnA
namespace Go.Proofs.YthjcnhgfagefjaaDoor
set_option linter.unusedVariables false
set_option linter.unusedSimpArgs false
open Go.RowKit

end Go.Proofs.YthjcnhgfagefjaaDoor
