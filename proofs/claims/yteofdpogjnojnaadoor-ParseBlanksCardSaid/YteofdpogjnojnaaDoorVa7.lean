/-
  The document's Depth.
-/
import Derived.Test.YteofdpogjnojnaaDoorVa6
namespace Go.Proofs.YteofdpogjnojnaaDoor
open Go.RowKit
attribute [local go_sem ↓] Go.wp_at_zero Go.wp_at_succ
set_option linter.unusedVariables false
set_option linter.unusedSimpArgs false

end Go.Proofs.YteofdpogjnojnaaDoor
