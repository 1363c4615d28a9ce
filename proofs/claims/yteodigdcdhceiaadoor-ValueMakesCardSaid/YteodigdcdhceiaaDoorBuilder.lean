/-
  strings.Builder at this program: copyCheck and WriteByte, stated with the library's own words (IsBuilder, BuilderAt).
-/
import Derived.Test.YteodigdcdhceiaaDoorWords
import Derived.Lib.Builder
import Derived.Lib.UnsafeStr
import Derived.Lib.Slices
import Derived.Laws.Externs
namespace Go.Proofs.YteodigdcdhceiaaDoor
open Go.RowKit

theorem infoByte : (Tryd.prog.info? 5).map (fun i => (i.zero, i.size, i.bytes)) = some (some (.int .u8 0), 1, 1) := by kernel_rfl

end Go.Proofs.YteodigdcdhceiaaDoor
