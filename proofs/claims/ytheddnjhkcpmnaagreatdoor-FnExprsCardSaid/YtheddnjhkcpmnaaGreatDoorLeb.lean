
/- PutU, LongU, PutS: what the Go text returns. No condition. -/
import Derived.Test.YtheddnjhkcpmnaaGreatDoorLebP
import Derived.Test.YtheddnjhkcpmnaaGreatDoorChecked
set_option linter.unusedSimpArgs false
set_option linter.unusedVariables false
set_option maxRecDepth 100000
namespace Go.Proofs.YtheddnjhkcpmnaaGreatDoor
open Go.RowKit

theorem okU8 : SliceOk Tryz.prog 22 5 (.int .u8 0) 1 1 := .mk Tryz.underlying22 (by kernel_rfl) rfl (by decide)

end Go.Proofs.YtheddnjhkcpmnaaGreatDoor
