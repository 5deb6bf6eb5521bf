
/- toUint64S, eqUint64S, markUint64S, heldUint64S: what the Go text does. No condition. -/
import Derived.Test.YtheddnjhkcpmnaaMem
import Derived.Test.YtheddnjhkcpmnaaChecked
import Derived.Handy
import Derived.Deep.Light
import Derived.Deep.QuietTactic
import Derived.BigQuiet
set_option linter.unusedSimpArgs false
set_option linter.unusedVariables false
set_option maxRecDepth 100000
namespace Go.Proofs.Ytheddnjhkcpmnaa
open Go.RowKit
theorem okU64 : SliceOk Try.prog 36 24 (.int .u64 0) 1 8 := .mk Try.underlying36 (by kernel_rfl) rfl (by decide)

end Go.Proofs.Ytheddnjhkcpmnaa
