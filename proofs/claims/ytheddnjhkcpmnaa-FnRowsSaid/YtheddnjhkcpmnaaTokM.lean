
/- Tok in memory: what toTok, toTokS, eqTok, eqTokS, szTokS, markTokS, heldTokS do. No condition. -/
import Derived.Test.YtheddnjhkcpmnaaNst
import Derived.Test.YtheddnjhkcpmnaaChecked
import Derived.Handy
import Derived.Deep.Light
import Derived.Deep.QuietTactic
import Derived.BigQuiet
import Derived.StillTailTactics
import Derived.Deep.RegionWith
set_option linter.unusedSimpArgs false
set_option linter.unusedVariables false
set_option maxRecDepth 100000
namespace Go.Proofs.Ytheddnjhkcpmnaa
open Go.RowKit

theorem okTok : SliceOk Try.prog 101 106 (.agg #[.int .i64 0, .int .i64 0]) 2 16 := .mk Try.underlying101 (by kernel_rfl) rfl (by decide)

end Go.Proofs.Ytheddnjhkcpmnaa
