
/- Tok in memory: what toTok, toTokS, eqTok, eqTokS, szTokS, markTokS, heldTokS do. No condition. -/
import Derived.Test.YtgkjakoagdkpcaaGreatDoorNst
import Derived.Test.YtgkjakoagdkpcaaGreatDoorChecked
import Derived.Handy
import Derived.Deep.Light
import Derived.Deep.QuietTactic
import Derived.BigQuiet
import Derived.StillTailTactics
import Derived.Deep.RegionWith
set_option linter.unusedSimpArgs false
set_option linter.unusedVariables false
set_option maxRecDepth 100000
namespace Go.Proofs.YtgkjakoagdkpcaaGreatDoor
open Go.RowKit

theorem okTok : SliceOk Tryz.prog 138 142 (.agg #[.int .i64 0, .int .i64 0]) 2 16 := .mk Tryz.underlying138 (by kernel_rfl) rfl (by decide)

end Go.Proofs.YtgkjakoagdkpcaaGreatDoor
