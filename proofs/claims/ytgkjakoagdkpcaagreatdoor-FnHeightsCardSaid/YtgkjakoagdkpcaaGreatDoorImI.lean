
/- isIns, l5Ins for a seat without codes: what the Go text returns. No condition. -/
import Derived.Test.YtgkjakoagdkpcaaGreatDoorNst
import Derived.Test.YtgkjakoagdkpcaaGreatDoorIn
import Derived.Test.YtgkjakoagdkpcaaGreatDoorMem
import Derived.Test.YtgkjakoagdkpcaaGreatDoorBlk
import Derived.Deep.Light
import Derived.Shelf.Lay
import Derived.Test.YtgkjakoagdkpcaaGreatDoorImP
set_option linter.unusedSimpArgs false
set_option linter.unusedVariables false
set_option maxRecDepth 100000
namespace Go.Proofs.YtgkjakoagdkpcaaGreatDoor
open Go.RowKit Go.Shelf

end Go.Proofs.YtgkjakoagdkpcaaGreatDoor
