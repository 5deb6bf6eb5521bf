
/- Two frames alike. No condition. Printed by wip/tools/mk_sv.py. -/
import Derived.Test.YtaebmliolpgmdaaSvN
import Derived.Test.YtaebmliolpgmdaaNdFrame
set_option linter.unusedSimpArgs false
set_option linter.unusedVariables false
set_option maxRecDepth 100000
namespace Go.Proofs.Ytaebmliolpgmdaa
open Go.RowKit

def frB (a b : FrameM) : Bool := decide (a.qId = b.qId) && (decide (a.qFn = b.qFn) && (decide (a.qAt = b.qAt) && (sameB a.qPile b.qPile && (sameB a.qVars b.qVars && (sameBB a.qFlags b.qFlags && (decide (a.qResult = b.qResult) && (decide (a.qMode = b.qMode) && (decide (a.qValue = b.qValue) && (decide (a.qBase = b.qBase) && (decide (a.qOff = b.qOff)))))))))))
end Go.Proofs.Ytaebmliolpgmdaa
