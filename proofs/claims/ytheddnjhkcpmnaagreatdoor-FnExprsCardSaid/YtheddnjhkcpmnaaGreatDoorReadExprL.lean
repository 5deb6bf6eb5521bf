
/- FnExactReadExpr: the call returns true. Conditions: the library's variables hold something of their kinds; the words and the table lie where the program lays them. -/
import Derived.Test.YtheddnjhkcpmnaaGreatDoorRxI
import Derived.Test.YtheddnjhkcpmnaaGreatDoorTokM
set_option linter.unusedSimpArgs false
set_option linter.unusedVariables false
set_option maxRecDepth 100000
namespace Go.Proofs.YtheddnjhkcpmnaaGreatDoor
open Go.RowKit Go.Lib

theorem MaxL.below {w W : World} (h : MaxL w) (hg : 4 < w.heap.size) (hb : Below w.heap.size w W) : MaxL W := by
  obtain ⟨m, hm⟩ := h
  exact ⟨m, (hb.cell (p := ⟨4, 0, none⟩) hg).trans hm⟩
end Go.Proofs.YtheddnjhkcpmnaaGreatDoor
