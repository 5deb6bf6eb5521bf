
/- A slice that is read stays so: no condition. -/
import Derived.Test.YtaebmliolpgmdaaMem
set_option linter.unusedVariables false
namespace Go.Proofs.Ytaebmliolpgmdaa
open Go.RowKit
theorem Rd.go {w w' : World} {B B' n : Nat} {v : Value} {cs : List Value} (h : Rd w B v n cs) (hb : Below B' w w') (h1 : B ≤ B') (h2 : B ≤ w'.heap.size) : Rd w' w'.heap.size v n cs := (h.below' hb h1).more h2
theorem Rd.here {w w' : World} {v : Value} {n : Nat} {cs : List Value} (h : Rd w w.heap.size v n cs) (hb : Below w.heap.size w w') : Rd w' w'.heap.size v n cs := h.go hb (Nat.le_refl _) hb.size
end Go.Proofs.Ytaebmliolpgmdaa
