
/- eqIntS with what it leaves. No condition. -/
import Derived.Test.YtaebmliolpgmdaaSl6
set_option linter.unusedVariables false
namespace Go.Proofs.Ytaebmliolpgmdaa
open Go.RowKit
theorem eqIntSB (v v2 : Value) (zs : List Int) (w : World) (hr : Rd w w.heap.size v zs.length (icells .i64 zs)) (hr2 : Rd w w.heap.size v2 zs.length (icells .i64 zs)) (hl : zs.length ≤ 9223372036854775807) :
    Calls Try.prog 48 #[v, v2] w fun e w' => e = .returned (.bool true) ∧ Below w.heap.size w w' :=
  (eqIntS v v2 zs w _ _ hr hr2 hl).mono fun e w' ⟨h1, q, h2⟩ => ⟨h1, by rw [h2]; exact below_drewN (Below.refl _ _) q⟩
end Go.Proofs.Ytaebmliolpgmdaa
