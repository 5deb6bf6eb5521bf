
/- A number within bounds. No condition. -/
import Derived.Test.YtaebmliolpgmdaaKit
namespace Go.Proofs.Ytaebmliolpgmdaa
def inB (a b c : Int) : Bool := decide (b ≤ a ∧ a ≤ c)
theorem inB_yes {a b c : Int} (h1 : b ≤ a) (h2 : a ≤ c) : inB a b c = true := decide_eq_true ⟨h1, h2⟩
theorem inB_no {a b c : Int} (h : a < b ∨ c < a) : inB a b c = false := decide_eq_false (by omega)
theorem inB_iff {a b c : Int} : inB a b c = true ↔ b ≤ a ∧ a ≤ c := by unfold inB; exact decide_eq_true_iff
end Go.Proofs.Ytaebmliolpgmdaa
