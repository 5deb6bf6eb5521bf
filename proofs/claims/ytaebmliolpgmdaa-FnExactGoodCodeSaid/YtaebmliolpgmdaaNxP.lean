
/- Where an instruction goes on: plain Lean. No condition. -/
import Derived.Test.YtaebmliolpgmdaaPutP
import Derived.Test.YtaebmliolpgmdaaP2
set_option linter.unusedSimpArgs false
set_option linter.unusedVariables false
namespace Go.Proofs.Ytaebmliolpgmdaa

/-- where an instruction goes on -/
def nextI (t : P2) (a : Int) : List Int := if t.o = 10 then [t.n] else if t.o = 11 then putL [a + 1] t.n else if t.o = 13 ∨ t.o = 14 ∨ t.o = 16 ∨ t.o = 18 then [] else [a + 1]
theorem nextI_length (t : P2) (a : Int) : (nextI t a).length ≤ 2 := by
  unfold nextI
  split
  · simp
  split
  · simp only [putL]; split
    · simp
    · split <;> simp
  split <;> simp
end Go.Proofs.Ytaebmliolpgmdaa
