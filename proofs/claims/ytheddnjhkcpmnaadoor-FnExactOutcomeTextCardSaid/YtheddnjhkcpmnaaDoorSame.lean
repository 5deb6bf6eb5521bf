
/- l1Same, slices.Equal of ints: what the Go text returns. No condition. -/
import Derived.Test.YtheddnjhkcpmnaaDoorSl6
set_option linter.unusedSimpArgs false
set_option linter.unusedVariables false
set_option maxRecDepth 100000
namespace Go.Proofs.YtheddnjhkcpmnaaDoor
open Go.RowKit

def sameB (xs ys : List Int) : Bool := decide (xs = ys)
theorem sameB_self (xs : List Int) : true = sameB xs xs := by simp [sameB]
theorem sameB_len {xs ys : List Int} (h : xs.length ≠ ys.length) : false = sameB xs ys := by
  unfold sameB; rw [decide_eq_false]; intro e; exact h (by rw [e])
theorem sameB_ne {xs ys : List Int} {k : Nat} (h1 : k < xs.length) (h2 : k < ys.length) (h : xs[k] ≠ ys[k]) : false = sameB xs ys := by
  unfold sameB; rw [decide_eq_false]; intro e; subst e; exact h rfl
theorem sameB_all {xs ys : List Int} (h : xs.length = ys.length) (h2 : xs.take xs.length = ys.take xs.length) : true = sameB xs ys := by
  unfold sameB; rw [decide_eq_true]; rw [List.take_length, h, List.take_length] at h2; exact h2
theorem take_snoc2 {xs ys : List Int} {k : Nat} (h1 : k < xs.length) (h2 : k < ys.length) (h : xs[k] = ys[k]) (e : xs.take k = ys.take k) : xs.take (k + 1) = ys.take (k + 1) := by
  rw [List.take_succ_eq_append_getElem h1, List.take_succ_eq_append_getElem h2, h, e]

end Go.Proofs.YtheddnjhkcpmnaaDoor
