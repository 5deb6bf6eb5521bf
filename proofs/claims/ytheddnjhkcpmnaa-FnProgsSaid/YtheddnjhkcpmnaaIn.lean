
/- within, l1In: what the Go text returns. No condition. -/
import Derived.Test.YtheddnjhkcpmnaaP2
import Derived.Test.YtheddnjhkcpmnaaChecked
set_option linter.unusedSimpArgs false
set_option linter.unusedVariables false
namespace Go.Proofs.Ytheddnjhkcpmnaa
open Go.RowKit

theorem spec_l1In_yes (a b c : Int) (h1 : b ≤ a) (h2 : a ≤ c) (w : World) : Calls Try.prog 81 #[.int .i64 a, .int .i64 b, .int .i64 c] w fun e w' => e = .returned (.bool true) ∧ w = w' := by
  go_enter Try.func81, Try.ntmps81
  go_wp2
  go_ret
  exact ⟨rfl, rfl⟩
theorem spec_l1In_no (a b c : Int) (h : a < b ∨ c < a) (w : World) : Calls Try.prog 81 #[.int .i64 a, .int .i64 b, .int .i64 c] w fun e w' => e = .returned (.bool false) ∧ w = w' := by
  by_cases h1 : a < b
  · clear h
    go_enter Try.func81, Try.ntmps81
    go_wp2
    go_ret
    exact ⟨rfl, rfl⟩
  · have h2 : decide (a ≤ c) = false := decide_eq_false (by omega)
    clear h
    go_enter Try.func81, Try.ntmps81
    go_wp2
    go_ret
    exact ⟨rfl, rfl⟩
theorem spec_l1In (a b c : Int) (w : World) : Calls Try.prog 81 #[.int .i64 a, .int .i64 b, .int .i64 c] w fun e w' => e = .returned (.bool (inB a b c)) ∧ w = w' := by
  by_cases h : b ≤ a ∧ a ≤ c
  · rw [inB_yes h.1 h.2]; exact spec_l1In_yes a b c h.1 h.2 w
  · rw [inB_no (by omega)]; exact spec_l1In_no a b c (by omega) w
theorem impl_within_yes (a b c : Int) (h1 : b ≤ a) (h2 : a ≤ c) (w : World) : Calls Try.prog 79 #[.int .i64 a, .int .i64 b, .int .i64 c] w fun e w' => e = .returned (.bool true) ∧ w = w' := by
  go_enter Try.func79, Try.ntmps79
  go_wp2
  go_ret
  exact ⟨rfl, rfl⟩
theorem impl_within_no (a b c : Int) (h : a < b ∨ c < a) (w : World) : Calls Try.prog 79 #[.int .i64 a, .int .i64 b, .int .i64 c] w fun e w' => e = .returned (.bool false) ∧ w = w' := by
  by_cases h1 : a < b
  · clear h
    go_enter Try.func79, Try.ntmps79
    go_wp2
    go_ret
    exact ⟨rfl, rfl⟩
  · have h2 : decide (a ≤ c) = false := decide_eq_false (by omega)
    clear h
    go_enter Try.func79, Try.ntmps79
    go_wp2
    go_ret
    exact ⟨rfl, rfl⟩
theorem impl_within (a b c : Int) (w : World) : Calls Try.prog 79 #[.int .i64 a, .int .i64 b, .int .i64 c] w fun e w' => e = .returned (.bool (inB a b c)) ∧ w = w' := by
  by_cases h : b ≤ a ∧ a ≤ c
  · rw [inB_yes h.1 h.2]; exact impl_within_yes a b c h.1 h.2 w
  · rw [inB_no (by omega)]; exact impl_within_no a b c (by omega) w
end Go.Proofs.Ytheddnjhkcpmnaa
