
/- within, l1In: what the Go text returns. No condition. -/
import Derived.Test.YthcdogkkkejodaaKit
import Derived.Test.YthcdogkkkejodaaChecked
set_option linter.unusedSimpArgs false
set_option linter.unusedVariables false
namespace Go.Proofs.Ythcdogkkkejodaa
open Go.RowKit

theorem spec_l1In_yes (a b c : Int) (h1 : b ≤ a) (h2 : a ≤ c) (w : World) : Calls Try.prog 76 #[.int .i64 a, .int .i64 b, .int .i64 c] w fun e w' => e = .returned (.bool true) ∧ w = w' := by
  go_enter Try.func76, Try.ntmps76
  go_wp2
  go_ret
  exact ⟨rfl, rfl⟩
theorem spec_l1In_no (a b c : Int) (h : a < b ∨ c < a) (w : World) : Calls Try.prog 76 #[.int .i64 a, .int .i64 b, .int .i64 c] w fun e w' => e = .returned (.bool false) ∧ w = w' := by
  by_cases h1 : a < b
  · clear h
    go_enter Try.func76, Try.ntmps76
    go_wp2
    go_ret
    exact ⟨rfl, rfl⟩
  · have h2 : decide (a ≤ c) = false := decide_eq_false (by omega)
    clear h
    go_enter Try.func76, Try.ntmps76
    go_wp2
    go_ret
    exact ⟨rfl, rfl⟩
theorem spec_l1In (a b c : Int) (w : World) : Calls Try.prog 76 #[.int .i64 a, .int .i64 b, .int .i64 c] w fun e w' => e = .returned (.bool (decide (b ≤ a ∧ a ≤ c))) ∧ w = w' := by
  by_cases h : b ≤ a ∧ a ≤ c
  · rw [decide_eq_true h]; exact spec_l1In_yes a b c h.1 h.2 w
  · rw [decide_eq_false h]; exact spec_l1In_no a b c (by omega) w
theorem impl_within_yes (a b c : Int) (h1 : b ≤ a) (h2 : a ≤ c) (w : World) : Calls Try.prog 80 #[.int .i64 a, .int .i64 b, .int .i64 c] w fun e w' => e = .returned (.bool true) ∧ w = w' := by
  go_enter Try.func80, Try.ntmps80
  go_wp2
  go_ret
  exact ⟨rfl, rfl⟩
theorem impl_within_no (a b c : Int) (h : a < b ∨ c < a) (w : World) : Calls Try.prog 80 #[.int .i64 a, .int .i64 b, .int .i64 c] w fun e w' => e = .returned (.bool false) ∧ w = w' := by
  by_cases h1 : a < b
  · clear h
    go_enter Try.func80, Try.ntmps80
    go_wp2
    go_ret
    exact ⟨rfl, rfl⟩
  · have h2 : decide (a ≤ c) = false := decide_eq_false (by omega)
    clear h
    go_enter Try.func80, Try.ntmps80
    go_wp2
    go_ret
    exact ⟨rfl, rfl⟩
theorem impl_within (a b c : Int) (w : World) : Calls Try.prog 80 #[.int .i64 a, .int .i64 b, .int .i64 c] w fun e w' => e = .returned (.bool (decide (b ≤ a ∧ a ≤ c))) ∧ w = w' := by
  by_cases h : b ≤ a ∧ a ≤ c
  · rw [decide_eq_true h]; exact impl_within_yes a b c h.1 h.2 w
  · rw [decide_eq_false h]; exact impl_within_no a b c (by omega) w
end Go.Proofs.Ythcdogkkkejodaa
