
/- Tokens and expressions: what the Go text of isTok, needs, highOf, l2Known, l2Needs, l2High returns. No condition. -/
import Derived.Test.YtaebmliolpgmdaaGreatP2
import Derived.Test.YtaebmliolpgmdaaGreatIn
import Derived.Test.YtaebmliolpgmdaaGreatMem
import Derived.Test.YtaebmliolpgmdaaGreatBlk
import Derived.Deep.Light
set_option linter.unusedSimpArgs false
set_option linter.unusedVariables false
set_option maxRecDepth 100000
namespace Go.Proofs.YtaebmliolpgmdaaGreat
open Go.RowKit

theorem impl_isSmallB (n : Int) (w : World) : Calls Tryz.prog 69 #[.int .i64 n] w fun e w' => e = .returned (.bool (smallB n)) ∧ w = w' := by
  by_cases h : -2147483648 ≤ n ∧ n ≤ 2147483647
  · have e : (n == wrap64 (wrap32 n)) = true := by unfold wrap64 wrap32; rw [beq_iff_eq]; omega
    rw [show smallB n = true from inB_yes h.1 h.2]
    go_enter Tryz.func69, Tryz.ntmps69
    go_wp2
    go_ret
    exact ⟨rfl, rfl⟩
  · have e : (n == wrap64 (wrap32 n)) = false := by unfold wrap64 wrap32; rw [beq_eq_false_iff_ne]; omega
    rw [show smallB n = false from inB_no (by omega)]
    clear h
    go_enter Tryz.func69, Tryz.ntmps69
    go_wp2
    go_ret
    exact ⟨rfl, rfl⟩
theorem spec_l2Bound (n : Int) (w : World) : Calls Tryz.prog 62 #[.int .i64 n] w fun e w' => e = .returned (.bool (smallB n)) ∧ w = w' := by
  go_enter Tryz.func62, Tryz.ntmps62
  go_wp2_with (go_at_call 42; refine (spec_l1In n _ _ _).mono ?_; rintro e w' ⟨rfl, rfl⟩)
  go_ret
  exact ⟨rfl, rfl⟩
theorem tokOk_other {vars funcs o n : Int} (h1 : o ≠ 1) (h2 : o ≠ 2) (h3 : o ≠ 11) : tokOk vars funcs ⟨o, n⟩ = (inB o 3 10 && decide (n = 0)) := by
  unfold tokOk; rw [if_neg h1, if_neg h2, if_neg h3]

theorem tok100_no {vars funcs : Int} {t : P2} (hv2 : vars ≤ 100) (hf2 : funcs ≤ 100) (h : tokOk 100 100 t = false) : tokOk vars funcs t = false := by
  unfold tokOk at h ⊢
  by_cases h1 : t.o = 1
  · rw [if_pos h1] at h ⊢; exact h
  · rw [if_neg h1] at h ⊢
    by_cases h2 : t.o = 2
    · rw [if_pos h2] at h ⊢; unfold inB at *; simp only [decide_eq_false_iff_not] at *; omega
    · rw [if_neg h2] at h ⊢
      by_cases h3 : t.o = 11
      · rw [if_pos h3] at h ⊢; unfold inB at *; simp only [decide_eq_false_iff_not] at *; omega
      · rw [if_neg h3] at h ⊢; exact h
theorem tok100_yes {vars funcs o n : Int} (h : tokOk 100 100 ⟨o, n⟩ = true) : tokOk vars funcs ⟨o, n⟩ = (decide (o ≠ 2 ∨ n < vars) && decide (o ≠ 11 ∨ n < funcs)) := by
  unfold tokOk at h ⊢
  dsimp only at h ⊢
  by_cases h1 : o = 1
  · rw [if_pos h1] at h ⊢; rw [h]; subst h1; simp
  · rw [if_neg h1] at h ⊢
    by_cases h2 : o = 2
    · rw [if_pos h2] at h ⊢; subst h2; rw [inB_iff] at h; simp only [ne_eq, not_true_eq_false, false_or, Int.reduceEq, not_false_eq_true, true_or, decide_true, Bool.and_true, Bool.true_and]; unfold inB; rw [decide_eq_decide]; omega
    · rw [if_neg h2] at h ⊢
      by_cases h3 : o = 11
      · rw [if_pos h3] at h ⊢; subst h3; rw [inB_iff] at h; simp only [ne_eq, not_true_eq_false, false_or, Int.reduceEq, not_false_eq_true, true_or, decide_true, Bool.and_true, Bool.true_and]; unfold inB; rw [decide_eq_decide]; omega
      · rw [if_neg h3] at h ⊢; rw [h]; simp [h2, h3]

end Go.Proofs.YtaebmliolpgmdaaGreat
