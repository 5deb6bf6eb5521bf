
/- Tokens and expressions: what the Go text of isTok, needs, highOf, l2Known, l2Needs, l2High returns. No condition. -/
import Derived.Test.YtheddnjhkcpmnaaDoorP2
import Derived.Test.YtheddnjhkcpmnaaDoorIn
import Derived.Test.YtheddnjhkcpmnaaDoorMem
import Derived.Test.YtheddnjhkcpmnaaDoorBlk
import Derived.Deep.Light
set_option linter.unusedSimpArgs false
set_option linter.unusedVariables false
set_option maxRecDepth 100000
namespace Go.Proofs.YtheddnjhkcpmnaaDoor
open Go.RowKit

theorem impl_isSmallB (n : Int) (w : World) : Calls Tryd.prog 31 #[.int .i64 n] w fun e w' => e = .returned (.bool (smallB n)) ∧ w = w' := by
  by_cases h : -2147483648 ≤ n ∧ n ≤ 2147483647
  · have e : (n == wrap64 (wrap32 n)) = true := by unfold wrap64 wrap32; rw [beq_iff_eq]; omega
    rw [show smallB n = true from inB_yes h.1 h.2]
    go_enter Tryd.func31, Tryd.ntmps31
    go_wp2
    go_ret
    exact ⟨rfl, rfl⟩
  · have e : (n == wrap64 (wrap32 n)) = false := by unfold wrap64 wrap32; rw [beq_eq_false_iff_ne]; omega
    rw [show smallB n = false from inB_no (by omega)]
    clear h
    go_enter Tryd.func31, Tryd.ntmps31
    go_wp2
    go_ret
    exact ⟨rfl, rfl⟩
theorem spec_l2Bound (n : Int) (w : World) : Calls Tryd.prog 27 #[.int .i64 n] w fun e w' => e = .returned (.bool (smallB n)) ∧ w = w' := by
  go_enter Tryd.func27, Tryd.ntmps27
  go_wp2_with (go_at_call 25; refine (spec_l1In n _ _ _).mono ?_; rintro e w' ⟨rfl, rfl⟩)
  go_ret
  exact ⟨rfl, rfl⟩
theorem tokOk_other {vars funcs o n : Int} (h1 : o ≠ 1) (h2 : o ≠ 2) (h3 : o ≠ 11) : tokOk vars funcs ⟨o, n⟩ = (inB o 3 10 && decide (n = 0)) := by
  unfold tokOk; rw [if_neg h1, if_neg h2, if_neg h3]

set_option maxHeartbeats 800000 in
theorem impl_isTok (o n vars funcs : Int) (hv : 0 ≤ vars) (hv2 : vars ≤ 100) (hf : 0 ≤ funcs) (hf2 : funcs ≤ 100) (w : World) :
    Calls Tryd.prog 47 #[.agg #[.int .i64 o, .int .i64 n], .int .i64 vars, .int .i64 funcs] w fun e w' => e = .returned (.bool (tokOk vars funcs ⟨o, n⟩)) ∧ Below w.heap.size w w' := by
  by_cases o1 : o = 1
  · subst o1
    rw [show tokOk vars funcs ⟨1, n⟩ = smallB n from rfl]
    go_enter Tryd.func47, Tryd.ntmps47
    go_wp2_with (go_at_call 31; refine (impl_isSmallB n _).mono ?_; rintro e w' ⟨rfl, rfl⟩)
    go_ret
    exact ⟨rfl, (Below.refl _ _).alloc (Nat.le_refl _) _⟩
  by_cases o2 : o = 2
  · subst o2
    rw [show tokOk vars funcs ⟨2, n⟩ = inB n 0 (vars - 1) from rfl]
    go_enter Tryd.func47, Tryd.ntmps47
    go_wp2_with (go_at_call 30; refine (impl_within n _ _ _).mono ?_; rintro e w' ⟨rfl, rfl⟩)
    go_ret
    exact ⟨rfl, (Below.refl _ _).alloc (Nat.le_refl _) _⟩
  by_cases o3 : o = 11
  · subst o3
    rw [show tokOk vars funcs ⟨11, n⟩ = inB n 0 (funcs - 1) from rfl]
    go_enter Tryd.func47, Tryd.ntmps47
    go_wp2_with (go_at_call 30; refine (impl_within n _ _ _).mono ?_; rintro e w' ⟨rfl, rfl⟩)
    go_ret
    exact ⟨rfl, (Below.refl _ _).alloc (Nat.le_refl _) _⟩
  rw [tokOk_other o1 o2 o3]
  have b1 : (o == 1) = false := by rw [beq_eq_false_iff_ne]; exact o1
  have b2 : (o == 2) = false := by rw [beq_eq_false_iff_ne]; exact o2
  have b3 : (o == 11) = false := by rw [beq_eq_false_iff_ne]; exact o3
  clear o1 o2 o3
  by_cases h : 3 ≤ o ∧ o ≤ 10
  · by_cases h0 : n = 0
    · rw [inB_yes h.1 h.2, decide_eq_true h0]
      subst h0
      obtain ⟨h1, h2⟩ := h
      go_enter Tryd.func47, Tryd.ntmps47
      go_wp2_with (go_at_call 30; refine (impl_within_yes o _ _ h1 h2 _).mono ?_; rintro e w' ⟨rfl, rfl⟩)
      go_ret
      exact ⟨rfl, (Below.refl _ _).alloc (Nat.le_refl _) _⟩
    · rw [inB_yes h.1 h.2, decide_eq_false h0]
      have b4 : (n == 0) = false := by rw [beq_eq_false_iff_ne]; exact h0
      obtain ⟨h1, h2⟩ := h
      clear h0
      go_enter Tryd.func47, Tryd.ntmps47
      go_wp2_with (go_at_call 30; refine (impl_within_yes o _ _ h1 h2 _).mono ?_; rintro e w' ⟨rfl, rfl⟩)
      go_ret
      exact ⟨rfl, (Below.refl _ _).alloc (Nat.le_refl _) _⟩
  · have h' : o < 3 ∨ 10 < o := by omega
    rw [inB_no h']
    clear h
    go_enter Tryd.func47, Tryd.ntmps47
    go_wp2_with (go_at_call 30; refine (impl_within_no o _ _ h' _).mono ?_; rintro e w' ⟨rfl, rfl⟩)
    go_ret
    exact ⟨rfl, (Below.refl _ _).alloc (Nat.le_refl _) _⟩

set_option maxHeartbeats 800000 in
theorem spec_l2Token (o n : Int) (w : World) :
    Calls Tryd.prog 42 #[.agg #[.int .i64 o, .int .i64 n]] w fun e w' => e = .returned (.bool (tokOk 100 100 ⟨o, n⟩)) ∧ Below w.heap.size w w' := by
  by_cases o1 : o = 1
  · subst o1
    rw [show tokOk 100 100 ⟨1, n⟩ = smallB n from rfl]
    go_enter Tryd.func42, Tryd.ntmps42
    go_wp2_with (go_at_call 27; refine (spec_l2Bound n _).mono ?_; rintro e w' ⟨rfl, rfl⟩)
    go_ret
    exact ⟨rfl, (Below.refl _ _).alloc (Nat.le_refl _) _⟩
  by_cases o2 : o = 2
  · subst o2
    rw [show tokOk 100 100 ⟨2, n⟩ = inB n 0 99 from rfl]
    go_enter Tryd.func42, Tryd.ntmps42
    go_wp2_with (go_at_call 25; refine (spec_l1In n _ _ _).mono ?_; rintro e w' ⟨rfl, rfl⟩)
    go_ret
    exact ⟨rfl, (Below.refl _ _).alloc (Nat.le_refl _) _⟩
  by_cases o3 : o = 11
  · subst o3
    rw [show tokOk 100 100 ⟨11, n⟩ = inB n 0 99 from rfl]
    go_enter Tryd.func42, Tryd.ntmps42
    go_wp2_with (go_at_call 25; refine (spec_l1In n _ _ _).mono ?_; rintro e w' ⟨rfl, rfl⟩)
    go_ret
    exact ⟨rfl, (Below.refl _ _).alloc (Nat.le_refl _) _⟩
  rw [tokOk_other o1 o2 o3]
  have b1 : (o == 1) = false := by rw [beq_eq_false_iff_ne]; exact o1
  have b2 : (o == 2) = false := by rw [beq_eq_false_iff_ne]; exact o2
  have b3 : (o == 11) = false := by rw [beq_eq_false_iff_ne]; exact o3
  clear o1 o2 o3
  by_cases h : 3 ≤ o ∧ o ≤ 10
  · by_cases h0 : n = 0
    · rw [inB_yes h.1 h.2, decide_eq_true h0]
      subst h0
      obtain ⟨h1, h2⟩ := h
      go_enter Tryd.func42, Tryd.ntmps42
      go_wp2_with (go_at_call 25; refine (spec_l1In_yes o _ _ h1 h2 _).mono ?_; rintro e w' ⟨rfl, rfl⟩)
      go_ret
      exact ⟨rfl, (Below.refl _ _).alloc (Nat.le_refl _) _⟩
    · rw [inB_yes h.1 h.2, decide_eq_false h0]
      have b4 : (n == 0) = false := by rw [beq_eq_false_iff_ne]; exact h0
      obtain ⟨h1, h2⟩ := h
      clear h0
      go_enter Tryd.func42, Tryd.ntmps42
      go_wp2_with (go_at_call 25; refine (spec_l1In_yes o _ _ h1 h2 _).mono ?_; rintro e w' ⟨rfl, rfl⟩)
      go_ret
      exact ⟨rfl, (Below.refl _ _).alloc (Nat.le_refl _) _⟩
  · have h' : o < 3 ∨ 10 < o := by omega
    rw [inB_no h']
    clear h
    go_enter Tryd.func42, Tryd.ntmps42
    go_wp2_with (go_at_call 25; refine (spec_l1In_no o _ _ h' _).mono ?_; rintro e w' ⟨rfl, rfl⟩)
    go_ret
    exact ⟨rfl, (Below.refl _ _).alloc (Nat.le_refl _) _⟩

theorem tok100_no {vars funcs : Int} {t : P2} (hv2 : vars ≤ 100) (hf2 : funcs ≤ 100) (h : tokOk 100 100 t = false) : tokOk vars funcs t = false := by
  unfold tokOk at h ⊢
  by_cases h1 : t.o = 1
  · rw [if_pos h1] at h ⊢; exact h
  · rw [if_neg h1] at h ⊢
    by_cases h2 : t.o = 2
    · rw [if_pos h2] at h ⊢; unfold inB at *; simp only [decide_eq_false_iff_not] at *; omega
    · rw [if_neg h2] at h ⊢
      by_cases h3 : t.o = 11
      · rw [if_pos h3] at h ⊢; unfold inB at *; simp only [decide_eq_false_iff_not] at *; omega
      · rw [if_neg h3] at h ⊢; exact h
theorem tok100_yes {vars funcs o n : Int} (h : tokOk 100 100 ⟨o, n⟩ = true) : tokOk vars funcs ⟨o, n⟩ = (decide (o ≠ 2 ∨ n < vars) && decide (o ≠ 11 ∨ n < funcs)) := by
  unfold tokOk at h ⊢
  dsimp only at h ⊢
  by_cases h1 : o = 1
  · rw [if_pos h1] at h ⊢; rw [h]; subst h1; simp
  · rw [if_neg h1] at h ⊢
    by_cases h2 : o = 2
    · rw [if_pos h2] at h ⊢; subst h2; rw [inB_iff] at h; simp only [ne_eq, not_true_eq_false, false_or, Int.reduceEq, not_false_eq_true, true_or, decide_true, Bool.and_true, Bool.true_and]; unfold inB; rw [decide_eq_decide]; omega
    · rw [if_neg h2] at h ⊢
      by_cases h3 : o = 11
      · rw [if_pos h3] at h ⊢; subst h3; rw [inB_iff] at h; simp only [ne_eq, not_true_eq_false, false_or, Int.reduceEq, not_false_eq_true, true_or, decide_true, Bool.and_true, Bool.true_and]; unfold inB; rw [decide_eq_decide]; omega
      · rw [if_neg h3] at h ⊢; rw [h]; simp [h2, h3]

end Go.Proofs.YtheddnjhkcpmnaaDoor
