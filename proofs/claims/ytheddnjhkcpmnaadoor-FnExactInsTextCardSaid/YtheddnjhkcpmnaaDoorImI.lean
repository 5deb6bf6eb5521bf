
/- isIns, l5Ins for a seat without codes: what the Go text returns. No condition. -/
import Derived.Test.YtheddnjhkcpmnaaDoorP2
import Derived.Test.YtheddnjhkcpmnaaDoorIn
import Derived.Test.YtheddnjhkcpmnaaDoorMem
import Derived.Test.YtheddnjhkcpmnaaDoorBlk
import Derived.Deep.Light
import Derived.Shelf.Lay
set_option linter.unusedSimpArgs false
set_option linter.unusedVariables false
set_option maxRecDepth 100000
namespace Go.Proofs.YtheddnjhkcpmnaaDoor
open Go.RowKit Go.Shelf

def hasNB (o : Int) : Bool := decide (o = 1 ∨ o = 2 ∨ o = 3 ∨ o = 4 ∨ o = 7 ∨ o = 10 ∨ o = 11 ∨ o = 12 ∨ o = 17)
def insOk (t : P2) : Bool := if t.o = 1 then smallB t.n else if t.o = 4 then inB t.n 3 8 else if hasNB t.o = true then inB t.n 0 1000000 else inB t.o 1 18 && decide (t.n = 0)
theorem op_ways {o : Int} (h : 1 ≤ o ∧ o ≤ 18) : o = 1 ∨ o = 2 ∨ o = 3 ∨ o = 4 ∨ o = 5 ∨ o = 6 ∨ o = 7 ∨ o = 8 ∨ o = 9 ∨ o = 10 ∨ o = 11 ∨ o = 12 ∨ o = 13 ∨ o = 14 ∨ o = 15 ∨ o = 16 ∨ o = 17 ∨ o = 18 := by omega
theorem insOk_bd {t : P2} (h : insOk t = true) : 1 ≤ t.o ∧ t.o ≤ 18 := by
  unfold insOk at h
  split at h
  · omega
  · split at h
    · omega
    · split at h
      · rename_i hh; unfold hasNB at hh; simp at hh; omega
      · simp at h; exact inB_iff.1 h.1
theorem hasNB_out {o : Int} (h : ¬ (1 ≤ o ∧ o ≤ 18)) : hasNB o = false := by unfold hasNB; exact decide_eq_false (by omega)
theorem insOk_out {o n : Int} (h : ¬ (1 ≤ o ∧ o ≤ 18)) : insOk ⟨o, n⟩ = false := by
  cases g : insOk ⟨o, n⟩ with
  | false => rfl
  | true => exact absurd (insOk_bd g) h
theorem insOk_num {n : Int} : insOk ⟨1, n⟩ = smallB n := rfl
theorem insOk_reckon {n : Int} : insOk ⟨4, n⟩ = inB n 3 8 := rfl
theorem insOk_n {o n : Int} (h1 : o ≠ 1) (h2 : o ≠ 4) (h : hasNB o = true) : insOk ⟨o, n⟩ = inB n 0 1000000 := by unfold insOk; rw [if_neg h1, if_neg h2, if_pos h]
theorem insOk_0 {o n : Int} (h1 : o ≠ 1) (h2 : o ≠ 4) (h : hasNB o = false) (hb : 1 ≤ o ∧ o ≤ 18) : insOk ⟨o, n⟩ = decide (n = 0) := by
  unfold insOk; rw [if_neg h1, if_neg h2, if_neg (by rw [h]; simp), inB_yes hb.1 hb.2, Bool.true_and]
theorem impl_isSmallB (n : Int) (w : World) : Calls Tryd.prog 31 #[.int .i64 n] w fun e w' => e = .returned (.bool (smallB n)) ∧ w = w' := by
  by_cases h : -2147483648 ≤ n ∧ n ≤ 2147483647
  · have e : (n == wrap64 (wrap32 n)) = true := by unfold wrap64 wrap32; rw [beq_iff_eq]; omega
    rw [show smallB n = true from inB_yes h.1 h.2]
    go_enter Tryd.func31, Tryd.ntmps31
    go_wp2
    go_ret
    exact ⟨rfl, rfl⟩
  · have e : (n == wrap64 (wrap32 n)) = false := by unfold wrap64 wrap32; rw [beq_eq_false_iff_ne]; omega
    rw [show smallB n = false from inB_no (by omega)]
    clear h
    go_enter Tryd.func31, Tryd.ntmps31
    go_wp2
    go_ret
    exact ⟨rfl, rfl⟩
theorem spec_l2Bound (n : Int) (w : World) : Calls Tryd.prog 27 #[.int .i64 n] w fun e w' => e = .returned (.bool (smallB n)) ∧ w = w' := by
  go_enter Tryd.func27, Tryd.ntmps27
  go_wp2_with (go_at_call 25; refine (spec_l1In n _ _ _).mono ?_; rintro e w' ⟨rfl, rfl⟩)
  go_ret
  exact ⟨rfl, rfl⟩
theorem impl_isReckoned (o : Int) (w : World) : Calls Tryd.prog 58 #[.int .i64 o] w fun e w' => e = .returned (.bool (inB o 3 8)) ∧ w = w' := by
  go_enter Tryd.func58, Tryd.ntmps58
  go_wp2_with (go_at_call 30; refine (impl_within o _ _ _).mono ?_; rintro e w' ⟨rfl, rfl⟩)
  go_ret
  exact ⟨rfl, rfl⟩

set_option maxHeartbeats 3200000 in
theorem impl_hasN (o : Int) (w : World) : Calls Tryd.prog 59 #[.int .i64 o] w fun e w' => e = .returned (.bool (hasNB o)) ∧ w = w' := by
  by_cases h : 1 ≤ o ∧ o ≤ 18
  · rcases op_ways h with rfl | rfl | rfl | rfl | rfl | rfl | rfl | rfl | rfl | rfl | rfl | rfl | rfl | rfl | rfl | rfl | rfl | rfl
    all_goals
      clear h
      go_enter Tryd.func59, Tryd.ntmps59
      go_wp2
      go_ret
      exact ⟨rfl, rfl⟩
  · rw [hasNB_out h]
    have b1 : (o == 1) = false := by rw [beq_eq_false_iff_ne]; omega
    have b2 : (o == 2) = false := by rw [beq_eq_false_iff_ne]; omega
    have b3 : (o == 3) = false := by rw [beq_eq_false_iff_ne]; omega
    have b4 : (o == 4) = false := by rw [beq_eq_false_iff_ne]; omega
    have b7 : (o == 7) = false := by rw [beq_eq_false_iff_ne]; omega
    have b10 : (o == 10) = false := by rw [beq_eq_false_iff_ne]; omega
    have b11 : (o == 11) = false := by rw [beq_eq_false_iff_ne]; omega
    have b12 : (o == 12) = false := by rw [beq_eq_false_iff_ne]; omega
    have b17 : (o == 17) = false := by rw [beq_eq_false_iff_ne]; omega
    clear h
    go_enter Tryd.func59, Tryd.ntmps59
    go_wp2
    go_ret
    exact ⟨rfl, rfl⟩
set_option maxHeartbeats 3200000 in
theorem spec_l5HasN (o : Int) (w : World) : Calls Tryd.prog 37 #[.int .i64 o] w fun e w' => e = .returned (.bool (hasNB o)) ∧ w = w' := by
  by_cases h : 1 ≤ o ∧ o ≤ 18
  · rcases op_ways h with rfl | rfl | rfl | rfl | rfl | rfl | rfl | rfl | rfl | rfl | rfl | rfl | rfl | rfl | rfl | rfl | rfl | rfl
    all_goals
      clear h
      go_enter Tryd.func37, Tryd.ntmps37
      go_wp2
      go_ret
      exact ⟨rfl, rfl⟩
  · rw [hasNB_out h]
    have b1 : (o == 1) = false := by rw [beq_eq_false_iff_ne]; omega
    have b2 : (o == 2) = false := by rw [beq_eq_false_iff_ne]; omega
    have b3 : (o == 3) = false := by rw [beq_eq_false_iff_ne]; omega
    have b4 : (o == 4) = false := by rw [beq_eq_false_iff_ne]; omega
    have b7 : (o == 7) = false := by rw [beq_eq_false_iff_ne]; omega
    have b10 : (o == 10) = false := by rw [beq_eq_false_iff_ne]; omega
    have b11 : (o == 11) = false := by rw [beq_eq_false_iff_ne]; omega
    have b12 : (o == 12) = false := by rw [beq_eq_false_iff_ne]; omega
    have b17 : (o == 17) = false := by rw [beq_eq_false_iff_ne]; omega
    clear h
    go_enter Tryd.func37, Tryd.ntmps37
    go_wp2
    go_ret
    exact ⟨rfl, rfl⟩

set_option maxHeartbeats 1600000 in
theorem impl_isIns (o n : Int) (w : World) : Calls Tryd.prog 40 #[.agg #[.int .i64 o, .int .i64 n]] w fun e w' => e = .returned (.bool (insOk ⟨o, n⟩)) ∧ Below w.heap.size w w' := by
  by_cases hb : 1 ≤ o ∧ o ≤ 18
  · by_cases o1 : o = 1
    · subst o1
      rw [insOk_num]
      clear hb
      go_enter Tryd.func40, Tryd.ntmps40
      go_wp2_with (first
        | (go_at_call 30; refine (impl_within_yes _ _ _ (by omega) (by omega) _).mono ?_; rintro e w' ⟨rfl, rfl⟩)
        | (go_at_call 31; refine (impl_isSmallB n _).mono ?_; rintro e w' ⟨rfl, rfl⟩))
      go_ret
      exact ⟨rfl, (Below.refl _ _).alloc (Nat.le_refl _) _⟩
    by_cases o4 : o = 4
    · subst o4
      rw [insOk_reckon]
      clear hb
      go_enter Tryd.func40, Tryd.ntmps40
      go_wp2_with (first
        | (go_at_call 30; refine (impl_within_yes _ _ _ (by omega) (by omega) _).mono ?_; rintro e w' ⟨rfl, rfl⟩)
        | (go_at_call 58; refine (impl_isReckoned n _).mono ?_; rintro e w' ⟨rfl, rfl⟩))
      go_ret
      exact ⟨rfl, (Below.refl _ _).alloc (Nat.le_refl _) _⟩
    have b1 : (o == 1) = false := by rw [beq_eq_false_iff_ne]; exact o1
    have b4 : (o == 4) = false := by rw [beq_eq_false_iff_ne]; exact o4
    have hh := fun w => impl_hasN o w
    cases g : hasNB o
    · rw [insOk_0 o1 o4 g hb]
      simp only [g] at hh
      have Hh := Lib.hid hh; clear hh g o1 o4
      obtain ⟨hb1, hb2⟩ := hb
      by_cases n0 : n = 0
      · subst n0
        go_enter Tryd.func40, Tryd.ntmps40
        go_wp2_with (first
          | (go_at_call 30; refine (impl_within_yes _ _ _ hb1 hb2 _).mono ?_; rintro e w' ⟨rfl, rfl⟩)
          | (go_at_call 59; refine (Hh.out _).mono ?_; rintro e w' ⟨rfl, rfl⟩))
        go_ret
        exact ⟨rfl, (Below.refl _ _).alloc (Nat.le_refl _) _⟩
      · have b0 : (n == 0) = false := by rw [beq_eq_false_iff_ne]; exact n0
        rw [decide_eq_false n0]
        clear n0
        go_enter Tryd.func40, Tryd.ntmps40
        go_wp2_with (first
          | (go_at_call 30; refine (impl_within_yes _ _ _ hb1 hb2 _).mono ?_; rintro e w' ⟨rfl, rfl⟩)
          | (go_at_call 59; refine (Hh.out _).mono ?_; rintro e w' ⟨rfl, rfl⟩))
        go_ret
        exact ⟨rfl, (Below.refl _ _).alloc (Nat.le_refl _) _⟩
    · rw [insOk_n o1 o4 g]
      simp only [g] at hh
      have Hh := Lib.hid hh; clear hh g o1 o4
      obtain ⟨hb1, hb2⟩ := hb
      go_enter Tryd.func40, Tryd.ntmps40
      go_wp2_with (first
        | (go_at_call 30; first
            | ((with_reducible refine (impl_within_yes o 1 18 hb1 hb2 _).mono ?_); rintro e w' ⟨rfl, rfl⟩)
            | ((with_reducible refine (impl_within n 0 1000000 _).mono ?_); rintro e w' ⟨rfl, rfl⟩))
        | (go_at_call 59; refine (Hh.out _).mono ?_; rintro e w' ⟨rfl, rfl⟩))
      go_ret
      exact ⟨rfl, (Below.refl _ _).alloc (Nat.le_refl _) _⟩
  · rw [insOk_out hb]
    have hb' : o < 1 ∨ 18 < o := by omega
    clear hb
    go_enter Tryd.func40, Tryd.ntmps40
    go_wp2_with (go_at_call 30; refine (impl_within_no _ _ _ hb' _).mono ?_; rintro e w' ⟨rfl, rfl⟩)
    go_ret
    exact ⟨rfl, (Below.refl _ _).alloc (Nat.le_refl _) _⟩
set_option maxHeartbeats 1600000 in
theorem spec_l5Ins (o n : Int) (w : World) : Calls Tryd.prog 36 #[.agg #[.int .i64 o, .int .i64 n]] w fun e w' => e = .returned (.bool (insOk ⟨o, n⟩)) ∧ Below w.heap.size w w' := by
  by_cases o1 : o = 1
  · subst o1
    rw [insOk_num]
    go_enter Tryd.func36, Tryd.ntmps36
    go_wp2_with (go_at_call 27; refine (spec_l2Bound n _).mono ?_; rintro e w' ⟨rfl, rfl⟩)
    go_ret
    exact ⟨rfl, (Below.refl _ _).alloc (Nat.le_refl _) _⟩
  by_cases o4 : o = 4
  · subst o4
    rw [insOk_reckon]
    go_enter Tryd.func36, Tryd.ntmps36
    go_wp2_with (go_at_call 25; refine (spec_l1In n _ _ _).mono ?_; rintro e w' ⟨rfl, rfl⟩)
    go_ret
    exact ⟨rfl, (Below.refl _ _).alloc (Nat.le_refl _) _⟩
  have b1 : (o == 1) = false := by rw [beq_eq_false_iff_ne]; exact o1
  have b4 : (o == 4) = false := by rw [beq_eq_false_iff_ne]; exact o4
  have hh := fun w => spec_l5HasN o w
  cases g : hasNB o
  · simp only [g] at hh
    by_cases hb : 1 ≤ o ∧ o ≤ 18
    · rw [insOk_0 o1 o4 g hb]
      have Hh := Lib.hid hh; clear hh g o1 o4
      obtain ⟨hb1, hb2⟩ := hb
      by_cases n0 : n = 0
      · subst n0
        go_enter Tryd.func36, Tryd.ntmps36
        go_wp2_with (first
          | (go_at_call 25; refine (spec_l1In_yes _ _ _ hb1 hb2 _).mono ?_; rintro e w' ⟨rfl, rfl⟩)
          | (go_at_call 37; refine (Hh.out _).mono ?_; rintro e w' ⟨rfl, rfl⟩))
        go_ret
        exact ⟨rfl, (Below.refl _ _).alloc (Nat.le_refl _) _⟩
      · have b0 : (n == 0) = false := by rw [beq_eq_false_iff_ne]; exact n0
        rw [decide_eq_false n0]
        clear n0
        go_enter Tryd.func36, Tryd.ntmps36
        go_wp2_with (first
          | (go_at_call 25; refine (spec_l1In_yes _ _ _ hb1 hb2 _).mono ?_; rintro e w' ⟨rfl, rfl⟩)
          | (go_at_call 37; refine (Hh.out _).mono ?_; rintro e w' ⟨rfl, rfl⟩))
        go_ret
        exact ⟨rfl, (Below.refl _ _).alloc (Nat.le_refl _) _⟩
    · rw [insOk_out hb]
      have Hh := Lib.hid hh; clear hh g o1 o4
      have hb' : o < 1 ∨ 18 < o := by omega
      clear hb
      go_enter Tryd.func36, Tryd.ntmps36
      go_wp2_with (first
        | (go_at_call 25; refine (spec_l1In_no _ _ _ hb' _).mono ?_; rintro e w' ⟨rfl, rfl⟩)
        | (go_at_call 37; refine (Hh.out _).mono ?_; rintro e w' ⟨rfl, rfl⟩))
      go_ret
      exact ⟨rfl, (Below.refl _ _).alloc (Nat.le_refl _) _⟩
  · rw [insOk_n o1 o4 g]
    simp only [g] at hh
    have Hh := Lib.hid hh; clear hh g o1 o4
    go_enter Tryd.func36, Tryd.ntmps36
    go_wp2_with (first
      | (go_at_call 25; refine (spec_l1In n 0 1000000 _).mono ?_; rintro e w' ⟨rfl, rfl⟩)
      | (go_at_call 37; refine (Hh.out _).mono ?_; rintro e w' ⟨rfl, rfl⟩))
    go_ret
    exact ⟨rfl, (Below.refl _ _).alloc (Nat.le_refl _) _⟩

end Go.Proofs.YtheddnjhkcpmnaaDoor
