
/- Tokens and expressions: what the Go text of isTok, needs, highOf, l2Known, l2Needs, l2High returns. No condition. -/
import Derived.Test.YtheddnjhkcpmnaaGreatDoorP2
import Derived.Test.YtheddnjhkcpmnaaGreatDoorIn
import Derived.Test.YtheddnjhkcpmnaaGreatDoorMem
import Derived.Test.YtheddnjhkcpmnaaGreatDoorBlk
import Derived.Deep.Light
set_option linter.unusedSimpArgs false
set_option linter.unusedVariables false
set_option maxRecDepth 100000
namespace Go.Proofs.YtheddnjhkcpmnaaGreatDoor
open Go.RowKit

theorem impl_isSmallB (n : Int) (w : World) : Calls Tryz.prog 46 #[.int .i64 n] w fun e w' => e = .returned (.bool (smallB n)) ∧ w = w' := by
  by_cases h : -2147483648 ≤ n ∧ n ≤ 2147483647
  · have e : (n == wrap64 (wrap32 n)) = true := by unfold wrap64 wrap32; rw [beq_iff_eq]; omega
    rw [show smallB n = true from inB_yes h.1 h.2]
    go_enter Tryz.func46, Tryz.ntmps46
    go_wp2
    go_ret
    exact ⟨rfl, rfl⟩
  · have e : (n == wrap64 (wrap32 n)) = false := by unfold wrap64 wrap32; rw [beq_eq_false_iff_ne]; omega
    rw [show smallB n = false from inB_no (by omega)]
    clear h
    go_enter Tryz.func46, Tryz.ntmps46
    go_wp2
    go_ret
    exact ⟨rfl, rfl⟩
theorem spec_l2Bound (n : Int) (w : World) : Calls Tryz.prog 51 #[.int .i64 n] w fun e w' => e = .returned (.bool (smallB n)) ∧ w = w' := by
  go_enter Tryz.func51, Tryz.ntmps51
  go_wp2_with (go_at_call 28; refine (spec_l1In n _ _ _).mono ?_; rintro e w' ⟨rfl, rfl⟩)
  go_ret
  exact ⟨rfl, rfl⟩
theorem tokOk_other {vars funcs o n : Int} (h1 : o ≠ 1) (h2 : o ≠ 2) (h3 : o ≠ 11) : tokOk vars funcs ⟨o, n⟩ = (inB o 3 10 && decide (n = 0)) := by
  unfold tokOk; rw [if_neg h1, if_neg h2, if_neg h3]

set_option maxHeartbeats 800000 in
theorem impl_isTok (o n vars funcs : Int) (hv : 0 ≤ vars) (hv2 : vars ≤ 100) (hf : 0 ≤ funcs) (hf2 : funcs ≤ 100) (w : World) :
    Calls Tryz.prog 25 #[.agg #[.int .i64 o, .int .i64 n], .int .i64 vars, .int .i64 funcs] w fun e w' => e = .returned (.bool (tokOk vars funcs ⟨o, n⟩)) ∧ Below w.heap.size w w' := by
  by_cases o1 : o = 1
  · subst o1
    rw [show tokOk vars funcs ⟨1, n⟩ = smallB n from rfl]
    go_enter Tryz.func25, Tryz.ntmps25
    go_wp2_with (go_at_call 46; refine (impl_isSmallB n _).mono ?_; rintro e w' ⟨rfl, rfl⟩)
    go_ret
    exact ⟨rfl, (Below.refl _ _).alloc (Nat.le_refl _) _⟩
  by_cases o2 : o = 2
  · subst o2
    rw [show tokOk vars funcs ⟨2, n⟩ = inB n 0 (vars - 1) from rfl]
    go_enter Tryz.func25, Tryz.ntmps25
    go_wp2_with (go_at_call 22; refine (impl_within n _ _ _).mono ?_; rintro e w' ⟨rfl, rfl⟩)
    go_ret
    exact ⟨rfl, (Below.refl _ _).alloc (Nat.le_refl _) _⟩
  by_cases o3 : o = 11
  · subst o3
    rw [show tokOk vars funcs ⟨11, n⟩ = inB n 0 (funcs - 1) from rfl]
    go_enter Tryz.func25, Tryz.ntmps25
    go_wp2_with (go_at_call 22; refine (impl_within n _ _ _).mono ?_; rintro e w' ⟨rfl, rfl⟩)
    go_ret
    exact ⟨rfl, (Below.refl _ _).alloc (Nat.le_refl _) _⟩
  rw [tokOk_other o1 o2 o3]
  have b1 : (o == 1) = false := by rw [beq_eq_false_iff_ne]; exact o1
  have b2 : (o == 2) = false := by rw [beq_eq_false_iff_ne]; exact o2
  have b3 : (o == 11) = false := by rw [beq_eq_false_iff_ne]; exact o3
  clear o1 o2 o3
  by_cases h : 3 ≤ o ∧ o ≤ 10
  · by_cases h0 : n = 0
    · rw [inB_yes h.1 h.2, decide_eq_true h0]
      subst h0
      obtain ⟨h1, h2⟩ := h
      go_enter Tryz.func25, Tryz.ntmps25
      go_wp2_with (go_at_call 22; refine (impl_within_yes o _ _ h1 h2 _).mono ?_; rintro e w' ⟨rfl, rfl⟩)
      go_ret
      exact ⟨rfl, (Below.refl _ _).alloc (Nat.le_refl _) _⟩
    · rw [inB_yes h.1 h.2, decide_eq_false h0]
      have b4 : (n == 0) = false := by rw [beq_eq_false_iff_ne]; exact h0
      obtain ⟨h1, h2⟩ := h
      clear h0
      go_enter Tryz.func25, Tryz.ntmps25
      go_wp2_with (go_at_call 22; refine (impl_within_yes o _ _ h1 h2 _).mono ?_; rintro e w' ⟨rfl, rfl⟩)
      go_ret
      exact ⟨rfl, (Below.refl _ _).alloc (Nat.le_refl _) _⟩
  · have h' : o < 3 ∨ 10 < o := by omega
    rw [inB_no h']
    clear h
    go_enter Tryz.func25, Tryz.ntmps25
    go_wp2_with (go_at_call 22; refine (impl_within_no o _ _ h' _).mono ?_; rintro e w' ⟨rfl, rfl⟩)
    go_ret
    exact ⟨rfl, (Below.refl _ _).alloc (Nat.le_refl _) _⟩

set_option maxHeartbeats 800000 in
theorem spec_l2Token (o n : Int) (w : World) :
    Calls Tryz.prog 27 #[.agg #[.int .i64 o, .int .i64 n]] w fun e w' => e = .returned (.bool (tokOk 100 100 ⟨o, n⟩)) ∧ Below w.heap.size w w' := by
  by_cases o1 : o = 1
  · subst o1
    rw [show tokOk 100 100 ⟨1, n⟩ = smallB n from rfl]
    go_enter Tryz.func27, Tryz.ntmps27
    go_wp2_with (go_at_call 51; refine (spec_l2Bound n _).mono ?_; rintro e w' ⟨rfl, rfl⟩)
    go_ret
    exact ⟨rfl, (Below.refl _ _).alloc (Nat.le_refl _) _⟩
  by_cases o2 : o = 2
  · subst o2
    rw [show tokOk 100 100 ⟨2, n⟩ = inB n 0 99 from rfl]
    go_enter Tryz.func27, Tryz.ntmps27
    go_wp2_with (go_at_call 28; refine (spec_l1In n _ _ _).mono ?_; rintro e w' ⟨rfl, rfl⟩)
    go_ret
    exact ⟨rfl, (Below.refl _ _).alloc (Nat.le_refl _) _⟩
  by_cases o3 : o = 11
  · subst o3
    rw [show tokOk 100 100 ⟨11, n⟩ = inB n 0 99 from rfl]
    go_enter Tryz.func27, Tryz.ntmps27
    go_wp2_with (go_at_call 28; refine (spec_l1In n _ _ _).mono ?_; rintro e w' ⟨rfl, rfl⟩)
    go_ret
    exact ⟨rfl, (Below.refl _ _).alloc (Nat.le_refl _) _⟩
  rw [tokOk_other o1 o2 o3]
  have b1 : (o == 1) = false := by rw [beq_eq_false_iff_ne]; exact o1
  have b2 : (o == 2) = false := by rw [beq_eq_false_iff_ne]; exact o2
  have b3 : (o == 11) = false := by rw [beq_eq_false_iff_ne]; exact o3
  clear o1 o2 o3
  by_cases h : 3 ≤ o ∧ o ≤ 10
  · by_cases h0 : n = 0
    · rw [inB_yes h.1 h.2, decide_eq_true h0]
      subst h0
      obtain ⟨h1, h2⟩ := h
      go_enter Tryz.func27, Tryz.ntmps27
      go_wp2_with (go_at_call 28; refine (spec_l1In_yes o _ _ h1 h2 _).mono ?_; rintro e w' ⟨rfl, rfl⟩)
      go_ret
      exact ⟨rfl, (Below.refl _ _).alloc (Nat.le_refl _) _⟩
    · rw [inB_yes h.1 h.2, decide_eq_false h0]
      have b4 : (n == 0) = false := by rw [beq_eq_false_iff_ne]; exact h0
      obtain ⟨h1, h2⟩ := h
      clear h0
      go_enter Tryz.func27, Tryz.ntmps27
      go_wp2_with (go_at_call 28; refine (spec_l1In_yes o _ _ h1 h2 _).mono ?_; rintro e w' ⟨rfl, rfl⟩)
      go_ret
      exact ⟨rfl, (Below.refl _ _).alloc (Nat.le_refl _) _⟩
  · have h' : o < 3 ∨ 10 < o := by omega
    rw [inB_no h']
    clear h
    go_enter Tryz.func27, Tryz.ntmps27
    go_wp2_with (go_at_call 28; refine (spec_l1In_no o _ _ h' _).mono ?_; rintro e w' ⟨rfl, rfl⟩)
    go_ret
    exact ⟨rfl, (Below.refl _ _).alloc (Nat.le_refl _) _⟩

theorem tok100_no {vars funcs : Int} {t : P2} (hv2 : vars ≤ 100) (hf2 : funcs ≤ 100) (h : tokOk 100 100 t = false) : tokOk vars funcs t = false := by
  unfold tokOk at h ⊢
  by_cases h1 : t.o = 1
  · rw [if_pos h1] at h ⊢; exact h
  · rw [if_neg h1] at h ⊢
    by_cases h2 : t.o = 2
    · rw [if_pos h2] at h ⊢; unfold inB at *; simp only [decide_eq_false_iff_not] at *; omega
    · rw [if_neg h2] at h ⊢
      by_cases h3 : t.o = 11
      · rw [if_pos h3] at h ⊢; unfold inB at *; simp only [decide_eq_false_iff_not] at *; omega
      · rw [if_neg h3] at h ⊢; exact h
theorem tok100_yes {vars funcs o n : Int} (h : tokOk 100 100 ⟨o, n⟩ = true) : tokOk vars funcs ⟨o, n⟩ = (decide (o ≠ 2 ∨ n < vars) && decide (o ≠ 11 ∨ n < funcs)) := by
  unfold tokOk at h ⊢
  dsimp only at h ⊢
  by_cases h1 : o = 1
  · rw [if_pos h1] at h ⊢; rw [h]; subst h1; simp
  · rw [if_neg h1] at h ⊢
    by_cases h2 : o = 2
    · rw [if_pos h2] at h ⊢; subst h2; rw [inB_iff] at h; simp only [ne_eq, not_true_eq_false, false_or, Int.reduceEq, not_false_eq_true, true_or, decide_true, Bool.and_true, Bool.true_and]; unfold inB; rw [decide_eq_decide]; omega
    · rw [if_neg h2] at h ⊢
      by_cases h3 : o = 11
      · rw [if_pos h3] at h ⊢; subst h3; rw [inB_iff] at h; simp only [ne_eq, not_true_eq_false, false_or, Int.reduceEq, not_false_eq_true, true_or, decide_true, Bool.and_true, Bool.true_and]; unfold inB; rw [decide_eq_decide]; omega
      · rw [if_neg h3] at h ⊢; rw [h]; simp [h2, h3]

set_option maxHeartbeats 1600000 in
theorem spec_l2Known (o n vars : Int) (params : List Int) (v : Value) (hv : 0 ≤ vars) (hv2 : vars ≤ 100) (hf2 : params.length ≤ 100) (w : World) (B : Nat) (hr : Rd w B v params.length (icells .i64 params)) :
    Calls Tryz.prog 42 #[.agg #[.int .i64 o, .int .i64 n], .int .i64 vars, v] w fun e w' => e = .returned (.bool (tokOk vars params.length ⟨o, n⟩)) ∧ Below w.heap.size w w' := by
  obtain ⟨A, c, rfl, hn, hc, hcell⟩ := hr
  clear hcell hn hc
  have ht := fun w => spec_l2Token o n w
  cases h : tokOk 100 100 ⟨o, n⟩
  · rw [tok100_no hv2 (by omega) h]
    simp only [h] at ht
    have Ht := Lib.hid ht; clear ht h
    go_enter Tryz.func42, Tryz.ntmps42
    go_wp2_with (go_at_call 27; refine (Ht.out _).mono ?_; rintro e w1 ⟨rfl, hb1⟩)
    go_ret
    exact ⟨rfl, ((Below.refl _ _).alloc (Nat.le_refl _) _).trans (hb1.mono (by rw [World.size_alloc]; omega))⟩
  · have hy := tok100_yes (vars := vars) (funcs := params.length) h
    simp only [h] at ht
    have Ht := Lib.hid ht
    generalize tokOk vars params.length ⟨o, n⟩ = R at *
    have hf3 : (params.length : Int) ≤ 100 := by omega
    generalize params.length = m at *
    by_cases o2 : o = 2
    · subst o2
      by_cases hlt : n < vars
      · rw [show R = true by rw [hy]; simp [hlt]]
        clear ht h hy
        go_enter Tryz.func42, Tryz.ntmps42
        go_wp2_with fail
        refine (Ht.out _).mono ?_
        rintro e w1 ⟨rfl, hb1⟩
        have c0 := hb1.cell (p := ⟨w.heap.size, 0, none⟩) (by rw [World.size_alloc]; show w.heap.size < _; omega)
        have c1 := hb1.cell (p := ⟨w.heap.size, 1, none⟩) (by rw [World.size_alloc]; show w.heap.size < _; omega)
        go_wp2
        go_ret
        exact ⟨rfl, ((Below.refl _ _).alloc (Nat.le_refl _) _).trans (hb1.mono (by rw [World.size_alloc]; omega))⟩
      · rw [show R = false by rw [hy]; simp [hlt]]
        clear ht h hy
        go_enter Tryz.func42, Tryz.ntmps42
        go_wp2_with fail
        refine (Ht.out _).mono ?_
        rintro e w1 ⟨rfl, hb1⟩
        have c0 := hb1.cell (p := ⟨w.heap.size, 0, none⟩) (by rw [World.size_alloc]; show w.heap.size < _; omega)
        have c1 := hb1.cell (p := ⟨w.heap.size, 1, none⟩) (by rw [World.size_alloc]; show w.heap.size < _; omega)
        go_wp2
        go_ret
        exact ⟨rfl, ((Below.refl _ _).alloc (Nat.le_refl _) _).trans (hb1.mono (by rw [World.size_alloc]; omega))⟩
    by_cases o3 : o = 11
    · subst o3
      by_cases hlt : n < (m : Int)
      · rw [show R = true by rw [hy]; simp [hlt]]
        clear ht h hy o2
        go_enter Tryz.func42, Tryz.ntmps42
        go_wp2_with fail
        refine (Ht.out _).mono ?_
        rintro e w1 ⟨rfl, hb1⟩
        have c0 := hb1.cell (p := ⟨w.heap.size, 0, none⟩) (by rw [World.size_alloc]; show w.heap.size < _; omega)
        have c1 := hb1.cell (p := ⟨w.heap.size, 1, none⟩) (by rw [World.size_alloc]; show w.heap.size < _; omega)
        go_wp2
        go_ret
        exact ⟨rfl, ((Below.refl _ _).alloc (Nat.le_refl _) _).trans (hb1.mono (by rw [World.size_alloc]; omega))⟩
      · rw [show R = false by rw [hy]; simp [hlt]]
        clear ht h hy o2
        have d0 : decide (n < (m : Int)) = false := decide_eq_false hlt
        go_enter Tryz.func42, Tryz.ntmps42
        go_wp2_with fail
        refine (Ht.out _).mono ?_
        rintro e w1 ⟨rfl, hb1⟩
        have c0 := hb1.cell (p := ⟨w.heap.size, 0, none⟩) (by rw [World.size_alloc]; show w.heap.size < _; omega)
        have c1 := hb1.cell (p := ⟨w.heap.size, 1, none⟩) (by rw [World.size_alloc]; show w.heap.size < _; omega)
        go_wp2
        go_ret
        exact ⟨rfl, ((Below.refl _ _).alloc (Nat.le_refl _) _).trans (hb1.mono (by rw [World.size_alloc]; omega))⟩
    rw [show R = true by rw [hy]; simp [o2, o3]]
    have b2 : (o != 2) = true := by rw [bne_iff_ne]; exact o2
    have b3 : (o != 11) = true := by rw [bne_iff_ne]; exact o3
    clear ht h hy o2 o3
    go_enter Tryz.func42, Tryz.ntmps42
    go_wp2_with fail
    refine (Ht.out _).mono ?_
    rintro e w1 ⟨rfl, hb1⟩
    have c0 := hb1.cell (p := ⟨w.heap.size, 0, none⟩) (by rw [World.size_alloc]; show w.heap.size < _; omega)
    have c1 := hb1.cell (p := ⟨w.heap.size, 1, none⟩) (by rw [World.size_alloc]; show w.heap.size < _; omega)
    go_wp2
    go_ret
    exact ⟨rfl, ((Below.refl _ _).alloc (Nat.le_refl _) _).trans (hb1.mono (by rw [World.size_alloc]; omega))⟩
end Go.Proofs.YtheddnjhkcpmnaaGreatDoor
