
/- l3Stmt: what the Go text returns, the worlds. No condition. -/
import Derived.Test.YtgkjakoagdkpcaaGreatDoorPg4
set_option linter.unusedSimpArgs false
set_option linter.unusedVariables false
set_option maxRecDepth 100000
namespace Go.Proofs.YtgkjakoagdkpcaaGreatDoor
open Go.RowKit

/-- the world behind the two boxes -/
def W0 (a0 vars : Int) (x2 x3 : Value) (k N : Int) (u2 u3 u4 : Value) (w : World) : World := (w.alloc (.cells #[.int .i64 a0, .int .i64 vars, x2, x3] 135)).alloc (.cells #[.int .i64 k, .int .i64 N, u2, u3, u4] 140)
end Go.Proofs.YtgkjakoagdkpcaaGreatDoor
set_option linter.unusedSimpArgs false
set_option linter.unusedVariables false
set_option maxRecDepth 100000
namespace Go.Proofs.YtgkjakoagdkpcaaGreatDoor
open Go.RowKit

set_option maxHeartbeats 6400000 in
theorem spec_l3Stmt1 (a0 vars : Int) (x2 x3 : Value) (N : Int) (ex : List P2) (A5 A6 A7 : Option Addr) (c5 c6 c7 n3 n4 : Nat) (params : List Int) (pv : Value) (w : World) (g : Bool)
    (hg : Calls Tryz.prog 137 #[.slice A5 ex.length c5, .int .i64 vars, pv] (W0 a0 vars x2 x3 1 N (.slice A5 ex.length c5) (.slice A6 n3 c6) (.slice A7 n4 c7) w) fun e w' => e = .returned (.bool g) ∧ Below (W0 a0 vars x2 x3 1 N (.slice A5 ex.length c5) (.slice A6 n3 c6) (.slice A7 n4 c7) w).heap.size (W0 a0 vars x2 x3 1 N (.slice A5 ex.length c5) (.slice A6 n3 c6) (.slice A7 n4 c7) w) w')
    (hpv : ∃ Ap cp, pv = .slice Ap params.length cp) (hpl : params.length ≤ 100) (hell : ex.length ≤ 9223372036854775807) (hn3 : n3 ≤ 1048576) (hn4 : n4 ≤ 1048576) (hv1 : -1000 ≤ vars) (hv2 : vars ≤ 1000) :
    Calls Tryz.prog 129 #[.agg #[.int .i64 a0, .int .i64 vars, x2, x3], .agg #[.int .i64 1, .int .i64 N, .slice A5 ex.length c5, .slice A6 n3 c6, .slice A7 n4 c7], pv] w fun e w' => e = .returned (.bool (g && (inB N 0 (vars - 1) && decide (n3 + n4 = 0)))) ∧ Below w.heap.size w w' := by
  obtain ⟨Ap, cp, rfl⟩ := hpv
  have hb0 := ((Below.refl w.heap.size w).alloc (Nat.le_refl _) (.cells #[.int .i64 a0, .int .i64 vars, x2, x3] 135)).alloc (by rw [World.size_alloc]; omega) (.cells #[.int .i64 1, .int .i64 N, .slice A5 ex.length c5, .slice A6 n3 c6, .slice A7 n4 c7] 140)
  have hkf := (Bk.new w 135 #[.int .i64 a0, .int .i64 vars, x2, x3]).alloc (.cells #[.int .i64 1, .int .i64 N, .slice A5 ex.length c5, .slice A6 n3 c6, .slice A7 n4 c7] 140)
  have hks := Bk.new (w.alloc (.cells #[.int .i64 a0, .int .i64 vars, x2, x3] 135)) 140 #[.int .i64 1, .int .i64 N, .slice A5 ex.length c5, .slice A6 n3 c6, .slice A7 n4 c7]
  rw [World.size_alloc] at hks
  try unfold W0 at hg
  have hwn := fun w => spec_l1In N 0 (params.length - 1) w
  have hwv := fun w => spec_l1In N 0 (vars - 1) w
  have Hb0 := hide hb0; have Hkf := hide hkf; have Hks := hide hks; have Hg := hide hg
  clear hb0 hkf hks hg
  cases hin : inB N 0 (vars - 1)
  · simp only [hin] at hwv
    have HW := Lib.hid hwv; clear hwn hwv hin
    cases g
    · skip
      by_cases hl : n3 + n4 = 0
      · obtain ⟨rfl, rfl⟩ : n3 = 0 ∧ n4 = 0 := by omega
        clear hl hn3 hn4
        by_cases hN : N = 0
        · subst hN
          go_enter Tryz.func129, Tryz.ntmps129
          go_wp2_with (first
              | (go_at_call 137; refine (Hg.out).mono ?_; rintro e w1 ⟨rfl, hb1⟩; have Hb1 := hide (Hb0.out.trans (hb1.mono Hb0.out.size)); have Kf := hide (Hkf.out.below hb1); have Ks := hide (Hks.out.below hb1); have p1 := Kf.out.cell 1; have q0 := Ks.out.cell 0; have q1 := Ks.out.cell 1; have q2 := Ks.out.cell 2; have q3 := Ks.out.cell 3; have q4 := Ks.out.cell 4; clear hb1)
              | (go_at_call 28; refine (HW.out _).mono ?_; rintro e w' ⟨rfl, rfl⟩))
          go_ret
          exact ⟨retB (by first | rfl | simp), Hb1.out⟩
        · have bN : (N == 0) = false := by rw [beq_eq_false_iff_ne]; exact hN
          clear hN
          go_enter Tryz.func129, Tryz.ntmps129
          go_wp2_with (first
              | (go_at_call 137; refine (Hg.out).mono ?_; rintro e w1 ⟨rfl, hb1⟩; have Hb1 := hide (Hb0.out.trans (hb1.mono Hb0.out.size)); have Kf := hide (Hkf.out.below hb1); have Ks := hide (Hks.out.below hb1); have p1 := Kf.out.cell 1; have q0 := Ks.out.cell 0; have q1 := Ks.out.cell 1; have q2 := Ks.out.cell 2; have q3 := Ks.out.cell 3; have q4 := Ks.out.cell 4; clear hb1)
              | (go_at_call 28; refine (HW.out _).mono ?_; rintro e w' ⟨rfl, rfl⟩))
          go_ret
          exact ⟨retB (by first | rfl | simp), Hb1.out⟩
      · rw [decide_eq_false hl]
        have bl : ((n3 : Int) + (n4 : Int) == 0) = false := by rw [beq_eq_false_iff_ne]; omega
        clear hl
        by_cases hN : N = 0
        · subst hN
          go_enter Tryz.func129, Tryz.ntmps129
          go_wp2_with (first
              | (go_at_call 137; refine (Hg.out).mono ?_; rintro e w1 ⟨rfl, hb1⟩; have Hb1 := hide (Hb0.out.trans (hb1.mono Hb0.out.size)); have Kf := hide (Hkf.out.below hb1); have Ks := hide (Hks.out.below hb1); have p1 := Kf.out.cell 1; have q0 := Ks.out.cell 0; have q1 := Ks.out.cell 1; have q2 := Ks.out.cell 2; have q3 := Ks.out.cell 3; have q4 := Ks.out.cell 4; clear hb1)
              | (go_at_call 28; refine (HW.out _).mono ?_; rintro e w' ⟨rfl, rfl⟩))
          go_ret
          exact ⟨retB (by first | rfl | simp), Hb1.out⟩
        · have bN : (N == 0) = false := by rw [beq_eq_false_iff_ne]; exact hN
          clear hN
          go_enter Tryz.func129, Tryz.ntmps129
          go_wp2_with (first
              | (go_at_call 137; refine (Hg.out).mono ?_; rintro e w1 ⟨rfl, hb1⟩; have Hb1 := hide (Hb0.out.trans (hb1.mono Hb0.out.size)); have Kf := hide (Hkf.out.below hb1); have Ks := hide (Hks.out.below hb1); have p1 := Kf.out.cell 1; have q0 := Ks.out.cell 0; have q1 := Ks.out.cell 1; have q2 := Ks.out.cell 2; have q3 := Ks.out.cell 3; have q4 := Ks.out.cell 4; clear hb1)
              | (go_at_call 28; refine (HW.out _).mono ?_; rintro e w' ⟨rfl, rfl⟩))
          go_ret
          exact ⟨retB (by first | rfl | simp), Hb1.out⟩
    · skip
      by_cases hl : n3 + n4 = 0
      · obtain ⟨rfl, rfl⟩ : n3 = 0 ∧ n4 = 0 := by omega
        clear hl hn3 hn4
        by_cases hN : N = 0
        · subst hN
          go_enter Tryz.func129, Tryz.ntmps129
          go_wp2_with (first
              | (go_at_call 137; refine (Hg.out).mono ?_; rintro e w1 ⟨rfl, hb1⟩; have Hb1 := hide (Hb0.out.trans (hb1.mono Hb0.out.size)); have Kf := hide (Hkf.out.below hb1); have Ks := hide (Hks.out.below hb1); have p1 := Kf.out.cell 1; have q0 := Ks.out.cell 0; have q1 := Ks.out.cell 1; have q2 := Ks.out.cell 2; have q3 := Ks.out.cell 3; have q4 := Ks.out.cell 4; clear hb1)
              | (go_at_call 28; refine (HW.out _).mono ?_; rintro e w' ⟨rfl, rfl⟩))
          go_ret
          exact ⟨retB (by first | rfl | simp), Hb1.out⟩
        · have bN : (N == 0) = false := by rw [beq_eq_false_iff_ne]; exact hN
          clear hN
          go_enter Tryz.func129, Tryz.ntmps129
          go_wp2_with (first
              | (go_at_call 137; refine (Hg.out).mono ?_; rintro e w1 ⟨rfl, hb1⟩; have Hb1 := hide (Hb0.out.trans (hb1.mono Hb0.out.size)); have Kf := hide (Hkf.out.below hb1); have Ks := hide (Hks.out.below hb1); have p1 := Kf.out.cell 1; have q0 := Ks.out.cell 0; have q1 := Ks.out.cell 1; have q2 := Ks.out.cell 2; have q3 := Ks.out.cell 3; have q4 := Ks.out.cell 4; clear hb1)
              | (go_at_call 28; refine (HW.out _).mono ?_; rintro e w' ⟨rfl, rfl⟩))
          go_ret
          exact ⟨retB (by first | rfl | simp), Hb1.out⟩
      · rw [decide_eq_false hl]
        have bl : ((n3 : Int) + (n4 : Int) == 0) = false := by rw [beq_eq_false_iff_ne]; omega
        clear hl
        by_cases hN : N = 0
        · subst hN
          go_enter Tryz.func129, Tryz.ntmps129
          go_wp2_with (first
              | (go_at_call 137; refine (Hg.out).mono ?_; rintro e w1 ⟨rfl, hb1⟩; have Hb1 := hide (Hb0.out.trans (hb1.mono Hb0.out.size)); have Kf := hide (Hkf.out.below hb1); have Ks := hide (Hks.out.below hb1); have p1 := Kf.out.cell 1; have q0 := Ks.out.cell 0; have q1 := Ks.out.cell 1; have q2 := Ks.out.cell 2; have q3 := Ks.out.cell 3; have q4 := Ks.out.cell 4; clear hb1)
              | (go_at_call 28; refine (HW.out _).mono ?_; rintro e w' ⟨rfl, rfl⟩))
          go_ret
          exact ⟨retB (by first | rfl | simp), Hb1.out⟩
        · have bN : (N == 0) = false := by rw [beq_eq_false_iff_ne]; exact hN
          clear hN
          go_enter Tryz.func129, Tryz.ntmps129
          go_wp2_with (first
              | (go_at_call 137; refine (Hg.out).mono ?_; rintro e w1 ⟨rfl, hb1⟩; have Hb1 := hide (Hb0.out.trans (hb1.mono Hb0.out.size)); have Kf := hide (Hkf.out.below hb1); have Ks := hide (Hks.out.below hb1); have p1 := Kf.out.cell 1; have q0 := Ks.out.cell 0; have q1 := Ks.out.cell 1; have q2 := Ks.out.cell 2; have q3 := Ks.out.cell 3; have q4 := Ks.out.cell 4; clear hb1)
              | (go_at_call 28; refine (HW.out _).mono ?_; rintro e w' ⟨rfl, rfl⟩))
          go_ret
          exact ⟨retB (by first | rfl | simp), Hb1.out⟩
  · simp only [hin] at hwv
    have HW := Lib.hid hwv; clear hwn hwv hin
    cases g
    · skip
      by_cases hl : n3 + n4 = 0
      · obtain ⟨rfl, rfl⟩ : n3 = 0 ∧ n4 = 0 := by omega
        clear hl hn3 hn4
        by_cases hN : N = 0
        · subst hN
          go_enter Tryz.func129, Tryz.ntmps129
          go_wp2_with (first
              | (go_at_call 137; refine (Hg.out).mono ?_; rintro e w1 ⟨rfl, hb1⟩; have Hb1 := hide (Hb0.out.trans (hb1.mono Hb0.out.size)); have Kf := hide (Hkf.out.below hb1); have Ks := hide (Hks.out.below hb1); have p1 := Kf.out.cell 1; have q0 := Ks.out.cell 0; have q1 := Ks.out.cell 1; have q2 := Ks.out.cell 2; have q3 := Ks.out.cell 3; have q4 := Ks.out.cell 4; clear hb1)
              | (go_at_call 28; refine (HW.out _).mono ?_; rintro e w' ⟨rfl, rfl⟩))
          go_ret
          exact ⟨retB (by first | rfl | simp), Hb1.out⟩
        · have bN : (N == 0) = false := by rw [beq_eq_false_iff_ne]; exact hN
          clear hN
          go_enter Tryz.func129, Tryz.ntmps129
          go_wp2_with (first
              | (go_at_call 137; refine (Hg.out).mono ?_; rintro e w1 ⟨rfl, hb1⟩; have Hb1 := hide (Hb0.out.trans (hb1.mono Hb0.out.size)); have Kf := hide (Hkf.out.below hb1); have Ks := hide (Hks.out.below hb1); have p1 := Kf.out.cell 1; have q0 := Ks.out.cell 0; have q1 := Ks.out.cell 1; have q2 := Ks.out.cell 2; have q3 := Ks.out.cell 3; have q4 := Ks.out.cell 4; clear hb1)
              | (go_at_call 28; refine (HW.out _).mono ?_; rintro e w' ⟨rfl, rfl⟩))
          go_ret
          exact ⟨retB (by first | rfl | simp), Hb1.out⟩
      · rw [decide_eq_false hl]
        have bl : ((n3 : Int) + (n4 : Int) == 0) = false := by rw [beq_eq_false_iff_ne]; omega
        clear hl
        by_cases hN : N = 0
        · subst hN
          go_enter Tryz.func129, Tryz.ntmps129
          go_wp2_with (first
              | (go_at_call 137; refine (Hg.out).mono ?_; rintro e w1 ⟨rfl, hb1⟩; have Hb1 := hide (Hb0.out.trans (hb1.mono Hb0.out.size)); have Kf := hide (Hkf.out.below hb1); have Ks := hide (Hks.out.below hb1); have p1 := Kf.out.cell 1; have q0 := Ks.out.cell 0; have q1 := Ks.out.cell 1; have q2 := Ks.out.cell 2; have q3 := Ks.out.cell 3; have q4 := Ks.out.cell 4; clear hb1)
              | (go_at_call 28; refine (HW.out _).mono ?_; rintro e w' ⟨rfl, rfl⟩))
          go_ret
          exact ⟨retB (by first | rfl | simp), Hb1.out⟩
        · have bN : (N == 0) = false := by rw [beq_eq_false_iff_ne]; exact hN
          clear hN
          go_enter Tryz.func129, Tryz.ntmps129
          go_wp2_with (first
              | (go_at_call 137; refine (Hg.out).mono ?_; rintro e w1 ⟨rfl, hb1⟩; have Hb1 := hide (Hb0.out.trans (hb1.mono Hb0.out.size)); have Kf := hide (Hkf.out.below hb1); have Ks := hide (Hks.out.below hb1); have p1 := Kf.out.cell 1; have q0 := Ks.out.cell 0; have q1 := Ks.out.cell 1; have q2 := Ks.out.cell 2; have q3 := Ks.out.cell 3; have q4 := Ks.out.cell 4; clear hb1)
              | (go_at_call 28; refine (HW.out _).mono ?_; rintro e w' ⟨rfl, rfl⟩))
          go_ret
          exact ⟨retB (by first | rfl | simp), Hb1.out⟩
    · skip
      by_cases hl : n3 + n4 = 0
      · obtain ⟨rfl, rfl⟩ : n3 = 0 ∧ n4 = 0 := by omega
        clear hl hn3 hn4
        by_cases hN : N = 0
        · subst hN
          go_enter Tryz.func129, Tryz.ntmps129
          go_wp2_with (first
              | (go_at_call 137; refine (Hg.out).mono ?_; rintro e w1 ⟨rfl, hb1⟩; have Hb1 := hide (Hb0.out.trans (hb1.mono Hb0.out.size)); have Kf := hide (Hkf.out.below hb1); have Ks := hide (Hks.out.below hb1); have p1 := Kf.out.cell 1; have q0 := Ks.out.cell 0; have q1 := Ks.out.cell 1; have q2 := Ks.out.cell 2; have q3 := Ks.out.cell 3; have q4 := Ks.out.cell 4; clear hb1)
              | (go_at_call 28; refine (HW.out _).mono ?_; rintro e w' ⟨rfl, rfl⟩))
          go_ret
          exact ⟨retB (by first | rfl | simp), Hb1.out⟩
        · have bN : (N == 0) = false := by rw [beq_eq_false_iff_ne]; exact hN
          clear hN
          go_enter Tryz.func129, Tryz.ntmps129
          go_wp2_with (first
              | (go_at_call 137; refine (Hg.out).mono ?_; rintro e w1 ⟨rfl, hb1⟩; have Hb1 := hide (Hb0.out.trans (hb1.mono Hb0.out.size)); have Kf := hide (Hkf.out.below hb1); have Ks := hide (Hks.out.below hb1); have p1 := Kf.out.cell 1; have q0 := Ks.out.cell 0; have q1 := Ks.out.cell 1; have q2 := Ks.out.cell 2; have q3 := Ks.out.cell 3; have q4 := Ks.out.cell 4; clear hb1)
              | (go_at_call 28; refine (HW.out _).mono ?_; rintro e w' ⟨rfl, rfl⟩))
          go_ret
          exact ⟨retB (by first | rfl | simp), Hb1.out⟩
      · rw [decide_eq_false hl]
        have bl : ((n3 : Int) + (n4 : Int) == 0) = false := by rw [beq_eq_false_iff_ne]; omega
        clear hl
        by_cases hN : N = 0
        · subst hN
          go_enter Tryz.func129, Tryz.ntmps129
          go_wp2_with (first
              | (go_at_call 137; refine (Hg.out).mono ?_; rintro e w1 ⟨rfl, hb1⟩; have Hb1 := hide (Hb0.out.trans (hb1.mono Hb0.out.size)); have Kf := hide (Hkf.out.below hb1); have Ks := hide (Hks.out.below hb1); have p1 := Kf.out.cell 1; have q0 := Ks.out.cell 0; have q1 := Ks.out.cell 1; have q2 := Ks.out.cell 2; have q3 := Ks.out.cell 3; have q4 := Ks.out.cell 4; clear hb1)
              | (go_at_call 28; refine (HW.out _).mono ?_; rintro e w' ⟨rfl, rfl⟩))
          go_ret
          exact ⟨retB (by first | rfl | simp), Hb1.out⟩
        · have bN : (N == 0) = false := by rw [beq_eq_false_iff_ne]; exact hN
          clear hN
          go_enter Tryz.func129, Tryz.ntmps129
          go_wp2_with (first
              | (go_at_call 137; refine (Hg.out).mono ?_; rintro e w1 ⟨rfl, hb1⟩; have Hb1 := hide (Hb0.out.trans (hb1.mono Hb0.out.size)); have Kf := hide (Hkf.out.below hb1); have Ks := hide (Hks.out.below hb1); have p1 := Kf.out.cell 1; have q0 := Ks.out.cell 0; have q1 := Ks.out.cell 1; have q2 := Ks.out.cell 2; have q3 := Ks.out.cell 3; have q4 := Ks.out.cell 4; clear hb1)
              | (go_at_call 28; refine (HW.out _).mono ?_; rintro e w' ⟨rfl, rfl⟩))
          go_ret
          exact ⟨retB (by first | rfl | simp), Hb1.out⟩
set_option maxHeartbeats 6400000 in
theorem spec_l3Stmt7 (a0 vars : Int) (x2 x3 : Value) (N : Int) (ex : List P2) (A5 A6 A7 : Option Addr) (c5 c6 c7 n3 n4 : Nat) (params : List Int) (pv : Value) (w : World) (g : Bool)
    (hg : Calls Tryz.prog 137 #[.slice A5 ex.length c5, .int .i64 vars, pv] (W0 a0 vars x2 x3 7 N (.slice A5 ex.length c5) (.slice A6 n3 c6) (.slice A7 n4 c7) w) fun e w' => e = .returned (.bool g) ∧ Below (W0 a0 vars x2 x3 7 N (.slice A5 ex.length c5) (.slice A6 n3 c6) (.slice A7 n4 c7) w).heap.size (W0 a0 vars x2 x3 7 N (.slice A5 ex.length c5) (.slice A6 n3 c6) (.slice A7 n4 c7) w) w')
    (hpv : ∃ Ap cp, pv = .slice Ap params.length cp) (hpl : params.length ≤ 100) (hell : ex.length ≤ 9223372036854775807) (hn3 : n3 ≤ 1048576) (hn4 : n4 ≤ 1048576) (hv1 : -1000 ≤ vars) (hv2 : vars ≤ 1000) :
    Calls Tryz.prog 129 #[.agg #[.int .i64 a0, .int .i64 vars, x2, x3], .agg #[.int .i64 7, .int .i64 N, .slice A5 ex.length c5, .slice A6 n3 c6, .slice A7 n4 c7], pv] w fun e w' => e = .returned (.bool (g && decide (N = 0))) ∧ Below w.heap.size w w' := by
  obtain ⟨Ap, cp, rfl⟩ := hpv
  have hb0 := ((Below.refl w.heap.size w).alloc (Nat.le_refl _) (.cells #[.int .i64 a0, .int .i64 vars, x2, x3] 135)).alloc (by rw [World.size_alloc]; omega) (.cells #[.int .i64 7, .int .i64 N, .slice A5 ex.length c5, .slice A6 n3 c6, .slice A7 n4 c7] 140)
  have hkf := (Bk.new w 135 #[.int .i64 a0, .int .i64 vars, x2, x3]).alloc (.cells #[.int .i64 7, .int .i64 N, .slice A5 ex.length c5, .slice A6 n3 c6, .slice A7 n4 c7] 140)
  have hks := Bk.new (w.alloc (.cells #[.int .i64 a0, .int .i64 vars, x2, x3] 135)) 140 #[.int .i64 7, .int .i64 N, .slice A5 ex.length c5, .slice A6 n3 c6, .slice A7 n4 c7]
  rw [World.size_alloc] at hks
  try unfold W0 at hg
  have hwn := fun w => spec_l1In N 0 (params.length - 1) w
  have hwv := fun w => spec_l1In N 0 (vars - 1) w
  have Hb0 := hide hb0; have Hkf := hide hkf; have Hks := hide hks; have Hg := hide hg
  clear hb0 hkf hks hg
  clear hwn hwv
  by_cases hN : N = 0
  · subst hN
    by_cases hl : n3 + n4 = 0
    · obtain ⟨rfl, rfl⟩ : n3 = 0 ∧ n4 = 0 := by omega
      clear hl hn3 hn4
      cases g
      · skip
        go_enter Tryz.func129, Tryz.ntmps129
        go_wp2_with (go_at_call 137; refine (Hg.out).mono ?_; rintro e w1 ⟨rfl, hb1⟩; have Hb1 := hide (Hb0.out.trans (hb1.mono Hb0.out.size)); have Kf := hide (Hkf.out.below hb1); have Ks := hide (Hks.out.below hb1); have p1 := Kf.out.cell 1; have q0 := Ks.out.cell 0; have q1 := Ks.out.cell 1; have q2 := Ks.out.cell 2; have q3 := Ks.out.cell 3; have q4 := Ks.out.cell 4; clear hb1)
        go_ret
        exact ⟨retB (by first | rfl | simp), Hb1.out⟩
      · skip
        go_enter Tryz.func129, Tryz.ntmps129
        go_wp2_with (go_at_call 137; refine (Hg.out).mono ?_; rintro e w1 ⟨rfl, hb1⟩; have Hb1 := hide (Hb0.out.trans (hb1.mono Hb0.out.size)); have Kf := hide (Hkf.out.below hb1); have Ks := hide (Hks.out.below hb1); have p1 := Kf.out.cell 1; have q0 := Ks.out.cell 0; have q1 := Ks.out.cell 1; have q2 := Ks.out.cell 2; have q3 := Ks.out.cell 3; have q4 := Ks.out.cell 4; clear hb1)
        go_ret
        exact ⟨retB (by first | rfl | simp), Hb1.out⟩
    · have bl : ((n3 : Int) + (n4 : Int) == 0) = false := by rw [beq_eq_false_iff_ne]; omega
      try rw [decide_eq_false hl]
      cases g
      · skip
        go_enter Tryz.func129, Tryz.ntmps129
        go_wp2_with (go_at_call 137; refine (Hg.out).mono ?_; rintro e w1 ⟨rfl, hb1⟩; have Hb1 := hide (Hb0.out.trans (hb1.mono Hb0.out.size)); have Kf := hide (Hkf.out.below hb1); have Ks := hide (Hks.out.below hb1); have p1 := Kf.out.cell 1; have q0 := Ks.out.cell 0; have q1 := Ks.out.cell 1; have q2 := Ks.out.cell 2; have q3 := Ks.out.cell 3; have q4 := Ks.out.cell 4; clear hb1)
        go_ret
        exact ⟨retB (by first | rfl | simp), Hb1.out⟩
      · skip
        go_enter Tryz.func129, Tryz.ntmps129
        go_wp2_with (go_at_call 137; refine (Hg.out).mono ?_; rintro e w1 ⟨rfl, hb1⟩; have Hb1 := hide (Hb0.out.trans (hb1.mono Hb0.out.size)); have Kf := hide (Hkf.out.below hb1); have Ks := hide (Hks.out.below hb1); have p1 := Kf.out.cell 1; have q0 := Ks.out.cell 0; have q1 := Ks.out.cell 1; have q2 := Ks.out.cell 2; have q3 := Ks.out.cell 3; have q4 := Ks.out.cell 4; clear hb1)
        go_ret
        exact ⟨retB (by first | rfl | simp), Hb1.out⟩
  · have bN : (N == 0) = false := by rw [beq_eq_false_iff_ne]; exact hN
    try rw [decide_eq_false hN]
    clear hN
    cases g
    · skip
      go_enter Tryz.func129, Tryz.ntmps129
      go_wp2_with (go_at_call 137; refine (Hg.out).mono ?_; rintro e w1 ⟨rfl, hb1⟩; have Hb1 := hide (Hb0.out.trans (hb1.mono Hb0.out.size)); have Kf := hide (Hkf.out.below hb1); have Ks := hide (Hks.out.below hb1); have p1 := Kf.out.cell 1; have q0 := Ks.out.cell 0; have q1 := Ks.out.cell 1; have q2 := Ks.out.cell 2; have q3 := Ks.out.cell 3; have q4 := Ks.out.cell 4; clear hb1)
      go_ret
      exact ⟨retB (by first | rfl | simp), Hb1.out⟩
    · skip
      go_enter Tryz.func129, Tryz.ntmps129
      go_wp2_with (go_at_call 137; refine (Hg.out).mono ?_; rintro e w1 ⟨rfl, hb1⟩; have Hb1 := hide (Hb0.out.trans (hb1.mono Hb0.out.size)); have Kf := hide (Hkf.out.below hb1); have Ks := hide (Hks.out.below hb1); have p1 := Kf.out.cell 1; have q0 := Ks.out.cell 0; have q1 := Ks.out.cell 1; have q2 := Ks.out.cell 2; have q3 := Ks.out.cell 3; have q4 := Ks.out.cell 4; clear hb1)
      go_ret
      exact ⟨retB (by first | rfl | simp), Hb1.out⟩
end Go.Proofs.YtgkjakoagdkpcaaGreatDoor
set_option linter.unusedSimpArgs false
set_option linter.unusedVariables false
set_option maxRecDepth 100000
namespace Go.Proofs.YtgkjakoagdkpcaaGreatDoor
open Go.RowKit

set_option maxHeartbeats 6400000 in
theorem spec_l3Stmt2 (a0 vars : Int) (x2 x3 : Value) (N : Int) (ex : List P2) (A5 A6 A7 : Option Addr) (c5 c6 c7 n3 n4 : Nat) (params : List Int) (pv : Value) (w : World) (g : Bool)
    (hg : Calls Tryz.prog 137 #[.slice A5 ex.length c5, .int .i64 vars, pv] (W0 a0 vars x2 x3 2 N (.slice A5 ex.length c5) (.slice A6 n3 c6) (.slice A7 n4 c7) w) fun e w' => e = .returned (.bool g) ∧ Below (W0 a0 vars x2 x3 2 N (.slice A5 ex.length c5) (.slice A6 n3 c6) (.slice A7 n4 c7) w).heap.size (W0 a0 vars x2 x3 2 N (.slice A5 ex.length c5) (.slice A6 n3 c6) (.slice A7 n4 c7) w) w')
    (hpv : ∃ Ap cp, pv = .slice Ap params.length cp) (hpl : params.length ≤ 100) (hell : ex.length ≤ 9223372036854775807) (hn3 : n3 ≤ 1048576) (hn4 : n4 ≤ 1048576) (hv1 : -1000 ≤ vars) (hv2 : vars ≤ 1000) :
    Calls Tryz.prog 129 #[.agg #[.int .i64 a0, .int .i64 vars, x2, x3], .agg #[.int .i64 2, .int .i64 N, .slice A5 ex.length c5, .slice A6 n3 c6, .slice A7 n4 c7], pv] w fun e w' => e = .returned (.bool (g && (decide (N = 0) && decide (n3 + n4 = 0)))) ∧ Below w.heap.size w w' := by
  obtain ⟨Ap, cp, rfl⟩ := hpv
  have hb0 := ((Below.refl w.heap.size w).alloc (Nat.le_refl _) (.cells #[.int .i64 a0, .int .i64 vars, x2, x3] 135)).alloc (by rw [World.size_alloc]; omega) (.cells #[.int .i64 2, .int .i64 N, .slice A5 ex.length c5, .slice A6 n3 c6, .slice A7 n4 c7] 140)
  have hkf := (Bk.new w 135 #[.int .i64 a0, .int .i64 vars, x2, x3]).alloc (.cells #[.int .i64 2, .int .i64 N, .slice A5 ex.length c5, .slice A6 n3 c6, .slice A7 n4 c7] 140)
  have hks := Bk.new (w.alloc (.cells #[.int .i64 a0, .int .i64 vars, x2, x3] 135)) 140 #[.int .i64 2, .int .i64 N, .slice A5 ex.length c5, .slice A6 n3 c6, .slice A7 n4 c7]
  rw [World.size_alloc] at hks
  try unfold W0 at hg
  have hwn := fun w => spec_l1In N 0 (params.length - 1) w
  have hwv := fun w => spec_l1In N 0 (vars - 1) w
  have Hb0 := hide hb0; have Hkf := hide hkf; have Hks := hide hks; have Hg := hide hg
  clear hb0 hkf hks hg
  clear hwn hwv
  by_cases hN : N = 0
  · subst hN
    by_cases hl : n3 + n4 = 0
    · obtain ⟨rfl, rfl⟩ : n3 = 0 ∧ n4 = 0 := by omega
      clear hl hn3 hn4
      cases g
      · skip
        go_enter Tryz.func129, Tryz.ntmps129
        go_wp2_with (go_at_call 137; refine (Hg.out).mono ?_; rintro e w1 ⟨rfl, hb1⟩; have Hb1 := hide (Hb0.out.trans (hb1.mono Hb0.out.size)); have Kf := hide (Hkf.out.below hb1); have Ks := hide (Hks.out.below hb1); have p1 := Kf.out.cell 1; have q0 := Ks.out.cell 0; have q1 := Ks.out.cell 1; have q2 := Ks.out.cell 2; have q3 := Ks.out.cell 3; have q4 := Ks.out.cell 4; clear hb1)
        go_ret
        exact ⟨retB (by first | rfl | simp), Hb1.out⟩
      · skip
        go_enter Tryz.func129, Tryz.ntmps129
        go_wp2_with (go_at_call 137; refine (Hg.out).mono ?_; rintro e w1 ⟨rfl, hb1⟩; have Hb1 := hide (Hb0.out.trans (hb1.mono Hb0.out.size)); have Kf := hide (Hkf.out.below hb1); have Ks := hide (Hks.out.below hb1); have p1 := Kf.out.cell 1; have q0 := Ks.out.cell 0; have q1 := Ks.out.cell 1; have q2 := Ks.out.cell 2; have q3 := Ks.out.cell 3; have q4 := Ks.out.cell 4; clear hb1)
        go_ret
        exact ⟨retB (by first | rfl | simp), Hb1.out⟩
    · have bl : ((n3 : Int) + (n4 : Int) == 0) = false := by rw [beq_eq_false_iff_ne]; omega
      try rw [decide_eq_false hl]
      cases g
      · skip
        go_enter Tryz.func129, Tryz.ntmps129
        go_wp2_with (go_at_call 137; refine (Hg.out).mono ?_; rintro e w1 ⟨rfl, hb1⟩; have Hb1 := hide (Hb0.out.trans (hb1.mono Hb0.out.size)); have Kf := hide (Hkf.out.below hb1); have Ks := hide (Hks.out.below hb1); have p1 := Kf.out.cell 1; have q0 := Ks.out.cell 0; have q1 := Ks.out.cell 1; have q2 := Ks.out.cell 2; have q3 := Ks.out.cell 3; have q4 := Ks.out.cell 4; clear hb1)
        go_ret
        exact ⟨retB (by first | rfl | simp), Hb1.out⟩
      · skip
        go_enter Tryz.func129, Tryz.ntmps129
        go_wp2_with (go_at_call 137; refine (Hg.out).mono ?_; rintro e w1 ⟨rfl, hb1⟩; have Hb1 := hide (Hb0.out.trans (hb1.mono Hb0.out.size)); have Kf := hide (Hkf.out.below hb1); have Ks := hide (Hks.out.below hb1); have p1 := Kf.out.cell 1; have q0 := Ks.out.cell 0; have q1 := Ks.out.cell 1; have q2 := Ks.out.cell 2; have q3 := Ks.out.cell 3; have q4 := Ks.out.cell 4; clear hb1)
        go_ret
        exact ⟨retB (by first | rfl | simp), Hb1.out⟩
  · have bN : (N == 0) = false := by rw [beq_eq_false_iff_ne]; exact hN
    try rw [decide_eq_false hN]
    clear hN
    cases g
    · skip
      go_enter Tryz.func129, Tryz.ntmps129
      go_wp2_with (go_at_call 137; refine (Hg.out).mono ?_; rintro e w1 ⟨rfl, hb1⟩; have Hb1 := hide (Hb0.out.trans (hb1.mono Hb0.out.size)); have Kf := hide (Hkf.out.below hb1); have Ks := hide (Hks.out.below hb1); have p1 := Kf.out.cell 1; have q0 := Ks.out.cell 0; have q1 := Ks.out.cell 1; have q2 := Ks.out.cell 2; have q3 := Ks.out.cell 3; have q4 := Ks.out.cell 4; clear hb1)
      go_ret
      exact ⟨retB (by first | rfl | simp), Hb1.out⟩
    · skip
      go_enter Tryz.func129, Tryz.ntmps129
      go_wp2_with (go_at_call 137; refine (Hg.out).mono ?_; rintro e w1 ⟨rfl, hb1⟩; have Hb1 := hide (Hb0.out.trans (hb1.mono Hb0.out.size)); have Kf := hide (Hkf.out.below hb1); have Ks := hide (Hks.out.below hb1); have p1 := Kf.out.cell 1; have q0 := Ks.out.cell 0; have q1 := Ks.out.cell 1; have q2 := Ks.out.cell 2; have q3 := Ks.out.cell 3; have q4 := Ks.out.cell 4; clear hb1)
      go_ret
      exact ⟨retB (by first | rfl | simp), Hb1.out⟩
set_option maxHeartbeats 6400000 in
theorem spec_l3Stmt4 (a0 vars : Int) (x2 x3 : Value) (N : Int) (ex : List P2) (A5 A6 A7 : Option Addr) (c5 c6 c7 n3 n4 : Nat) (params : List Int) (pv : Value) (w : World) (g : Bool)
    (hg : Calls Tryz.prog 137 #[.slice A5 ex.length c5, .int .i64 vars, pv] (W0 a0 vars x2 x3 4 N (.slice A5 ex.length c5) (.slice A6 n3 c6) (.slice A7 n4 c7) w) fun e w' => e = .returned (.bool g) ∧ Below (W0 a0 vars x2 x3 4 N (.slice A5 ex.length c5) (.slice A6 n3 c6) (.slice A7 n4 c7) w).heap.size (W0 a0 vars x2 x3 4 N (.slice A5 ex.length c5) (.slice A6 n3 c6) (.slice A7 n4 c7) w) w')
    (hpv : ∃ Ap cp, pv = .slice Ap params.length cp) (hpl : params.length ≤ 100) (hell : ex.length ≤ 9223372036854775807) (hn3 : n3 ≤ 1048576) (hn4 : n4 ≤ 1048576) (hv1 : -1000 ≤ vars) (hv2 : vars ≤ 1000) :
    Calls Tryz.prog 129 #[.agg #[.int .i64 a0, .int .i64 vars, x2, x3], .agg #[.int .i64 4, .int .i64 N, .slice A5 ex.length c5, .slice A6 n3 c6, .slice A7 n4 c7], pv] w fun e w' => e = .returned (.bool (g && (decide (N = 0) && decide (n3 + n4 = 0)))) ∧ Below w.heap.size w w' := by
  obtain ⟨Ap, cp, rfl⟩ := hpv
  have hb0 := ((Below.refl w.heap.size w).alloc (Nat.le_refl _) (.cells #[.int .i64 a0, .int .i64 vars, x2, x3] 135)).alloc (by rw [World.size_alloc]; omega) (.cells #[.int .i64 4, .int .i64 N, .slice A5 ex.length c5, .slice A6 n3 c6, .slice A7 n4 c7] 140)
  have hkf := (Bk.new w 135 #[.int .i64 a0, .int .i64 vars, x2, x3]).alloc (.cells #[.int .i64 4, .int .i64 N, .slice A5 ex.length c5, .slice A6 n3 c6, .slice A7 n4 c7] 140)
  have hks := Bk.new (w.alloc (.cells #[.int .i64 a0, .int .i64 vars, x2, x3] 135)) 140 #[.int .i64 4, .int .i64 N, .slice A5 ex.length c5, .slice A6 n3 c6, .slice A7 n4 c7]
  rw [World.size_alloc] at hks
  try unfold W0 at hg
  have hwn := fun w => spec_l1In N 0 (params.length - 1) w
  have hwv := fun w => spec_l1In N 0 (vars - 1) w
  have Hb0 := hide hb0; have Hkf := hide hkf; have Hks := hide hks; have Hg := hide hg
  clear hb0 hkf hks hg
  clear hwn hwv
  by_cases hN : N = 0
  · subst hN
    by_cases hl : n3 + n4 = 0
    · obtain ⟨rfl, rfl⟩ : n3 = 0 ∧ n4 = 0 := by omega
      clear hl hn3 hn4
      cases g
      · skip
        go_enter Tryz.func129, Tryz.ntmps129
        go_wp2_with (go_at_call 137; refine (Hg.out).mono ?_; rintro e w1 ⟨rfl, hb1⟩; have Hb1 := hide (Hb0.out.trans (hb1.mono Hb0.out.size)); have Kf := hide (Hkf.out.below hb1); have Ks := hide (Hks.out.below hb1); have p1 := Kf.out.cell 1; have q0 := Ks.out.cell 0; have q1 := Ks.out.cell 1; have q2 := Ks.out.cell 2; have q3 := Ks.out.cell 3; have q4 := Ks.out.cell 4; clear hb1)
        go_ret
        exact ⟨retB (by first | rfl | simp), Hb1.out⟩
      · skip
        go_enter Tryz.func129, Tryz.ntmps129
        go_wp2_with (go_at_call 137; refine (Hg.out).mono ?_; rintro e w1 ⟨rfl, hb1⟩; have Hb1 := hide (Hb0.out.trans (hb1.mono Hb0.out.size)); have Kf := hide (Hkf.out.below hb1); have Ks := hide (Hks.out.below hb1); have p1 := Kf.out.cell 1; have q0 := Ks.out.cell 0; have q1 := Ks.out.cell 1; have q2 := Ks.out.cell 2; have q3 := Ks.out.cell 3; have q4 := Ks.out.cell 4; clear hb1)
        go_ret
        exact ⟨retB (by first | rfl | simp), Hb1.out⟩
    · have bl : ((n3 : Int) + (n4 : Int) == 0) = false := by rw [beq_eq_false_iff_ne]; omega
      try rw [decide_eq_false hl]
      cases g
      · skip
        go_enter Tryz.func129, Tryz.ntmps129
        go_wp2_with (go_at_call 137; refine (Hg.out).mono ?_; rintro e w1 ⟨rfl, hb1⟩; have Hb1 := hide (Hb0.out.trans (hb1.mono Hb0.out.size)); have Kf := hide (Hkf.out.below hb1); have Ks := hide (Hks.out.below hb1); have p1 := Kf.out.cell 1; have q0 := Ks.out.cell 0; have q1 := Ks.out.cell 1; have q2 := Ks.out.cell 2; have q3 := Ks.out.cell 3; have q4 := Ks.out.cell 4; clear hb1)
        go_ret
        exact ⟨retB (by first | rfl | simp), Hb1.out⟩
      · skip
        go_enter Tryz.func129, Tryz.ntmps129
        go_wp2_with (go_at_call 137; refine (Hg.out).mono ?_; rintro e w1 ⟨rfl, hb1⟩; have Hb1 := hide (Hb0.out.trans (hb1.mono Hb0.out.size)); have Kf := hide (Hkf.out.below hb1); have Ks := hide (Hks.out.below hb1); have p1 := Kf.out.cell 1; have q0 := Ks.out.cell 0; have q1 := Ks.out.cell 1; have q2 := Ks.out.cell 2; have q3 := Ks.out.cell 3; have q4 := Ks.out.cell 4; clear hb1)
        go_ret
        exact ⟨retB (by first | rfl | simp), Hb1.out⟩
  · have bN : (N == 0) = false := by rw [beq_eq_false_iff_ne]; exact hN
    try rw [decide_eq_false hN]
    clear hN
    cases g
    · skip
      go_enter Tryz.func129, Tryz.ntmps129
      go_wp2_with (go_at_call 137; refine (Hg.out).mono ?_; rintro e w1 ⟨rfl, hb1⟩; have Hb1 := hide (Hb0.out.trans (hb1.mono Hb0.out.size)); have Kf := hide (Hkf.out.below hb1); have Ks := hide (Hks.out.below hb1); have p1 := Kf.out.cell 1; have q0 := Ks.out.cell 0; have q1 := Ks.out.cell 1; have q2 := Ks.out.cell 2; have q3 := Ks.out.cell 3; have q4 := Ks.out.cell 4; clear hb1)
      go_ret
      exact ⟨retB (by first | rfl | simp), Hb1.out⟩
    · skip
      go_enter Tryz.func129, Tryz.ntmps129
      go_wp2_with (go_at_call 137; refine (Hg.out).mono ?_; rintro e w1 ⟨rfl, hb1⟩; have Hb1 := hide (Hb0.out.trans (hb1.mono Hb0.out.size)); have Kf := hide (Hkf.out.below hb1); have Ks := hide (Hks.out.below hb1); have p1 := Kf.out.cell 1; have q0 := Ks.out.cell 0; have q1 := Ks.out.cell 1; have q2 := Ks.out.cell 2; have q3 := Ks.out.cell 3; have q4 := Ks.out.cell 4; clear hb1)
      go_ret
      exact ⟨retB (by first | rfl | simp), Hb1.out⟩
set_option maxHeartbeats 6400000 in
theorem spec_l3Stmt5 (a0 vars : Int) (x2 x3 : Value) (N : Int) (ex : List P2) (A5 A6 A7 : Option Addr) (c5 c6 c7 n3 n4 : Nat) (params : List Int) (pv : Value) (w : World) (g : Bool)
    (hg : Calls Tryz.prog 137 #[.slice A5 ex.length c5, .int .i64 vars, pv] (W0 a0 vars x2 x3 5 N (.slice A5 ex.length c5) (.slice A6 n3 c6) (.slice A7 n4 c7) w) fun e w' => e = .returned (.bool g) ∧ Below (W0 a0 vars x2 x3 5 N (.slice A5 ex.length c5) (.slice A6 n3 c6) (.slice A7 n4 c7) w).heap.size (W0 a0 vars x2 x3 5 N (.slice A5 ex.length c5) (.slice A6 n3 c6) (.slice A7 n4 c7) w) w')
    (hpv : ∃ Ap cp, pv = .slice Ap params.length cp) (hpl : params.length ≤ 100) (hell : ex.length ≤ 9223372036854775807) (hn3 : n3 ≤ 1048576) (hn4 : n4 ≤ 1048576) (hv1 : -1000 ≤ vars) (hv2 : vars ≤ 1000) :
    Calls Tryz.prog 129 #[.agg #[.int .i64 a0, .int .i64 vars, x2, x3], .agg #[.int .i64 5, .int .i64 N, .slice A5 ex.length c5, .slice A6 n3 c6, .slice A7 n4 c7], pv] w fun e w' => e = .returned (.bool (g && (decide (N = 0) && decide (n3 + n4 = 0)))) ∧ Below w.heap.size w w' := by
  obtain ⟨Ap, cp, rfl⟩ := hpv
  have hb0 := ((Below.refl w.heap.size w).alloc (Nat.le_refl _) (.cells #[.int .i64 a0, .int .i64 vars, x2, x3] 135)).alloc (by rw [World.size_alloc]; omega) (.cells #[.int .i64 5, .int .i64 N, .slice A5 ex.length c5, .slice A6 n3 c6, .slice A7 n4 c7] 140)
  have hkf := (Bk.new w 135 #[.int .i64 a0, .int .i64 vars, x2, x3]).alloc (.cells #[.int .i64 5, .int .i64 N, .slice A5 ex.length c5, .slice A6 n3 c6, .slice A7 n4 c7] 140)
  have hks := Bk.new (w.alloc (.cells #[.int .i64 a0, .int .i64 vars, x2, x3] 135)) 140 #[.int .i64 5, .int .i64 N, .slice A5 ex.length c5, .slice A6 n3 c6, .slice A7 n4 c7]
  rw [World.size_alloc] at hks
  try unfold W0 at hg
  have hwn := fun w => spec_l1In N 0 (params.length - 1) w
  have hwv := fun w => spec_l1In N 0 (vars - 1) w
  have Hb0 := hide hb0; have Hkf := hide hkf; have Hks := hide hks; have Hg := hide hg
  clear hb0 hkf hks hg
  clear hwn hwv
  by_cases hN : N = 0
  · subst hN
    by_cases hl : n3 + n4 = 0
    · obtain ⟨rfl, rfl⟩ : n3 = 0 ∧ n4 = 0 := by omega
      clear hl hn3 hn4
      cases g
      · skip
        go_enter Tryz.func129, Tryz.ntmps129
        go_wp2_with (go_at_call 137; refine (Hg.out).mono ?_; rintro e w1 ⟨rfl, hb1⟩; have Hb1 := hide (Hb0.out.trans (hb1.mono Hb0.out.size)); have Kf := hide (Hkf.out.below hb1); have Ks := hide (Hks.out.below hb1); have p1 := Kf.out.cell 1; have q0 := Ks.out.cell 0; have q1 := Ks.out.cell 1; have q2 := Ks.out.cell 2; have q3 := Ks.out.cell 3; have q4 := Ks.out.cell 4; clear hb1)
        go_ret
        exact ⟨retB (by first | rfl | simp), Hb1.out⟩
      · skip
        go_enter Tryz.func129, Tryz.ntmps129
        go_wp2_with (go_at_call 137; refine (Hg.out).mono ?_; rintro e w1 ⟨rfl, hb1⟩; have Hb1 := hide (Hb0.out.trans (hb1.mono Hb0.out.size)); have Kf := hide (Hkf.out.below hb1); have Ks := hide (Hks.out.below hb1); have p1 := Kf.out.cell 1; have q0 := Ks.out.cell 0; have q1 := Ks.out.cell 1; have q2 := Ks.out.cell 2; have q3 := Ks.out.cell 3; have q4 := Ks.out.cell 4; clear hb1)
        go_ret
        exact ⟨retB (by first | rfl | simp), Hb1.out⟩
    · have bl : ((n3 : Int) + (n4 : Int) == 0) = false := by rw [beq_eq_false_iff_ne]; omega
      try rw [decide_eq_false hl]
      cases g
      · skip
        go_enter Tryz.func129, Tryz.ntmps129
        go_wp2_with (go_at_call 137; refine (Hg.out).mono ?_; rintro e w1 ⟨rfl, hb1⟩; have Hb1 := hide (Hb0.out.trans (hb1.mono Hb0.out.size)); have Kf := hide (Hkf.out.below hb1); have Ks := hide (Hks.out.below hb1); have p1 := Kf.out.cell 1; have q0 := Ks.out.cell 0; have q1 := Ks.out.cell 1; have q2 := Ks.out.cell 2; have q3 := Ks.out.cell 3; have q4 := Ks.out.cell 4; clear hb1)
        go_ret
        exact ⟨retB (by first | rfl | simp), Hb1.out⟩
      · skip
        go_enter Tryz.func129, Tryz.ntmps129
        go_wp2_with (go_at_call 137; refine (Hg.out).mono ?_; rintro e w1 ⟨rfl, hb1⟩; have Hb1 := hide (Hb0.out.trans (hb1.mono Hb0.out.size)); have Kf := hide (Hkf.out.below hb1); have Ks := hide (Hks.out.below hb1); have p1 := Kf.out.cell 1; have q0 := Ks.out.cell 0; have q1 := Ks.out.cell 1; have q2 := Ks.out.cell 2; have q3 := Ks.out.cell 3; have q4 := Ks.out.cell 4; clear hb1)
        go_ret
        exact ⟨retB (by first | rfl | simp), Hb1.out⟩
  · have bN : (N == 0) = false := by rw [beq_eq_false_iff_ne]; exact hN
    try rw [decide_eq_false hN]
    clear hN
    cases g
    · skip
      go_enter Tryz.func129, Tryz.ntmps129
      go_wp2_with (go_at_call 137; refine (Hg.out).mono ?_; rintro e w1 ⟨rfl, hb1⟩; have Hb1 := hide (Hb0.out.trans (hb1.mono Hb0.out.size)); have Kf := hide (Hkf.out.below hb1); have Ks := hide (Hks.out.below hb1); have p1 := Kf.out.cell 1; have q0 := Ks.out.cell 0; have q1 := Ks.out.cell 1; have q2 := Ks.out.cell 2; have q3 := Ks.out.cell 3; have q4 := Ks.out.cell 4; clear hb1)
      go_ret
      exact ⟨retB (by first | rfl | simp), Hb1.out⟩
    · skip
      go_enter Tryz.func129, Tryz.ntmps129
      go_wp2_with (go_at_call 137; refine (Hg.out).mono ?_; rintro e w1 ⟨rfl, hb1⟩; have Hb1 := hide (Hb0.out.trans (hb1.mono Hb0.out.size)); have Kf := hide (Hkf.out.below hb1); have Ks := hide (Hks.out.below hb1); have p1 := Kf.out.cell 1; have q0 := Ks.out.cell 0; have q1 := Ks.out.cell 1; have q2 := Ks.out.cell 2; have q3 := Ks.out.cell 3; have q4 := Ks.out.cell 4; clear hb1)
      go_ret
      exact ⟨retB (by first | rfl | simp), Hb1.out⟩
set_option maxHeartbeats 6400000 in
theorem spec_l3Stmt9 (a0 vars : Int) (x2 x3 : Value) (N : Int) (ex : List P2) (A5 A6 A7 : Option Addr) (c5 c6 c7 n3 n4 : Nat) (params : List Int) (pv : Value) (w : World) (g : Bool)
    (hg : Calls Tryz.prog 137 #[.slice A5 ex.length c5, .int .i64 vars, pv] (W0 a0 vars x2 x3 9 N (.slice A5 ex.length c5) (.slice A6 n3 c6) (.slice A7 n4 c7) w) fun e w' => e = .returned (.bool g) ∧ Below (W0 a0 vars x2 x3 9 N (.slice A5 ex.length c5) (.slice A6 n3 c6) (.slice A7 n4 c7) w).heap.size (W0 a0 vars x2 x3 9 N (.slice A5 ex.length c5) (.slice A6 n3 c6) (.slice A7 n4 c7) w) w')
    (hpv : ∃ Ap cp, pv = .slice Ap params.length cp) (hpl : params.length ≤ 100) (hell : ex.length ≤ 9223372036854775807) (hn3 : n3 ≤ 1048576) (hn4 : n4 ≤ 1048576) (hv1 : -1000 ≤ vars) (hv2 : vars ≤ 1000) :
    Calls Tryz.prog 129 #[.agg #[.int .i64 a0, .int .i64 vars, x2, x3], .agg #[.int .i64 9, .int .i64 N, .slice A5 ex.length c5, .slice A6 n3 c6, .slice A7 n4 c7], pv] w fun e w' => e = .returned (.bool (g && (decide (N = 0) && decide (n3 + n4 = 0)))) ∧ Below w.heap.size w w' := by
  obtain ⟨Ap, cp, rfl⟩ := hpv
  have hb0 := ((Below.refl w.heap.size w).alloc (Nat.le_refl _) (.cells #[.int .i64 a0, .int .i64 vars, x2, x3] 135)).alloc (by rw [World.size_alloc]; omega) (.cells #[.int .i64 9, .int .i64 N, .slice A5 ex.length c5, .slice A6 n3 c6, .slice A7 n4 c7] 140)
  have hkf := (Bk.new w 135 #[.int .i64 a0, .int .i64 vars, x2, x3]).alloc (.cells #[.int .i64 9, .int .i64 N, .slice A5 ex.length c5, .slice A6 n3 c6, .slice A7 n4 c7] 140)
  have hks := Bk.new (w.alloc (.cells #[.int .i64 a0, .int .i64 vars, x2, x3] 135)) 140 #[.int .i64 9, .int .i64 N, .slice A5 ex.length c5, .slice A6 n3 c6, .slice A7 n4 c7]
  rw [World.size_alloc] at hks
  try unfold W0 at hg
  have hwn := fun w => spec_l1In N 0 (params.length - 1) w
  have hwv := fun w => spec_l1In N 0 (vars - 1) w
  have Hb0 := hide hb0; have Hkf := hide hkf; have Hks := hide hks; have Hg := hide hg
  clear hb0 hkf hks hg
  clear hwn hwv
  by_cases hN : N = 0
  · subst hN
    by_cases hl : n3 + n4 = 0
    · obtain ⟨rfl, rfl⟩ : n3 = 0 ∧ n4 = 0 := by omega
      clear hl hn3 hn4
      cases g
      · skip
        go_enter Tryz.func129, Tryz.ntmps129
        go_wp2_with (go_at_call 137; refine (Hg.out).mono ?_; rintro e w1 ⟨rfl, hb1⟩; have Hb1 := hide (Hb0.out.trans (hb1.mono Hb0.out.size)); have Kf := hide (Hkf.out.below hb1); have Ks := hide (Hks.out.below hb1); have p1 := Kf.out.cell 1; have q0 := Ks.out.cell 0; have q1 := Ks.out.cell 1; have q2 := Ks.out.cell 2; have q3 := Ks.out.cell 3; have q4 := Ks.out.cell 4; clear hb1)
        go_ret
        exact ⟨retB (by first | rfl | simp), Hb1.out⟩
      · skip
        go_enter Tryz.func129, Tryz.ntmps129
        go_wp2_with (go_at_call 137; refine (Hg.out).mono ?_; rintro e w1 ⟨rfl, hb1⟩; have Hb1 := hide (Hb0.out.trans (hb1.mono Hb0.out.size)); have Kf := hide (Hkf.out.below hb1); have Ks := hide (Hks.out.below hb1); have p1 := Kf.out.cell 1; have q0 := Ks.out.cell 0; have q1 := Ks.out.cell 1; have q2 := Ks.out.cell 2; have q3 := Ks.out.cell 3; have q4 := Ks.out.cell 4; clear hb1)
        go_ret
        exact ⟨retB (by first | rfl | simp), Hb1.out⟩
    · have bl : ((n3 : Int) + (n4 : Int) == 0) = false := by rw [beq_eq_false_iff_ne]; omega
      try rw [decide_eq_false hl]
      cases g
      · skip
        go_enter Tryz.func129, Tryz.ntmps129
        go_wp2_with (go_at_call 137; refine (Hg.out).mono ?_; rintro e w1 ⟨rfl, hb1⟩; have Hb1 := hide (Hb0.out.trans (hb1.mono Hb0.out.size)); have Kf := hide (Hkf.out.below hb1); have Ks := hide (Hks.out.below hb1); have p1 := Kf.out.cell 1; have q0 := Ks.out.cell 0; have q1 := Ks.out.cell 1; have q2 := Ks.out.cell 2; have q3 := Ks.out.cell 3; have q4 := Ks.out.cell 4; clear hb1)
        go_ret
        exact ⟨retB (by first | rfl | simp), Hb1.out⟩
      · skip
        go_enter Tryz.func129, Tryz.ntmps129
        go_wp2_with (go_at_call 137; refine (Hg.out).mono ?_; rintro e w1 ⟨rfl, hb1⟩; have Hb1 := hide (Hb0.out.trans (hb1.mono Hb0.out.size)); have Kf := hide (Hkf.out.below hb1); have Ks := hide (Hks.out.below hb1); have p1 := Kf.out.cell 1; have q0 := Ks.out.cell 0; have q1 := Ks.out.cell 1; have q2 := Ks.out.cell 2; have q3 := Ks.out.cell 3; have q4 := Ks.out.cell 4; clear hb1)
        go_ret
        exact ⟨retB (by first | rfl | simp), Hb1.out⟩
  · have bN : (N == 0) = false := by rw [beq_eq_false_iff_ne]; exact hN
    try rw [decide_eq_false hN]
    clear hN
    cases g
    · skip
      go_enter Tryz.func129, Tryz.ntmps129
      go_wp2_with (go_at_call 137; refine (Hg.out).mono ?_; rintro e w1 ⟨rfl, hb1⟩; have Hb1 := hide (Hb0.out.trans (hb1.mono Hb0.out.size)); have Kf := hide (Hkf.out.below hb1); have Ks := hide (Hks.out.below hb1); have p1 := Kf.out.cell 1; have q0 := Ks.out.cell 0; have q1 := Ks.out.cell 1; have q2 := Ks.out.cell 2; have q3 := Ks.out.cell 3; have q4 := Ks.out.cell 4; clear hb1)
      go_ret
      exact ⟨retB (by first | rfl | simp), Hb1.out⟩
    · skip
      go_enter Tryz.func129, Tryz.ntmps129
      go_wp2_with (go_at_call 137; refine (Hg.out).mono ?_; rintro e w1 ⟨rfl, hb1⟩; have Hb1 := hide (Hb0.out.trans (hb1.mono Hb0.out.size)); have Kf := hide (Hkf.out.below hb1); have Ks := hide (Hks.out.below hb1); have p1 := Kf.out.cell 1; have q0 := Ks.out.cell 0; have q1 := Ks.out.cell 1; have q2 := Ks.out.cell 2; have q3 := Ks.out.cell 3; have q4 := Ks.out.cell 4; clear hb1)
      go_ret
      exact ⟨retB (by first | rfl | simp), Hb1.out⟩
end Go.Proofs.YtgkjakoagdkpcaaGreatDoor
set_option linter.unusedSimpArgs false
set_option linter.unusedVariables false
set_option maxRecDepth 100000
namespace Go.Proofs.YtgkjakoagdkpcaaGreatDoor
open Go.RowKit

set_option maxHeartbeats 6400000 in
theorem spec_l3Stmt3 (a0 vars : Int) (x2 x3 : Value) (N : Int) (ex : List P2) (A5 A6 A7 : Option Addr) (c5 c6 c7 n3 n4 : Nat) (params : List Int) (pv : Value) (w : World) (g : Bool)
    (hg : Calls Tryz.prog 137 #[.slice A5 ex.length c5, .int .i64 vars, pv] (W0 a0 vars x2 x3 3 N (.slice A5 ex.length c5) (.slice A6 n3 c6) (.slice A7 n4 c7) w) fun e w' => e = .returned (.bool g) ∧ Below (W0 a0 vars x2 x3 3 N (.slice A5 ex.length c5) (.slice A6 n3 c6) (.slice A7 n4 c7) w).heap.size (W0 a0 vars x2 x3 3 N (.slice A5 ex.length c5) (.slice A6 n3 c6) (.slice A7 n4 c7) w) w')
    (hpv : ∃ Ap cp, pv = .slice Ap params.length cp) (hpl : params.length ≤ 100) (hell : ex.length ≤ 9223372036854775807) (hn3 : n3 ≤ 1048576) (hn4 : n4 ≤ 1048576) (hv1 : -1000 ≤ vars) (hv2 : vars ≤ 1000) :
    Calls Tryz.prog 129 #[.agg #[.int .i64 a0, .int .i64 vars, x2, x3], .agg #[.int .i64 3, .int .i64 N, .slice A5 ex.length c5, .slice A6 n3 c6, .slice A7 n4 c7], pv] w fun e w' => e = .returned (.bool (decide (ex.length = 0) && (inB N 0 (params.length - 1) && decide (n3 + n4 = 0)))) ∧ Below w.heap.size w w' := by
  obtain ⟨Ap, cp, rfl⟩ := hpv
  have hb0 := ((Below.refl w.heap.size w).alloc (Nat.le_refl _) (.cells #[.int .i64 a0, .int .i64 vars, x2, x3] 135)).alloc (by rw [World.size_alloc]; omega) (.cells #[.int .i64 3, .int .i64 N, .slice A5 ex.length c5, .slice A6 n3 c6, .slice A7 n4 c7] 140)
  have hkf := (Bk.new w 135 #[.int .i64 a0, .int .i64 vars, x2, x3]).alloc (.cells #[.int .i64 3, .int .i64 N, .slice A5 ex.length c5, .slice A6 n3 c6, .slice A7 n4 c7] 140)
  have hks := Bk.new (w.alloc (.cells #[.int .i64 a0, .int .i64 vars, x2, x3] 135)) 140 #[.int .i64 3, .int .i64 N, .slice A5 ex.length c5, .slice A6 n3 c6, .slice A7 n4 c7]
  rw [World.size_alloc] at hks
  try unfold W0 at hg
  have hwn := fun w => spec_l1In N 0 (params.length - 1) w
  have hwv := fun w => spec_l1In N 0 (vars - 1) w
  have Hb0 := hide hb0; have Hkf := hide hkf; have Hks := hide hks; have Hg := hide hg
  clear hb0 hkf hks hg
  cases hin : inB N 0 (params.length - 1)
  · simp only [hin] at hwn
    have HW := Lib.hid hwn; clear hwn hwv hin
    by_cases he : ex.length = 0
    · have be : ((ex.length : Int) == 0) = true := by rw [beq_iff_eq]; omega
      have be2 : (ex.length == 0) = true := by rw [beq_iff_eq]; omega
      rw [decide_eq_true he]; clear he
      by_cases hl : n3 + n4 = 0
      · obtain ⟨rfl, rfl⟩ : n3 = 0 ∧ n4 = 0 := by omega
        clear hl hn3 hn4
        by_cases hN : N = 0
        · subst hN
          go_enter Tryz.func129, Tryz.ntmps129
          go_wp2_with (first
              | (go_at_call 137; refine (Hg.out).mono ?_; rintro e w1 ⟨rfl, hb1⟩; have Hb1 := hide (Hb0.out.trans (hb1.mono Hb0.out.size)); have Kf := hide (Hkf.out.below hb1); have Ks := hide (Hks.out.below hb1); have p1 := Kf.out.cell 1; have q0 := Ks.out.cell 0; have q1 := Ks.out.cell 1; have q2 := Ks.out.cell 2; have q3 := Ks.out.cell 3; have q4 := Ks.out.cell 4; clear hb1)
              | (go_at_call 28; refine (HW.out _).mono ?_; rintro e w' ⟨rfl, rfl⟩))
          go_ret
          exact ⟨retB (by first | rfl | simp), Hb1.out⟩
        · have bN : (N == 0) = false := by rw [beq_eq_false_iff_ne]; exact hN
          clear hN
          go_enter Tryz.func129, Tryz.ntmps129
          go_wp2_with (first
              | (go_at_call 137; refine (Hg.out).mono ?_; rintro e w1 ⟨rfl, hb1⟩; have Hb1 := hide (Hb0.out.trans (hb1.mono Hb0.out.size)); have Kf := hide (Hkf.out.below hb1); have Ks := hide (Hks.out.below hb1); have p1 := Kf.out.cell 1; have q0 := Ks.out.cell 0; have q1 := Ks.out.cell 1; have q2 := Ks.out.cell 2; have q3 := Ks.out.cell 3; have q4 := Ks.out.cell 4; clear hb1)
              | (go_at_call 28; refine (HW.out _).mono ?_; rintro e w' ⟨rfl, rfl⟩))
          go_ret
          exact ⟨retB (by first | rfl | simp), Hb1.out⟩
      · rw [decide_eq_false hl]
        have bl : ((n3 : Int) + (n4 : Int) == 0) = false := by rw [beq_eq_false_iff_ne]; omega
        clear hl
        by_cases hN : N = 0
        · subst hN
          go_enter Tryz.func129, Tryz.ntmps129
          go_wp2_with (first
              | (go_at_call 137; refine (Hg.out).mono ?_; rintro e w1 ⟨rfl, hb1⟩; have Hb1 := hide (Hb0.out.trans (hb1.mono Hb0.out.size)); have Kf := hide (Hkf.out.below hb1); have Ks := hide (Hks.out.below hb1); have p1 := Kf.out.cell 1; have q0 := Ks.out.cell 0; have q1 := Ks.out.cell 1; have q2 := Ks.out.cell 2; have q3 := Ks.out.cell 3; have q4 := Ks.out.cell 4; clear hb1)
              | (go_at_call 28; refine (HW.out _).mono ?_; rintro e w' ⟨rfl, rfl⟩))
          go_ret
          exact ⟨retB (by first | rfl | simp), Hb1.out⟩
        · have bN : (N == 0) = false := by rw [beq_eq_false_iff_ne]; exact hN
          clear hN
          go_enter Tryz.func129, Tryz.ntmps129
          go_wp2_with (first
              | (go_at_call 137; refine (Hg.out).mono ?_; rintro e w1 ⟨rfl, hb1⟩; have Hb1 := hide (Hb0.out.trans (hb1.mono Hb0.out.size)); have Kf := hide (Hkf.out.below hb1); have Ks := hide (Hks.out.below hb1); have p1 := Kf.out.cell 1; have q0 := Ks.out.cell 0; have q1 := Ks.out.cell 1; have q2 := Ks.out.cell 2; have q3 := Ks.out.cell 3; have q4 := Ks.out.cell 4; clear hb1)
              | (go_at_call 28; refine (HW.out _).mono ?_; rintro e w' ⟨rfl, rfl⟩))
          go_ret
          exact ⟨retB (by first | rfl | simp), Hb1.out⟩
    · have be : ((ex.length : Int) == 0) = false := by rw [beq_eq_false_iff_ne]; omega
      have be2 : (ex.length == 0) = false := by rw [beq_eq_false_iff_ne]; omega
      rw [decide_eq_false he]; clear he
      by_cases hl : n3 + n4 = 0
      · obtain ⟨rfl, rfl⟩ : n3 = 0 ∧ n4 = 0 := by omega
        clear hl hn3 hn4
        by_cases hN : N = 0
        · subst hN
          go_enter Tryz.func129, Tryz.ntmps129
          go_wp2_with (first
              | (go_at_call 137; refine (Hg.out).mono ?_; rintro e w1 ⟨rfl, hb1⟩; have Hb1 := hide (Hb0.out.trans (hb1.mono Hb0.out.size)); have Kf := hide (Hkf.out.below hb1); have Ks := hide (Hks.out.below hb1); have p1 := Kf.out.cell 1; have q0 := Ks.out.cell 0; have q1 := Ks.out.cell 1; have q2 := Ks.out.cell 2; have q3 := Ks.out.cell 3; have q4 := Ks.out.cell 4; clear hb1)
              | (go_at_call 28; refine (HW.out _).mono ?_; rintro e w' ⟨rfl, rfl⟩))
          go_ret
          exact ⟨retB (by first | rfl | simp), Hb1.out⟩
        · have bN : (N == 0) = false := by rw [beq_eq_false_iff_ne]; exact hN
          clear hN
          go_enter Tryz.func129, Tryz.ntmps129
          go_wp2_with (first
              | (go_at_call 137; refine (Hg.out).mono ?_; rintro e w1 ⟨rfl, hb1⟩; have Hb1 := hide (Hb0.out.trans (hb1.mono Hb0.out.size)); have Kf := hide (Hkf.out.below hb1); have Ks := hide (Hks.out.below hb1); have p1 := Kf.out.cell 1; have q0 := Ks.out.cell 0; have q1 := Ks.out.cell 1; have q2 := Ks.out.cell 2; have q3 := Ks.out.cell 3; have q4 := Ks.out.cell 4; clear hb1)
              | (go_at_call 28; refine (HW.out _).mono ?_; rintro e w' ⟨rfl, rfl⟩))
          go_ret
          exact ⟨retB (by first | rfl | simp), Hb1.out⟩
      · rw [decide_eq_false hl]
        have bl : ((n3 : Int) + (n4 : Int) == 0) = false := by rw [beq_eq_false_iff_ne]; omega
        clear hl
        by_cases hN : N = 0
        · subst hN
          go_enter Tryz.func129, Tryz.ntmps129
          go_wp2_with (first
              | (go_at_call 137; refine (Hg.out).mono ?_; rintro e w1 ⟨rfl, hb1⟩; have Hb1 := hide (Hb0.out.trans (hb1.mono Hb0.out.size)); have Kf := hide (Hkf.out.below hb1); have Ks := hide (Hks.out.below hb1); have p1 := Kf.out.cell 1; have q0 := Ks.out.cell 0; have q1 := Ks.out.cell 1; have q2 := Ks.out.cell 2; have q3 := Ks.out.cell 3; have q4 := Ks.out.cell 4; clear hb1)
              | (go_at_call 28; refine (HW.out _).mono ?_; rintro e w' ⟨rfl, rfl⟩))
          go_ret
          exact ⟨retB (by first | rfl | simp), Hb1.out⟩
        · have bN : (N == 0) = false := by rw [beq_eq_false_iff_ne]; exact hN
          clear hN
          go_enter Tryz.func129, Tryz.ntmps129
          go_wp2_with (first
              | (go_at_call 137; refine (Hg.out).mono ?_; rintro e w1 ⟨rfl, hb1⟩; have Hb1 := hide (Hb0.out.trans (hb1.mono Hb0.out.size)); have Kf := hide (Hkf.out.below hb1); have Ks := hide (Hks.out.below hb1); have p1 := Kf.out.cell 1; have q0 := Ks.out.cell 0; have q1 := Ks.out.cell 1; have q2 := Ks.out.cell 2; have q3 := Ks.out.cell 3; have q4 := Ks.out.cell 4; clear hb1)
              | (go_at_call 28; refine (HW.out _).mono ?_; rintro e w' ⟨rfl, rfl⟩))
          go_ret
          exact ⟨retB (by first | rfl | simp), Hb1.out⟩
  · simp only [hin] at hwn
    have HW := Lib.hid hwn; clear hwn hwv hin
    by_cases he : ex.length = 0
    · have be : ((ex.length : Int) == 0) = true := by rw [beq_iff_eq]; omega
      have be2 : (ex.length == 0) = true := by rw [beq_iff_eq]; omega
      rw [decide_eq_true he]; clear he
      by_cases hl : n3 + n4 = 0
      · obtain ⟨rfl, rfl⟩ : n3 = 0 ∧ n4 = 0 := by omega
        clear hl hn3 hn4
        by_cases hN : N = 0
        · subst hN
          go_enter Tryz.func129, Tryz.ntmps129
          go_wp2_with (first
              | (go_at_call 137; refine (Hg.out).mono ?_; rintro e w1 ⟨rfl, hb1⟩; have Hb1 := hide (Hb0.out.trans (hb1.mono Hb0.out.size)); have Kf := hide (Hkf.out.below hb1); have Ks := hide (Hks.out.below hb1); have p1 := Kf.out.cell 1; have q0 := Ks.out.cell 0; have q1 := Ks.out.cell 1; have q2 := Ks.out.cell 2; have q3 := Ks.out.cell 3; have q4 := Ks.out.cell 4; clear hb1)
              | (go_at_call 28; refine (HW.out _).mono ?_; rintro e w' ⟨rfl, rfl⟩))
          go_ret
          exact ⟨retB (by first | rfl | simp), Hb1.out⟩
        · have bN : (N == 0) = false := by rw [beq_eq_false_iff_ne]; exact hN
          clear hN
          go_enter Tryz.func129, Tryz.ntmps129
          go_wp2_with (first
              | (go_at_call 137; refine (Hg.out).mono ?_; rintro e w1 ⟨rfl, hb1⟩; have Hb1 := hide (Hb0.out.trans (hb1.mono Hb0.out.size)); have Kf := hide (Hkf.out.below hb1); have Ks := hide (Hks.out.below hb1); have p1 := Kf.out.cell 1; have q0 := Ks.out.cell 0; have q1 := Ks.out.cell 1; have q2 := Ks.out.cell 2; have q3 := Ks.out.cell 3; have q4 := Ks.out.cell 4; clear hb1)
              | (go_at_call 28; refine (HW.out _).mono ?_; rintro e w' ⟨rfl, rfl⟩))
          go_ret
          exact ⟨retB (by first | rfl | simp), Hb1.out⟩
      · rw [decide_eq_false hl]
        have bl : ((n3 : Int) + (n4 : Int) == 0) = false := by rw [beq_eq_false_iff_ne]; omega
        clear hl
        by_cases hN : N = 0
        · subst hN
          go_enter Tryz.func129, Tryz.ntmps129
          go_wp2_with (first
              | (go_at_call 137; refine (Hg.out).mono ?_; rintro e w1 ⟨rfl, hb1⟩; have Hb1 := hide (Hb0.out.trans (hb1.mono Hb0.out.size)); have Kf := hide (Hkf.out.below hb1); have Ks := hide (Hks.out.below hb1); have p1 := Kf.out.cell 1; have q0 := Ks.out.cell 0; have q1 := Ks.out.cell 1; have q2 := Ks.out.cell 2; have q3 := Ks.out.cell 3; have q4 := Ks.out.cell 4; clear hb1)
              | (go_at_call 28; refine (HW.out _).mono ?_; rintro e w' ⟨rfl, rfl⟩))
          go_ret
          exact ⟨retB (by first | rfl | simp), Hb1.out⟩
        · have bN : (N == 0) = false := by rw [beq_eq_false_iff_ne]; exact hN
          clear hN
          go_enter Tryz.func129, Tryz.ntmps129
          go_wp2_with (first
              | (go_at_call 137; refine (Hg.out).mono ?_; rintro e w1 ⟨rfl, hb1⟩; have Hb1 := hide (Hb0.out.trans (hb1.mono Hb0.out.size)); have Kf := hide (Hkf.out.below hb1); have Ks := hide (Hks.out.below hb1); have p1 := Kf.out.cell 1; have q0 := Ks.out.cell 0; have q1 := Ks.out.cell 1; have q2 := Ks.out.cell 2; have q3 := Ks.out.cell 3; have q4 := Ks.out.cell 4; clear hb1)
              | (go_at_call 28; refine (HW.out _).mono ?_; rintro e w' ⟨rfl, rfl⟩))
          go_ret
          exact ⟨retB (by first | rfl | simp), Hb1.out⟩
    · have be : ((ex.length : Int) == 0) = false := by rw [beq_eq_false_iff_ne]; omega
      have be2 : (ex.length == 0) = false := by rw [beq_eq_false_iff_ne]; omega
      rw [decide_eq_false he]; clear he
      by_cases hl : n3 + n4 = 0
      · obtain ⟨rfl, rfl⟩ : n3 = 0 ∧ n4 = 0 := by omega
        clear hl hn3 hn4
        by_cases hN : N = 0
        · subst hN
          go_enter Tryz.func129, Tryz.ntmps129
          go_wp2_with (first
              | (go_at_call 137; refine (Hg.out).mono ?_; rintro e w1 ⟨rfl, hb1⟩; have Hb1 := hide (Hb0.out.trans (hb1.mono Hb0.out.size)); have Kf := hide (Hkf.out.below hb1); have Ks := hide (Hks.out.below hb1); have p1 := Kf.out.cell 1; have q0 := Ks.out.cell 0; have q1 := Ks.out.cell 1; have q2 := Ks.out.cell 2; have q3 := Ks.out.cell 3; have q4 := Ks.out.cell 4; clear hb1)
              | (go_at_call 28; refine (HW.out _).mono ?_; rintro e w' ⟨rfl, rfl⟩))
          go_ret
          exact ⟨retB (by first | rfl | simp), Hb1.out⟩
        · have bN : (N == 0) = false := by rw [beq_eq_false_iff_ne]; exact hN
          clear hN
          go_enter Tryz.func129, Tryz.ntmps129
          go_wp2_with (first
              | (go_at_call 137; refine (Hg.out).mono ?_; rintro e w1 ⟨rfl, hb1⟩; have Hb1 := hide (Hb0.out.trans (hb1.mono Hb0.out.size)); have Kf := hide (Hkf.out.below hb1); have Ks := hide (Hks.out.below hb1); have p1 := Kf.out.cell 1; have q0 := Ks.out.cell 0; have q1 := Ks.out.cell 1; have q2 := Ks.out.cell 2; have q3 := Ks.out.cell 3; have q4 := Ks.out.cell 4; clear hb1)
              | (go_at_call 28; refine (HW.out _).mono ?_; rintro e w' ⟨rfl, rfl⟩))
          go_ret
          exact ⟨retB (by first | rfl | simp), Hb1.out⟩
      · rw [decide_eq_false hl]
        have bl : ((n3 : Int) + (n4 : Int) == 0) = false := by rw [beq_eq_false_iff_ne]; omega
        clear hl
        by_cases hN : N = 0
        · subst hN
          go_enter Tryz.func129, Tryz.ntmps129
          go_wp2_with (first
              | (go_at_call 137; refine (Hg.out).mono ?_; rintro e w1 ⟨rfl, hb1⟩; have Hb1 := hide (Hb0.out.trans (hb1.mono Hb0.out.size)); have Kf := hide (Hkf.out.below hb1); have Ks := hide (Hks.out.below hb1); have p1 := Kf.out.cell 1; have q0 := Ks.out.cell 0; have q1 := Ks.out.cell 1; have q2 := Ks.out.cell 2; have q3 := Ks.out.cell 3; have q4 := Ks.out.cell 4; clear hb1)
              | (go_at_call 28; refine (HW.out _).mono ?_; rintro e w' ⟨rfl, rfl⟩))
          go_ret
          exact ⟨retB (by first | rfl | simp), Hb1.out⟩
        · have bN : (N == 0) = false := by rw [beq_eq_false_iff_ne]; exact hN
          clear hN
          go_enter Tryz.func129, Tryz.ntmps129
          go_wp2_with (first
              | (go_at_call 137; refine (Hg.out).mono ?_; rintro e w1 ⟨rfl, hb1⟩; have Hb1 := hide (Hb0.out.trans (hb1.mono Hb0.out.size)); have Kf := hide (Hkf.out.below hb1); have Ks := hide (Hks.out.below hb1); have p1 := Kf.out.cell 1; have q0 := Ks.out.cell 0; have q1 := Ks.out.cell 1; have q2 := Ks.out.cell 2; have q3 := Ks.out.cell 3; have q4 := Ks.out.cell 4; clear hb1)
              | (go_at_call 28; refine (HW.out _).mono ?_; rintro e w' ⟨rfl, rfl⟩))
          go_ret
          exact ⟨retB (by first | rfl | simp), Hb1.out⟩
set_option maxHeartbeats 6400000 in
theorem spec_l3Stmt6 (a0 vars : Int) (x2 x3 : Value) (N : Int) (ex : List P2) (A5 A6 A7 : Option Addr) (c5 c6 c7 n3 n4 : Nat) (params : List Int) (pv : Value) (w : World) (g : Bool)
    (hg : Calls Tryz.prog 137 #[.slice A5 ex.length c5, .int .i64 vars, pv] (W0 a0 vars x2 x3 6 N (.slice A5 ex.length c5) (.slice A6 n3 c6) (.slice A7 n4 c7) w) fun e w' => e = .returned (.bool g) ∧ Below (W0 a0 vars x2 x3 6 N (.slice A5 ex.length c5) (.slice A6 n3 c6) (.slice A7 n4 c7) w).heap.size (W0 a0 vars x2 x3 6 N (.slice A5 ex.length c5) (.slice A6 n3 c6) (.slice A7 n4 c7) w) w')
    (hpv : ∃ Ap cp, pv = .slice Ap params.length cp) (hpl : params.length ≤ 100) (hell : ex.length ≤ 9223372036854775807) (hn3 : n3 ≤ 1048576) (hn4 : n4 ≤ 1048576) (hv1 : -1000 ≤ vars) (hv2 : vars ≤ 1000) :
    Calls Tryz.prog 129 #[.agg #[.int .i64 a0, .int .i64 vars, x2, x3], .agg #[.int .i64 6, .int .i64 N, .slice A5 ex.length c5, .slice A6 n3 c6, .slice A7 n4 c7], pv] w fun e w' => e = .returned (.bool (decide (ex.length = 0) && (decide (N = 0) && decide (n3 + n4 = 0)))) ∧ Below w.heap.size w w' := by
  obtain ⟨Ap, cp, rfl⟩ := hpv
  have hb0 := ((Below.refl w.heap.size w).alloc (Nat.le_refl _) (.cells #[.int .i64 a0, .int .i64 vars, x2, x3] 135)).alloc (by rw [World.size_alloc]; omega) (.cells #[.int .i64 6, .int .i64 N, .slice A5 ex.length c5, .slice A6 n3 c6, .slice A7 n4 c7] 140)
  have hkf := (Bk.new w 135 #[.int .i64 a0, .int .i64 vars, x2, x3]).alloc (.cells #[.int .i64 6, .int .i64 N, .slice A5 ex.length c5, .slice A6 n3 c6, .slice A7 n4 c7] 140)
  have hks := Bk.new (w.alloc (.cells #[.int .i64 a0, .int .i64 vars, x2, x3] 135)) 140 #[.int .i64 6, .int .i64 N, .slice A5 ex.length c5, .slice A6 n3 c6, .slice A7 n4 c7]
  rw [World.size_alloc] at hks
  try unfold W0 at hg
  have hwn := fun w => spec_l1In N 0 (params.length - 1) w
  have hwv := fun w => spec_l1In N 0 (vars - 1) w
  have Hb0 := hide hb0; have Hkf := hide hkf; have Hks := hide hks; have Hg := hide hg
  clear hb0 hkf hks hg
  clear hwn hwv
  by_cases he : ex.length = 0
  · have be : ((ex.length : Int) == 0) = true := by rw [beq_iff_eq]; omega
    have be2 : (ex.length == 0) = true := by rw [beq_iff_eq]; omega
    rw [decide_eq_true he]; clear he
    by_cases hN : N = 0
    · subst hN
      by_cases hl : n3 + n4 = 0
      · obtain ⟨rfl, rfl⟩ : n3 = 0 ∧ n4 = 0 := by omega
        clear hl hn3 hn4
        go_enter Tryz.func129, Tryz.ntmps129
        go_wp2_with (go_at_call 137; refine (Hg.out).mono ?_; rintro e w1 ⟨rfl, hb1⟩; have Hb1 := hide (Hb0.out.trans (hb1.mono Hb0.out.size)); have Kf := hide (Hkf.out.below hb1); have Ks := hide (Hks.out.below hb1); have p1 := Kf.out.cell 1; have q0 := Ks.out.cell 0; have q1 := Ks.out.cell 1; have q2 := Ks.out.cell 2; have q3 := Ks.out.cell 3; have q4 := Ks.out.cell 4; clear hb1)
        go_ret
        exact ⟨retB (by first | rfl | simp), Hb1.out⟩
      · have bl : ((n3 : Int) + (n4 : Int) == 0) = false := by rw [beq_eq_false_iff_ne]; omega
        try rw [decide_eq_false hl]
        go_enter Tryz.func129, Tryz.ntmps129
        go_wp2_with (go_at_call 137; refine (Hg.out).mono ?_; rintro e w1 ⟨rfl, hb1⟩; have Hb1 := hide (Hb0.out.trans (hb1.mono Hb0.out.size)); have Kf := hide (Hkf.out.below hb1); have Ks := hide (Hks.out.below hb1); have p1 := Kf.out.cell 1; have q0 := Ks.out.cell 0; have q1 := Ks.out.cell 1; have q2 := Ks.out.cell 2; have q3 := Ks.out.cell 3; have q4 := Ks.out.cell 4; clear hb1)
        go_ret
        exact ⟨retB (by first | rfl | simp), Hb1.out⟩
    · have bN : (N == 0) = false := by rw [beq_eq_false_iff_ne]; exact hN
      try rw [decide_eq_false hN]
      clear hN
      go_enter Tryz.func129, Tryz.ntmps129
      go_wp2_with (go_at_call 137; refine (Hg.out).mono ?_; rintro e w1 ⟨rfl, hb1⟩; have Hb1 := hide (Hb0.out.trans (hb1.mono Hb0.out.size)); have Kf := hide (Hkf.out.below hb1); have Ks := hide (Hks.out.below hb1); have p1 := Kf.out.cell 1; have q0 := Ks.out.cell 0; have q1 := Ks.out.cell 1; have q2 := Ks.out.cell 2; have q3 := Ks.out.cell 3; have q4 := Ks.out.cell 4; clear hb1)
      go_ret
      exact ⟨retB (by first | rfl | simp), Hb1.out⟩
  · have be : ((ex.length : Int) == 0) = false := by rw [beq_eq_false_iff_ne]; omega
    have be2 : (ex.length == 0) = false := by rw [beq_eq_false_iff_ne]; omega
    rw [decide_eq_false he]; clear he
    by_cases hN : N = 0
    · subst hN
      by_cases hl : n3 + n4 = 0
      · obtain ⟨rfl, rfl⟩ : n3 = 0 ∧ n4 = 0 := by omega
        clear hl hn3 hn4
        go_enter Tryz.func129, Tryz.ntmps129
        go_wp2_with (go_at_call 137; refine (Hg.out).mono ?_; rintro e w1 ⟨rfl, hb1⟩; have Hb1 := hide (Hb0.out.trans (hb1.mono Hb0.out.size)); have Kf := hide (Hkf.out.below hb1); have Ks := hide (Hks.out.below hb1); have p1 := Kf.out.cell 1; have q0 := Ks.out.cell 0; have q1 := Ks.out.cell 1; have q2 := Ks.out.cell 2; have q3 := Ks.out.cell 3; have q4 := Ks.out.cell 4; clear hb1)
        go_ret
        exact ⟨retB (by first | rfl | simp), Hb1.out⟩
      · have bl : ((n3 : Int) + (n4 : Int) == 0) = false := by rw [beq_eq_false_iff_ne]; omega
        try rw [decide_eq_false hl]
        go_enter Tryz.func129, Tryz.ntmps129
        go_wp2_with (go_at_call 137; refine (Hg.out).mono ?_; rintro e w1 ⟨rfl, hb1⟩; have Hb1 := hide (Hb0.out.trans (hb1.mono Hb0.out.size)); have Kf := hide (Hkf.out.below hb1); have Ks := hide (Hks.out.below hb1); have p1 := Kf.out.cell 1; have q0 := Ks.out.cell 0; have q1 := Ks.out.cell 1; have q2 := Ks.out.cell 2; have q3 := Ks.out.cell 3; have q4 := Ks.out.cell 4; clear hb1)
        go_ret
        exact ⟨retB (by first | rfl | simp), Hb1.out⟩
    · have bN : (N == 0) = false := by rw [beq_eq_false_iff_ne]; exact hN
      try rw [decide_eq_false hN]
      clear hN
      go_enter Tryz.func129, Tryz.ntmps129
      go_wp2_with (go_at_call 137; refine (Hg.out).mono ?_; rintro e w1 ⟨rfl, hb1⟩; have Hb1 := hide (Hb0.out.trans (hb1.mono Hb0.out.size)); have Kf := hide (Hkf.out.below hb1); have Ks := hide (Hks.out.below hb1); have p1 := Kf.out.cell 1; have q0 := Ks.out.cell 0; have q1 := Ks.out.cell 1; have q2 := Ks.out.cell 2; have q3 := Ks.out.cell 3; have q4 := Ks.out.cell 4; clear hb1)
      go_ret
      exact ⟨retB (by first | rfl | simp), Hb1.out⟩
set_option maxHeartbeats 6400000 in
theorem spec_l3Stmt8 (a0 vars : Int) (x2 x3 : Value) (N : Int) (ex : List P2) (A5 A6 A7 : Option Addr) (c5 c6 c7 n3 n4 : Nat) (params : List Int) (pv : Value) (w : World) (g : Bool)
    (hg : Calls Tryz.prog 137 #[.slice A5 ex.length c5, .int .i64 vars, pv] (W0 a0 vars x2 x3 8 N (.slice A5 ex.length c5) (.slice A6 n3 c6) (.slice A7 n4 c7) w) fun e w' => e = .returned (.bool g) ∧ Below (W0 a0 vars x2 x3 8 N (.slice A5 ex.length c5) (.slice A6 n3 c6) (.slice A7 n4 c7) w).heap.size (W0 a0 vars x2 x3 8 N (.slice A5 ex.length c5) (.slice A6 n3 c6) (.slice A7 n4 c7) w) w')
    (hpv : ∃ Ap cp, pv = .slice Ap params.length cp) (hpl : params.length ≤ 100) (hell : ex.length ≤ 9223372036854775807) (hn3 : n3 ≤ 1048576) (hn4 : n4 ≤ 1048576) (hv1 : -1000 ≤ vars) (hv2 : vars ≤ 1000) :
    Calls Tryz.prog 129 #[.agg #[.int .i64 a0, .int .i64 vars, x2, x3], .agg #[.int .i64 8, .int .i64 N, .slice A5 ex.length c5, .slice A6 n3 c6, .slice A7 n4 c7], pv] w fun e w' => e = .returned (.bool (g && (decide (N = 0) && decide (n4 = 0)))) ∧ Below w.heap.size w w' := by
  obtain ⟨Ap, cp, rfl⟩ := hpv
  have hb0 := ((Below.refl w.heap.size w).alloc (Nat.le_refl _) (.cells #[.int .i64 a0, .int .i64 vars, x2, x3] 135)).alloc (by rw [World.size_alloc]; omega) (.cells #[.int .i64 8, .int .i64 N, .slice A5 ex.length c5, .slice A6 n3 c6, .slice A7 n4 c7] 140)
  have hkf := (Bk.new w 135 #[.int .i64 a0, .int .i64 vars, x2, x3]).alloc (.cells #[.int .i64 8, .int .i64 N, .slice A5 ex.length c5, .slice A6 n3 c6, .slice A7 n4 c7] 140)
  have hks := Bk.new (w.alloc (.cells #[.int .i64 a0, .int .i64 vars, x2, x3] 135)) 140 #[.int .i64 8, .int .i64 N, .slice A5 ex.length c5, .slice A6 n3 c6, .slice A7 n4 c7]
  rw [World.size_alloc] at hks
  try unfold W0 at hg
  have hwn := fun w => spec_l1In N 0 (params.length - 1) w
  have hwv := fun w => spec_l1In N 0 (vars - 1) w
  have Hb0 := hide hb0; have Hkf := hide hkf; have Hks := hide hks; have Hg := hide hg
  clear hb0 hkf hks hg
  clear hwn hwv
  by_cases hN : N = 0
  · subst hN
    by_cases hl : n3 + n4 = 0
    · obtain ⟨rfl, rfl⟩ : n3 = 0 ∧ n4 = 0 := by omega
      clear hl hn3 hn4
      cases g
      · skip
        go_enter Tryz.func129, Tryz.ntmps129
        go_wp2_with (go_at_call 137; refine (Hg.out).mono ?_; rintro e w1 ⟨rfl, hb1⟩; have Hb1 := hide (Hb0.out.trans (hb1.mono Hb0.out.size)); have Kf := hide (Hkf.out.below hb1); have Ks := hide (Hks.out.below hb1); have p1 := Kf.out.cell 1; have q0 := Ks.out.cell 0; have q1 := Ks.out.cell 1; have q2 := Ks.out.cell 2; have q3 := Ks.out.cell 3; have q4 := Ks.out.cell 4; clear hb1)
        go_ret
        exact ⟨retB (by first | rfl | simp), Hb1.out⟩
      · skip
        go_enter Tryz.func129, Tryz.ntmps129
        go_wp2_with (go_at_call 137; refine (Hg.out).mono ?_; rintro e w1 ⟨rfl, hb1⟩; have Hb1 := hide (Hb0.out.trans (hb1.mono Hb0.out.size)); have Kf := hide (Hkf.out.below hb1); have Ks := hide (Hks.out.below hb1); have p1 := Kf.out.cell 1; have q0 := Ks.out.cell 0; have q1 := Ks.out.cell 1; have q2 := Ks.out.cell 2; have q3 := Ks.out.cell 3; have q4 := Ks.out.cell 4; clear hb1)
        go_ret
        exact ⟨retB (by first | rfl | simp), Hb1.out⟩
    · have bl : ((n3 : Int) + (n4 : Int) == 0) = false := by rw [beq_eq_false_iff_ne]; omega
      cases g
      · skip
        by_cases h4 : n4 = 0
        · subst h4
          go_enter Tryz.func129, Tryz.ntmps129
          go_wp2_with (go_at_call 137; refine (Hg.out).mono ?_; rintro e w1 ⟨rfl, hb1⟩; have Hb1 := hide (Hb0.out.trans (hb1.mono Hb0.out.size)); have Kf := hide (Hkf.out.below hb1); have Ks := hide (Hks.out.below hb1); have p1 := Kf.out.cell 1; have q0 := Ks.out.cell 0; have q1 := Ks.out.cell 1; have q2 := Ks.out.cell 2; have q3 := Ks.out.cell 3; have q4 := Ks.out.cell 4; clear hb1)
          go_ret
          exact ⟨retB (by first | rfl | simp), Hb1.out⟩
        · rw [decide_eq_false h4]
          have bl2 : ((n4 : Int) == 0) = false := by rw [beq_eq_false_iff_ne]; omega
          have bl3 : (n4 == 0) = false := by rw [beq_eq_false_iff_ne]; omega
          clear h4
          go_enter Tryz.func129, Tryz.ntmps129
          go_wp2_with (go_at_call 137; refine (Hg.out).mono ?_; rintro e w1 ⟨rfl, hb1⟩; have Hb1 := hide (Hb0.out.trans (hb1.mono Hb0.out.size)); have Kf := hide (Hkf.out.below hb1); have Ks := hide (Hks.out.below hb1); have p1 := Kf.out.cell 1; have q0 := Ks.out.cell 0; have q1 := Ks.out.cell 1; have q2 := Ks.out.cell 2; have q3 := Ks.out.cell 3; have q4 := Ks.out.cell 4; clear hb1)
          go_ret
          exact ⟨retB (by first | rfl | simp), Hb1.out⟩
      · skip
        by_cases h4 : n4 = 0
        · subst h4
          go_enter Tryz.func129, Tryz.ntmps129
          go_wp2_with (go_at_call 137; refine (Hg.out).mono ?_; rintro e w1 ⟨rfl, hb1⟩; have Hb1 := hide (Hb0.out.trans (hb1.mono Hb0.out.size)); have Kf := hide (Hkf.out.below hb1); have Ks := hide (Hks.out.below hb1); have p1 := Kf.out.cell 1; have q0 := Ks.out.cell 0; have q1 := Ks.out.cell 1; have q2 := Ks.out.cell 2; have q3 := Ks.out.cell 3; have q4 := Ks.out.cell 4; clear hb1)
          go_ret
          exact ⟨retB (by first | rfl | simp), Hb1.out⟩
        · rw [decide_eq_false h4]
          have bl2 : ((n4 : Int) == 0) = false := by rw [beq_eq_false_iff_ne]; omega
          have bl3 : (n4 == 0) = false := by rw [beq_eq_false_iff_ne]; omega
          clear h4
          go_enter Tryz.func129, Tryz.ntmps129
          go_wp2_with (go_at_call 137; refine (Hg.out).mono ?_; rintro e w1 ⟨rfl, hb1⟩; have Hb1 := hide (Hb0.out.trans (hb1.mono Hb0.out.size)); have Kf := hide (Hkf.out.below hb1); have Ks := hide (Hks.out.below hb1); have p1 := Kf.out.cell 1; have q0 := Ks.out.cell 0; have q1 := Ks.out.cell 1; have q2 := Ks.out.cell 2; have q3 := Ks.out.cell 3; have q4 := Ks.out.cell 4; clear hb1)
          go_ret
          exact ⟨retB (by first | rfl | simp), Hb1.out⟩
  · have bN : (N == 0) = false := by rw [beq_eq_false_iff_ne]; exact hN
    rw [decide_eq_false hN]; clear hN
    cases g
    · skip
      go_enter Tryz.func129, Tryz.ntmps129
      go_wp2_with (go_at_call 137; refine (Hg.out).mono ?_; rintro e w1 ⟨rfl, hb1⟩; have Hb1 := hide (Hb0.out.trans (hb1.mono Hb0.out.size)); have Kf := hide (Hkf.out.below hb1); have Ks := hide (Hks.out.below hb1); have p1 := Kf.out.cell 1; have q0 := Ks.out.cell 0; have q1 := Ks.out.cell 1; have q2 := Ks.out.cell 2; have q3 := Ks.out.cell 3; have q4 := Ks.out.cell 4; clear hb1)
      go_ret
      exact ⟨retB (by first | rfl | simp), Hb1.out⟩
    · skip
      go_enter Tryz.func129, Tryz.ntmps129
      go_wp2_with (go_at_call 137; refine (Hg.out).mono ?_; rintro e w1 ⟨rfl, hb1⟩; have Hb1 := hide (Hb0.out.trans (hb1.mono Hb0.out.size)); have Kf := hide (Hkf.out.below hb1); have Ks := hide (Hks.out.below hb1); have p1 := Kf.out.cell 1; have q0 := Ks.out.cell 0; have q1 := Ks.out.cell 1; have q2 := Ks.out.cell 2; have q3 := Ks.out.cell 3; have q4 := Ks.out.cell 4; clear hb1)
      go_ret
      exact ⟨retB (by first | rfl | simp), Hb1.out⟩
end Go.Proofs.YtgkjakoagdkpcaaGreatDoor
set_option linter.unusedSimpArgs false
set_option linter.unusedVariables false
set_option maxRecDepth 100000
namespace Go.Proofs.YtgkjakoagdkpcaaGreatDoor
open Go.RowKit

set_option maxHeartbeats 6400000 in
theorem spec_l3Stmt (a0 vars : Int) (x2 x3 : Value) (k N : Int) (ex : List P2) (A5 A6 A7 : Option Addr) (c5 c6 c7 n3 n4 : Nat) (params : List Int) (pv : Value) (w : World)
    (hex : Rd w w.heap.size (.slice A5 ex.length c5) ex.length (pcells ex)) (hp : Rd w w.heap.size pv params.length (icells .i64 params)) (hpl : params.length ≤ 100) (hn3 : n3 ≤ 1048576) (hn4 : n4 ≤ 1048576) (hv1 : -1000 ≤ vars) (hv2 : vars ≤ 1000) :
    Calls Tryz.prog 129 #[.agg #[.int .i64 a0, .int .i64 vars, x2, x3], .agg #[.int .i64 k, .int .i64 N, .slice A5 ex.length c5, .slice A6 n3 c6, .slice A7 n4 c7], pv] w fun e w' => e = .returned (.bool (stmtOkN vars params k N ex n3 n4)) ∧ Below w.heap.size w w' := by
  have hb0 := ((Below.refl w.heap.size w).alloc (Nat.le_refl _) (.cells #[.int .i64 a0, .int .i64 vars, x2, x3] 135)).alloc (by rw [World.size_alloc]; omega) (.cells #[.int .i64 k, .int .i64 N, .slice A5 ex.length c5, .slice A6 n3 c6, .slice A7 n4 c7] 140)
  have hg := spec_GoodExpr (.slice A5 ex.length c5) ex vars pv params _ (hex.here hb0) (hp.here hb0)
  have hpv : ∃ Ap cp, pv = .slice Ap params.length cp := by obtain ⟨Ap, cp, h, _⟩ := hp; exact ⟨Ap, cp, h⟩
  have hell := hex.long
  have hst : ∀ g, goodExpr ex vars params = g → stmtOkN vars params k N ex n3 n4 = (if k = 1 then g && (inB N 0 (vars - 1) && decide (n3 + n4 = 0))
    else if k = 2 ∨ k = 4 ∨ k = 5 ∨ k = 9 then g && (decide (N = 0) && decide (n3 + n4 = 0))
    else if k = 3 then decide (ex.length = 0) && (inB N 0 (params.length - 1) && decide (n3 + n4 = 0))
    else if k = 6 then decide (ex.length = 0) && (decide (N = 0) && decide (n3 + n4 = 0))
    else if k = 7 then g && decide (N = 0)
    else if k = 8 then g && (decide (N = 0) && decide (n4 = 0)) else false) := fun g h => by unfold stmtOkN; rw [h]
  rw [hst _ rfl]
  generalize goodExpr ex vars params = g at *
  by_cases k1 : k = 1
  · subst k1; exact spec_l3Stmt1 a0 vars x2 x3 N ex A5 A6 A7 c5 c6 c7 n3 n4 params pv w g hg hpv hpl hell hn3 hn4 hv1 hv2
  by_cases k2 : k = 2
  · subst k2; exact spec_l3Stmt2 a0 vars x2 x3 N ex A5 A6 A7 c5 c6 c7 n3 n4 params pv w g hg hpv hpl hell hn3 hn4 hv1 hv2
  by_cases k3 : k = 3
  · subst k3; exact spec_l3Stmt3 a0 vars x2 x3 N ex A5 A6 A7 c5 c6 c7 n3 n4 params pv w g hg hpv hpl hell hn3 hn4 hv1 hv2
  by_cases k4 : k = 4
  · subst k4; exact spec_l3Stmt4 a0 vars x2 x3 N ex A5 A6 A7 c5 c6 c7 n3 n4 params pv w g hg hpv hpl hell hn3 hn4 hv1 hv2
  by_cases k5 : k = 5
  · subst k5; exact spec_l3Stmt5 a0 vars x2 x3 N ex A5 A6 A7 c5 c6 c7 n3 n4 params pv w g hg hpv hpl hell hn3 hn4 hv1 hv2
  by_cases k6 : k = 6
  · subst k6; exact spec_l3Stmt6 a0 vars x2 x3 N ex A5 A6 A7 c5 c6 c7 n3 n4 params pv w g hg hpv hpl hell hn3 hn4 hv1 hv2
  by_cases k7 : k = 7
  · subst k7; exact spec_l3Stmt7 a0 vars x2 x3 N ex A5 A6 A7 c5 c6 c7 n3 n4 params pv w g hg hpv hpl hell hn3 hn4 hv1 hv2
  by_cases k8 : k = 8
  · subst k8; exact spec_l3Stmt8 a0 vars x2 x3 N ex A5 A6 A7 c5 c6 c7 n3 n4 params pv w g hg hpv hpl hell hn3 hn4 hv1 hv2
  by_cases k9 : k = 9
  · subst k9; exact spec_l3Stmt9 a0 vars x2 x3 N ex A5 A6 A7 c5 c6 c7 n3 n4 params pv w g hg hpv hpl hell hn3 hn4 hv1 hv2
  rw [if_neg k1, if_neg (by omega), if_neg k3, if_neg k6, if_neg k7, if_neg k8]
  obtain ⟨Ap, cp, rfl⟩ := hpv
  have hb0 := ((Below.refl w.heap.size w).alloc (Nat.le_refl _) (.cells #[.int .i64 a0, .int .i64 vars, x2, x3] 135)).alloc (by rw [World.size_alloc]; omega) (.cells #[.int .i64 k, .int .i64 N, .slice A5 ex.length c5, .slice A6 n3 c6, .slice A7 n4 c7] 140)
  have hkf := (Bk.new w 135 #[.int .i64 a0, .int .i64 vars, x2, x3]).alloc (.cells #[.int .i64 k, .int .i64 N, .slice A5 ex.length c5, .slice A6 n3 c6, .slice A7 n4 c7] 140)
  have hks := Bk.new (w.alloc (.cells #[.int .i64 a0, .int .i64 vars, x2, x3] 135)) 140 #[.int .i64 k, .int .i64 N, .slice A5 ex.length c5, .slice A6 n3 c6, .slice A7 n4 c7]
  rw [World.size_alloc] at hks
  try unfold W0 at hg
  have hwn := fun w => spec_l1In N 0 (params.length - 1) w
  have hwv := fun w => spec_l1In N 0 (vars - 1) w
  have Hb0 := hide hb0; have Hkf := hide hkf; have Hks := hide hks; have Hg := hide hg
  clear hb0 hkf hks hg
  have b1 : (k == 1) = false := by rw [beq_eq_false_iff_ne]; exact k1
  have b2 : (k == 2) = false := by rw [beq_eq_false_iff_ne]; exact k2
  have b3 : (k == 3) = false := by rw [beq_eq_false_iff_ne]; exact k3
  have b4 : (k == 4) = false := by rw [beq_eq_false_iff_ne]; exact k4
  have b5 : (k == 5) = false := by rw [beq_eq_false_iff_ne]; exact k5
  have b6 : (k == 6) = false := by rw [beq_eq_false_iff_ne]; exact k6
  have b7 : (k == 7) = false := by rw [beq_eq_false_iff_ne]; exact k7
  have b8 : (k == 8) = false := by rw [beq_eq_false_iff_ne]; exact k8
  have b9 : (k == 9) = false := by rw [beq_eq_false_iff_ne]; exact k9
  clear k1 k2 k3 k4 k5 k6 k7 k8 k9 hwn hwv hst hb0 hex hp
  by_cases hN : N = 0
  · subst hN
    by_cases hl : n3 + n4 = 0
    · obtain ⟨rfl, rfl⟩ : n3 = 0 ∧ n4 = 0 := by omega
      clear hl hn3 hn4
      go_enter Tryz.func129, Tryz.ntmps129
      go_wp2_with (go_at_call 137; refine (Hg.out).mono ?_; rintro e w1 ⟨rfl, hb1⟩; have Hb1 := hide (Hb0.out.trans (hb1.mono Hb0.out.size)); have Kf := hide (Hkf.out.below hb1); have Ks := hide (Hks.out.below hb1); have p1 := Kf.out.cell 1; have q0 := Ks.out.cell 0; have q1 := Ks.out.cell 1; have q2 := Ks.out.cell 2; have q3 := Ks.out.cell 3; have q4 := Ks.out.cell 4; clear hb1)
      go_ret
      exact ⟨retB (by first | rfl | simp), Hb1.out⟩
    · have bl : ((n3 : Int) + (n4 : Int) == 0) = false := by rw [beq_eq_false_iff_ne]; omega
      try rw [decide_eq_false hl]
      go_enter Tryz.func129, Tryz.ntmps129
      go_wp2_with (go_at_call 137; refine (Hg.out).mono ?_; rintro e w1 ⟨rfl, hb1⟩; have Hb1 := hide (Hb0.out.trans (hb1.mono Hb0.out.size)); have Kf := hide (Hkf.out.below hb1); have Ks := hide (Hks.out.below hb1); have p1 := Kf.out.cell 1; have q0 := Ks.out.cell 0; have q1 := Ks.out.cell 1; have q2 := Ks.out.cell 2; have q3 := Ks.out.cell 3; have q4 := Ks.out.cell 4; clear hb1)
      go_ret
      exact ⟨retB (by first | rfl | simp), Hb1.out⟩
  · have bN : (N == 0) = false := by rw [beq_eq_false_iff_ne]; exact hN
    try rw [decide_eq_false hN]
    clear hN
    go_enter Tryz.func129, Tryz.ntmps129
    go_wp2_with (go_at_call 137; refine (Hg.out).mono ?_; rintro e w1 ⟨rfl, hb1⟩; have Hb1 := hide (Hb0.out.trans (hb1.mono Hb0.out.size)); have Kf := hide (Hkf.out.below hb1); have Ks := hide (Hks.out.below hb1); have p1 := Kf.out.cell 1; have q0 := Ks.out.cell 0; have q1 := Ks.out.cell 1; have q2 := Ks.out.cell 2; have q3 := Ks.out.cell 3; have q4 := Ks.out.cell 4; clear hb1)
    go_ret
    exact ⟨retB (by first | rfl | simp), Hb1.out⟩
end Go.Proofs.YtgkjakoagdkpcaaGreatDoor
