
/- sameFrame: what the Go text returns. No condition. Printed by wip/tools/mk_sv.py. -/
import Derived.Test.YtaebmliolpgmdaaSv0
set_option linter.unusedSimpArgs false
set_option linter.unusedVariables false
set_option maxRecDepth 100000
namespace Go.Proofs.Ytaebmliolpgmdaa
open Go.RowKit

set_option maxHeartbeats 6400000 in
theorem impl_sameFrame (cs cs2 : List Value) (a b : FrameM) (w : World) (hr : RFrame w 0 w.heap.size cs a) (hr2 : RFrame w 0 w.heap.size cs2 b) :
    Calls Try.prog 44 #[.agg cs.toArray, .agg cs2.toArray] w fun e w' => e = .returned (.bool (frB a b)) ∧ Below w.heap.size w w' := by
  obtain ⟨mv3, mv4, mv5, rfl, h3, h4, h5⟩ := hr
  obtain ⟨nv3, nv4, nv5, rfl, g3, g4, g5⟩ := hr2
  obtain ⟨m0, m1, m2, m3, m4, m5, m6, m7, m8, m9, m10⟩ := a
  obtain ⟨n0, n1, n2, n3, n4, n5, n6, n7, n8, n9, n10⟩ := b
  have hR : frB ⟨m0, m1, m2, m3, m4, m5, m6, m7, m8, m9, m10⟩ ⟨n0, n1, n2, n3, n4, n5, n6, n7, n8, n9, n10⟩ = (decide (m0 = n0) && (decide (m1 = n1) && (decide (m2 = n2) && (sameB m3 n3 && (sameB m4 n4 && (sameBB m5 n5 && (decide (m6 = n6) && (decide (m7 = n7) && (decide (m8 = n8) && (decide (m9 = n9) && (decide (m10 = n10)))))))))))) := rfl
  dsimp only at h3 h4 h5 g3 g4 g5 ⊢
  generalize frB ⟨m0, m1, m2, m3, m4, m5, m6, m7, m8, m9, m10⟩ ⟨n0, n1, n2, n3, n4, n5, n6, n7, n8, n9, n10⟩ = R at *
  have hW := ((Below.refl w.heap.size w).alloc (Nat.le_refl _) (.cells #[.int .i64 m0, .int .i64 m1, .int .i64 m2, mv3, mv4, mv5, .int .i64 m6, .int .i64 m7, .int .i64 m8, .int .i64 m9, .bool m10] 74)).alloc (by simp) (.cells #[.int .i64 n0, .int .i64 n1, .int .i64 n2, nv3, nv4, nv5, .int .i64 n6, .int .i64 n7, .int .i64 n8, .int .i64 n9, .bool n10] 74)
  have hP3 : ∀ W, Below w.heap.size w W → Calls Try.prog 45 #[mv3, nv3] W fun e w' => e = .returned (.bool (sameB m3 n3)) ∧ ∃ q, w' = W.drewN q := fun W hW => slices_Equal _ _ _ _ W _ _ _ _ rfl rfl (h3.here hW).rd (g3.here hW).rd
  have hP4 : ∀ W, Below w.heap.size w W → Calls Try.prog 45 #[mv4, nv4] W fun e w' => e = .returned (.bool (sameB m4 n4)) ∧ ∃ q, w' = W.drewN q := fun W hW => slices_Equal _ _ _ _ W _ _ _ _ rfl rfl (h4.here hW).rd (g4.here hW).rd
  have hP5 : ∀ W, Below w.heap.size w W → Calls Try.prog 81 #[mv5, nv5] W fun e w' => e = .returned (.bool (sameBB m5 n5)) ∧ ∃ q, w' = W.drewN q := fun W hW => slices_EqualB _ _ _ _ W _ _ _ _ rfl rfl (h5.here hW).rd (g5.here hW).rd
  generalize hB0 : decide (m0 = n0) = B0 at hR
  generalize hB1 : decide (m1 = n1) = B1 at hR
  generalize hB2 : decide (m2 = n2) = B2 at hR
  generalize sameB m3 n3 = B3 at hR hP3
  generalize sameB m4 n4 = B4 at hR hP4
  generalize sameBB m5 n5 = B5 at hR hP5
  generalize hB6 : decide (m6 = n6) = B6 at hR
  generalize hB7 : decide (m7 = n7) = B7 at hR
  generalize hB8 : decide (m8 = n8) = B8 at hR
  generalize hB9 : decide (m9 = n9) = B9 at hR
  generalize hB10 : decide (m10 = n10) = B10 at hR
  have HW := hide hW; clear hW
  clear h3 h4 h5 g3 g4 g5
  cases B0
  · have b0 := beq_eq_false_iff_ne.2 (of_decide_eq_false hB0); clear hB0
    have HR := hide (hR.trans (by rfl) : R = false)
    clear hR hB1 hB2 hB6 hB7 hB8 hB9 hB10 hP3 hP4 hP5
    go_enter Try.func44, Try.ntmps44
    go_wp2
    go_ret
    exact ⟨retB HR.out.symm, HW.out⟩
  have e0 := of_decide_eq_true hB0; clear hB0; subst e0
  cases B1
  · have b1 := beq_eq_false_iff_ne.2 (of_decide_eq_false hB1); clear hB1
    have HR := hide (hR.trans (by rfl) : R = false)
    clear hR hB2 hB6 hB7 hB8 hB9 hB10 hP3 hP4 hP5
    go_enter Try.func44, Try.ntmps44
    go_wp2
    go_ret
    exact ⟨retB HR.out.symm, HW.out⟩
  have e1 := of_decide_eq_true hB1; clear hB1; subst e1
  cases B2
  · have b2 := beq_eq_false_iff_ne.2 (of_decide_eq_false hB2); clear hB2
    have HR := hide (hR.trans (by rfl) : R = false)
    clear hR hB6 hB7 hB8 hB9 hB10 hP3 hP4 hP5
    go_enter Try.func44, Try.ntmps44
    go_wp2
    go_ret
    exact ⟨retB HR.out.symm, HW.out⟩
  have e2 := of_decide_eq_true hB2; clear hB2; subst e2
  cases B3
  · skip
    have HR := hide (hR.trans (by rfl) : R = false)
    clear hR hB6 hB7 hB8 hB9 hB10 hP4 hP5
    have HP3 := hide hP3; clear hP3
    go_enter Try.func44, Try.ntmps44
    go_wp2_with (first
      | (go_at_call 45; refine ((HP3.out _ (by exact HW.out))).mono ?_; rintro e w1 ⟨rfl, q1, rfl⟩; clear HP3))
    go_ret
    exact ⟨retB HR.out.symm, below_drewN HW.out _⟩
  cases B4
  · skip
    have HR := hide (hR.trans (by rfl) : R = false)
    clear hR hB6 hB7 hB8 hB9 hB10 hP5
    have HP3 := hide hP3; clear hP3
    have HP4 := hide hP4; clear hP4
    go_enter Try.func44, Try.ntmps44
    go_wp2_with (first
      | (go_at_call 45; refine ((HP3.out _ (by exact HW.out))).mono ?_; rintro e w1 ⟨rfl, q1, rfl⟩; clear HP3)
      | (go_at_call 45; refine ((HP4.out _ (by exact below_drewN HW.out _))).mono ?_; rintro e w2 ⟨rfl, q2, rfl⟩; clear HP4))
    go_ret
    exact ⟨retB HR.out.symm, below_drewN HW.out _⟩
  cases B5
  · skip
    have HR := hide (hR.trans (by rfl) : R = false)
    clear hR hB6 hB7 hB8 hB9 hB10
    have HP3 := hide hP3; clear hP3
    have HP4 := hide hP4; clear hP4
    have HP5 := hide hP5; clear hP5
    go_enter Try.func44, Try.ntmps44
    go_wp2_with (first
      | (go_at_call 45; refine ((HP3.out _ (by exact HW.out))).mono ?_; rintro e w1 ⟨rfl, q1, rfl⟩; clear HP3)
      | (go_at_call 45; refine ((HP4.out _ (by exact below_drewN HW.out _))).mono ?_; rintro e w2 ⟨rfl, q2, rfl⟩; clear HP4)
      | (go_at_call 81; refine ((HP5.out _ (by exact below_drewN HW.out _))).mono ?_; rintro e w3 ⟨rfl, q3, rfl⟩; clear HP5))
    go_ret
    exact ⟨retB HR.out.symm, below_drewN HW.out _⟩
  cases B6
  · have b6 := beq_eq_false_iff_ne.2 (of_decide_eq_false hB6); clear hB6
    have HR := hide (hR.trans (by rfl) : R = false)
    clear hR hB7 hB8 hB9 hB10
    have HP3 := hide hP3; clear hP3
    have HP4 := hide hP4; clear hP4
    have HP5 := hide hP5; clear hP5
    go_enter Try.func44, Try.ntmps44
    go_wp2_with (first
      | (go_at_call 45; refine ((HP3.out _ (by exact HW.out))).mono ?_; rintro e w1 ⟨rfl, q1, rfl⟩; clear HP3)
      | (go_at_call 45; refine ((HP4.out _ (by exact below_drewN HW.out _))).mono ?_; rintro e w2 ⟨rfl, q2, rfl⟩; clear HP4)
      | (go_at_call 81; refine ((HP5.out _ (by exact below_drewN HW.out _))).mono ?_; rintro e w3 ⟨rfl, q3, rfl⟩; clear HP5))
    go_ret
    exact ⟨retB HR.out.symm, below_drewN HW.out _⟩
  have e6 := of_decide_eq_true hB6; clear hB6; subst e6
  cases B7
  · have b7 := beq_eq_false_iff_ne.2 (of_decide_eq_false hB7); clear hB7
    have HR := hide (hR.trans (by rfl) : R = false)
    clear hR hB8 hB9 hB10
    have HP3 := hide hP3; clear hP3
    have HP4 := hide hP4; clear hP4
    have HP5 := hide hP5; clear hP5
    go_enter Try.func44, Try.ntmps44
    go_wp2_with (first
      | (go_at_call 45; refine ((HP3.out _ (by exact HW.out))).mono ?_; rintro e w1 ⟨rfl, q1, rfl⟩; clear HP3)
      | (go_at_call 45; refine ((HP4.out _ (by exact below_drewN HW.out _))).mono ?_; rintro e w2 ⟨rfl, q2, rfl⟩; clear HP4)
      | (go_at_call 81; refine ((HP5.out _ (by exact below_drewN HW.out _))).mono ?_; rintro e w3 ⟨rfl, q3, rfl⟩; clear HP5))
    go_ret
    exact ⟨retB HR.out.symm, below_drewN HW.out _⟩
  have e7 := of_decide_eq_true hB7; clear hB7; subst e7
  cases B8
  · have b8 := beq_eq_false_iff_ne.2 (of_decide_eq_false hB8); clear hB8
    have HR := hide (hR.trans (by rfl) : R = false)
    clear hR hB9 hB10
    have HP3 := hide hP3; clear hP3
    have HP4 := hide hP4; clear hP4
    have HP5 := hide hP5; clear hP5
    go_enter Try.func44, Try.ntmps44
    go_wp2_with (first
      | (go_at_call 45; refine ((HP3.out _ (by exact HW.out))).mono ?_; rintro e w1 ⟨rfl, q1, rfl⟩; clear HP3)
      | (go_at_call 45; refine ((HP4.out _ (by exact below_drewN HW.out _))).mono ?_; rintro e w2 ⟨rfl, q2, rfl⟩; clear HP4)
      | (go_at_call 81; refine ((HP5.out _ (by exact below_drewN HW.out _))).mono ?_; rintro e w3 ⟨rfl, q3, rfl⟩; clear HP5))
    go_ret
    exact ⟨retB HR.out.symm, below_drewN HW.out _⟩
  have e8 := of_decide_eq_true hB8; clear hB8; subst e8
  cases B9
  · have b9 := beq_eq_false_iff_ne.2 (of_decide_eq_false hB9); clear hB9
    have HR := hide (hR.trans (by rfl) : R = false)
    clear hR hB10
    have HP3 := hide hP3; clear hP3
    have HP4 := hide hP4; clear hP4
    have HP5 := hide hP5; clear hP5
    go_enter Try.func44, Try.ntmps44
    go_wp2_with (first
      | (go_at_call 45; refine ((HP3.out _ (by exact HW.out))).mono ?_; rintro e w1 ⟨rfl, q1, rfl⟩; clear HP3)
      | (go_at_call 45; refine ((HP4.out _ (by exact below_drewN HW.out _))).mono ?_; rintro e w2 ⟨rfl, q2, rfl⟩; clear HP4)
      | (go_at_call 81; refine ((HP5.out _ (by exact below_drewN HW.out _))).mono ?_; rintro e w3 ⟨rfl, q3, rfl⟩; clear HP5))
    go_ret
    exact ⟨retB HR.out.symm, below_drewN HW.out _⟩
  have e9 := of_decide_eq_true hB9; clear hB9; subst e9
  cases B10
  · have b10 := beq_eq_false_iff_ne.2 (of_decide_eq_false hB10); clear hB10
    have HR := hide (hR.trans (by rfl) : R = false)
    clear hR
    have HP3 := hide hP3; clear hP3
    have HP4 := hide hP4; clear hP4
    have HP5 := hide hP5; clear hP5
    go_enter Try.func44, Try.ntmps44
    go_wp2_with (first
      | (go_at_call 45; refine ((HP3.out _ (by exact HW.out))).mono ?_; rintro e w1 ⟨rfl, q1, rfl⟩; clear HP3)
      | (go_at_call 45; refine ((HP4.out _ (by exact below_drewN HW.out _))).mono ?_; rintro e w2 ⟨rfl, q2, rfl⟩; clear HP4)
      | (go_at_call 81; refine ((HP5.out _ (by exact below_drewN HW.out _))).mono ?_; rintro e w3 ⟨rfl, q3, rfl⟩; clear HP5))
    go_ret
    exact ⟨retB HR.out.symm, below_drewN HW.out _⟩
  have e10 := of_decide_eq_true hB10; clear hB10; subst e10
  have HR := hide (hR.trans (by rfl) : R = true)
  clear hR
  have HP3 := hide hP3; clear hP3
  have HP4 := hide hP4; clear hP4
  have HP5 := hide hP5; clear hP5
  go_enter Try.func44, Try.ntmps44
  go_wp2_with (first
    | (go_at_call 45; refine ((HP3.out _ (by exact HW.out))).mono ?_; rintro e w1 ⟨rfl, q1, rfl⟩; clear HP3)
    | (go_at_call 45; refine ((HP4.out _ (by exact below_drewN HW.out _))).mono ?_; rintro e w2 ⟨rfl, q2, rfl⟩; clear HP4)
    | (go_at_call 81; refine ((HP5.out _ (by exact below_drewN HW.out _))).mono ?_; rintro e w3 ⟨rfl, q3, rfl⟩; clear HP5))
  go_ret
  exact ⟨retB HR.out.symm, below_drewN HW.out _⟩
end Go.Proofs.Ytaebmliolpgmdaa
