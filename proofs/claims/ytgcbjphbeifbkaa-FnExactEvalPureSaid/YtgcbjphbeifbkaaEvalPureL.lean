
/- FnExactEvalPure: the call returns true. No condition. -/
import Derived.Test.YtgcbjphbeifbkaaEv2
import Derived.Test.YtgcbjphbeifbkaaTokM
import Derived.Test.YtgcbjphbeifbkaaEqB
import Derived.Test.YtgcbjphbeifbkaaOpen3
set_option linter.unusedSimpArgs false
set_option linter.unusedVariables false
set_option maxRecDepth 100000
namespace Go.Proofs.Ytgcbjphbeifbkaa
open Go.RowKit Go.WideShapes Go.ChangeShapes

set_option maxHeartbeats 1600000 in
theorem law_FnExactEvalPure (w : World) (v_e : Value) (h_e : IsPairs w v_e) (v_env : Value) (h_env : IsInts w v_env) :
    Calls Try.prog 6 #[v_e, v_env] w fun e w' => e = .returned (.bool true) ∧ Below w.heap.size w w' := by
  obtain ⟨l_e, hr_e, hk_e⟩ := h_e
  have hl_e := hr_e.long
  obtain ⟨A_e, c_e, rfl, _, _, _⟩ := id hr_e
  have H0_e := hide hr_e; clear hr_e
  obtain ⟨l_env, hr_env, hk_env⟩ := h_env
  have hl_env := hr_env.long
  obtain ⟨A_env, c_env, rfl, _, _, _⟩ := id hr_env
  have H0_env := hide hr_env; clear hr_env
  by_cases hb_env : 1048576 < l_env.length
  · go_enter Try.func6, Try.ntmps6
    go_wp2
    go_ret
    first | exact ⟨rfl, Below.refl _ _⟩ | exact ⟨rfl, (Below.refl _ _).alloc (Nat.le_refl _) _⟩
  have Hb0 := hide (Below.refl w.heap.size w)
  go_enter Try.func6, Try.ntmps6
  go_wp2_with fail
  refine (szTokS _ _ _ _ _ _ H0_e.out (by omega) (by omega)).mono ?_
  rintro e w' ⟨rfl, rfl⟩
  by_cases hb_e : l_e.length ≤ 1048576
  case neg =>
    rw [if_neg (by omega)]
    go_wp2
    go_ret
    first | exact ⟨rfl, Below.refl _ _⟩ | exact ⟨rfl, (Below.refl _ _).alloc (Nat.le_refl _) _⟩
  rw [if_pos (by omega)]
  go_wp2_with fail
  refine (toTokS _ l_e _ H0_e.out (by omega)).mono ?_
  rintro e w1 ⟨v_s_e, rfl, hown, hb⟩
  have H1_e := hide (H0_e.out.here hb)
  have H1_env := hide (H0_env.out.here hb)
  have Hb1 := hide (Hb0.out.trans (hb.mono Hb0.out.size))
  have H1_s_e := hide (Rd.of_own hown); clear hown hb
  go_wp2_with fail
  refine (toIntS _ l_env _ H1_env.out (by omega)).mono ?_
  rintro e w2 ⟨v_s_env, rfl, hown, hb⟩
  have H2_e := hide (H1_e.out.here hb)
  have H2_env := hide (H1_env.out.here hb)
  have H2_s_e := hide (H1_s_e.out.here hb)
  have Hb2 := hide (Hb1.out.trans (hb.mono Hb1.out.size))
  have H2_s_env := hide (Rd.of_own hown); clear hown hb
  go_wp2_with fail
  refine (spec_EvalPure _ l_e _ l_env _ H2_s_e.out H2_s_env.out).mono ?_
  rintro e w3 ⟨rfl, hb⟩
  have H3_e := hide (H2_e.out.here hb)
  have H3_env := hide (H2_env.out.here hb)
  have H3_s_e := hide (H2_s_e.out.here hb)
  have H3_s_env := hide (H2_s_env.out.here hb)
  have Hb3 := hide (Hb2.out.trans (hb.mono Hb2.out.size))
  clear hb
  go_wp2_with fail
  refine (toTokS _ l_e _ H3_e.out (by omega)).mono ?_
  rintro e w4 ⟨v_x_e, rfl, hown, hb⟩
  have H4_e := hide (H3_e.out.here hb)
  have H4_env := hide (H3_env.out.here hb)
  have Hb4 := hide (Hb3.out.trans (hb.mono Hb3.out.size))
  have H4_x_e := hide (Rd.of_own hown); clear hown hb
  go_wp2_with fail
  refine (toIntS _ l_env _ H4_env.out (by omega)).mono ?_
  rintro e w5 ⟨v_x_env, rfl, hown, hb⟩
  have H5_e := hide (H4_e.out.here hb)
  have H5_env := hide (H4_env.out.here hb)
  have H5_x_e := hide (H4_x_e.out.here hb)
  have Hb5 := hide (Hb4.out.trans (hb.mono Hb4.out.size))
  have H5_x_env := hide (Rd.of_own hown); clear hown hb
  go_wp2_with fail
  refine (impl_EvalPure _ l_e _ l_env _ H5_x_e.out H5_x_env.out).mono ?_
  rintro e w6 ⟨rfl, hb⟩
  have H6_e := hide (H5_e.out.here hb)
  have H6_env := hide (H5_env.out.here hb)
  have H6_x_e := hide (H5_x_e.out.here hb)
  have H6_x_env := hide (H5_x_env.out.here hb)
  have Hb6 := hide (Hb5.out.trans (hb.mono Hb5.out.size))
  clear hb
  go_wp2_with fail
  refine (toTokS _ l_e _ H6_e.out (by omega)).mono ?_
  rintro e w7 ⟨v_y_e, rfl, hown, hb⟩
  have H7_e := hide (H6_e.out.here hb)
  have H7_env := hide (H6_env.out.here hb)
  have H7_x_e := hide (H6_x_e.out.here hb)
  have H7_x_env := hide (H6_x_env.out.here hb)
  have Hb7 := hide (Hb6.out.trans (hb.mono Hb6.out.size))
  have H7_y_e := hide (Rd.of_own hown); clear hown hb
  go_wp2_with fail
  refine (eqTokS _ _ l_e _ H7_x_e.out H7_y_e.out hl_e).mono ?_
  rintro e w8 ⟨rfl, hb⟩
  have H8_e := hide (H7_e.out.here hb)
  have H8_env := hide (H7_env.out.here hb)
  have H8_x_e := hide (H7_x_e.out.here hb)
  have H8_x_env := hide (H7_x_env.out.here hb)
  have Hb8 := hide (Hb7.out.trans (hb.mono Hb7.out.size))
  clear hb
  go_wp2_with fail
  refine (toIntS _ l_env _ H8_env.out (by omega)).mono ?_
  rintro e w9 ⟨v_y_env, rfl, hown, hb⟩
  have H9_e := hide (H8_e.out.here hb)
  have H9_env := hide (H8_env.out.here hb)
  have H9_x_e := hide (H8_x_e.out.here hb)
  have H9_x_env := hide (H8_x_env.out.here hb)
  have Hb9 := hide (Hb8.out.trans (hb.mono Hb8.out.size))
  have H9_y_env := hide (Rd.of_own hown); clear hown hb
  go_wp2_with fail
  refine (eqIntSB _ _ l_env _ H9_x_env.out H9_y_env.out hl_env).mono ?_
  rintro e w10 ⟨rfl, hb⟩
  have H10_e := hide (H9_e.out.here hb)
  have H10_env := hide (H9_env.out.here hb)
  have H10_x_e := hide (H9_x_e.out.here hb)
  have H10_x_env := hide (H9_x_env.out.here hb)
  have Hb10 := hide (Hb9.out.trans (hb.mono Hb9.out.size))
  clear hb
  go_wp2_with fail
  go_ret
  exact ⟨rfl, Hb10.out⟩
end Go.Proofs.Ytgcbjphbeifbkaa
