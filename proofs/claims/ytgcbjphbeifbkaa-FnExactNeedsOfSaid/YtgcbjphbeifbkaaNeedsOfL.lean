
/- FnExactNeedsOf: the call returns true. No condition. -/
import Derived.Test.YtgcbjphbeifbkaaEx5
import Derived.Test.YtgcbjphbeifbkaaTokM
import Derived.Test.YtgcbjphbeifbkaaEqB
import Derived.Test.YtgcbjphbeifbkaaOpen3
set_option linter.unusedSimpArgs false
set_option linter.unusedVariables false
set_option maxRecDepth 100000
namespace Go.Proofs.Ytgcbjphbeifbkaa
open Go.RowKit Go.WideShapes Go.ChangeShapes

set_option maxHeartbeats 1600000 in
theorem law_FnExactNeedsOf (w : World) (v_t : Value) (h_t : IsPair w v_t) (v_p : Value) (h_p : IsInts w v_p) :
    Calls Try.prog 3 #[v_t, v_p] w fun e w' => e = .returned (.bool true) ∧ Below w.heap.size w w' := by
  obtain ⟨⟨o_t, n_t⟩, rfl, hk_t⟩ := h_t
  obtain ⟨l_p, hr_p, hk_p⟩ := h_p
  have hl_p := hr_p.long
  obtain ⟨A_p, c_p, rfl, _, _, _⟩ := id hr_p
  have H0_p := hide hr_p; clear hr_p
  by_cases hb_p : 1048576 < l_p.length
  · go_enter Try.func3, Try.ntmps3
    go_wp2
    go_ret
    first | exact ⟨rfl, Below.refl _ _⟩ | exact ⟨rfl, (Below.refl _ _).alloc (Nat.le_refl _) _⟩
  have Hb0 := hide (Below.refl w.heap.size w)
  go_enter Try.func3, Try.ntmps3
  have hb : Below w.heap.size w (w.alloc (.cells #[.int .i64 o_t, .int .i64 n_t] 23)) := (Below.refl _ _).alloc (Nat.le_refl _) _
  have H1_p := hide (H0_p.out.here hb)
  have Hb1 := hide hb; clear hb
  have K1_t := hide (Bk.new w 23 #[.int .i64 o_t, .int .i64 n_t])
  have c0 := K1_t.out.cell 0; have c1 := K1_t.out.cell 1
  go_wp2_with fail
  refine (toTok _ _ _).mono ?_
  rintro e w2 ⟨rfl, hb⟩
  have K2_t := hide (K1_t.out.below hb)
  have H2_p := hide (H1_p.out.here hb)
  have Hb2 := hide (Hb1.out.trans (hb.mono Hb1.out.size))
  clear hb c0 c1
  go_wp2_with fail
  refine (toIntS _ l_p _ H2_p.out (by omega)).mono ?_
  rintro e w3 ⟨v_s_p, rfl, hown, hb⟩
  have K3_t := hide (K2_t.out.below hb)
  have H3_p := hide (H2_p.out.here hb)
  have Hb3 := hide (Hb2.out.trans (hb.mono Hb2.out.size))
  have H3_s_p := hide (Rd.of_own hown); clear hown hb
  go_wp2_with fail
  refine (spec_NeedsOf o_t n_t _ l_p _ H3_s_p.out).mono ?_
  rintro e w4 ⟨rfl, hb⟩
  have K4_t := hide (K3_t.out.below hb)
  have H4_p := hide (H3_p.out.here hb)
  have H4_s_p := hide (H3_s_p.out.here hb)
  have Hb4 := hide (Hb3.out.trans (hb.mono Hb3.out.size))
  clear hb
  go_wp2_with fail
  refine (toIntS _ l_p _ H4_p.out (by omega)).mono ?_
  rintro e w5 ⟨v_x_p, rfl, hown, hb⟩
  have K5_t := hide (K4_t.out.below hb)
  have H5_p := hide (H4_p.out.here hb)
  have Hb5 := hide (Hb4.out.trans (hb.mono Hb4.out.size))
  have H5_x_p := hide (Rd.of_own hown); clear hown hb
  have c0 := K5_t.out.cell 0; have c1 := K5_t.out.cell 1
  go_wp2_with fail
  refine (toTok _ _ _).mono ?_
  rintro e w6 ⟨rfl, hb⟩
  have K6_t := hide (K5_t.out.below hb)
  have H6_p := hide (H5_p.out.here hb)
  have H6_x_p := hide (H5_x_p.out.here hb)
  have Hb6 := hide (Hb5.out.trans (hb.mono Hb5.out.size))
  clear hb c0 c1
  go_wp2_with fail
  refine (impl_NeedsOf o_t n_t _ l_p _ H6_x_p.out).mono ?_
  rintro e w7 ⟨rfl, hb⟩
  have K7_t := hide (K6_t.out.below hb)
  have H7_p := hide (H6_p.out.here hb)
  have H7_x_p := hide (H6_x_p.out.here hb)
  have Hb7 := hide (Hb6.out.trans (hb.mono Hb6.out.size))
  clear hb
  go_wp2_with fail
  refine (toIntS _ l_p _ H7_p.out (by omega)).mono ?_
  rintro e w8 ⟨v_y_p, rfl, hown, hb⟩
  have K8_t := hide (K7_t.out.below hb)
  have H8_p := hide (H7_p.out.here hb)
  have H8_x_p := hide (H7_x_p.out.here hb)
  have Hb8 := hide (Hb7.out.trans (hb.mono Hb7.out.size))
  have H8_y_p := hide (Rd.of_own hown); clear hown hb
  go_wp2_with fail
  refine (eqIntSB _ _ l_p _ H8_x_p.out H8_y_p.out hl_p).mono ?_
  rintro e w9 ⟨rfl, hb⟩
  have K9_t := hide (K8_t.out.below hb)
  have H9_p := hide (H8_p.out.here hb)
  have H9_x_p := hide (H8_x_p.out.here hb)
  have Hb9 := hide (Hb8.out.trans (hb.mono Hb8.out.size))
  clear hb
  go_wp2_with fail
  go_ret
  exact ⟨rfl, Hb9.out⟩
end Go.Proofs.Ytgcbjphbeifbkaa
