
/- FnExactNextOf: the call returns true. No condition. -/
import Derived.Test.YtacnmkligipbfaaNxO
import Derived.Test.YtacnmkligipbfaaInsT
import Derived.Test.YtacnmkligipbfaaEqB
import Derived.Test.YtacnmkligipbfaaOpen3
set_option linter.unusedSimpArgs false
set_option linter.unusedVariables false
set_option maxRecDepth 100000
namespace Go.Proofs.Ytacnmkligipbfaa
open Go.RowKit Go.WideShapes Go.ChangeShapes

set_option maxHeartbeats 6400000 in
theorem law_FnExactNextOf (w : World) (v_i : Value) (h_i : IsPair w v_i) (a : Int) (w_a : (Lit.int .i64 a).wf = true) :
    Calls Try.prog 3 #[v_i, .int .i64 a] w fun e w' => e = .returned (.bool true) ∧ Below w.heap.size w w' := by
  obtain ⟨⟨o, n⟩, rfl, _⟩ := h_i
  obtain ⟨b1_a, b2_a⟩ := bd_i64 w_a
  have hlen := nxR_length ⟨o, n⟩ a
  have hS := fun w => spec_NextOf o n a w
  have hI := fun w => impl_NextOf o n a w
  generalize nxR ⟨o, n⟩ a = L at *
  generalize okN ⟨o, n⟩ a = ok at *
  have HS := Lib.hid hS; have HI := Lib.hid hI
  have B0 := hide ((Below.refl w.heap.size w).alloc (Nat.le_refl _) (.cells #[.int .i64 o, .int .i64 n] 23))
  have K0 := hide (Bk.new w 23 #[.int .i64 o, .int .i64 n])
  clear hS hI
  go_enter Try.func3, Try.ntmps3
  -- the reference
  go_wp2_with fail
  refine (toIns o n _).mono ?_
  rintro e w1 ⟨rfl, hb⟩
  have B1 := hide (B0.out.trans (hb.mono B0.out.size)); have K1 := hide (K0.out.below hb); clear hb B0 K0
  go_wp2_with fail
  refine (HS.out _).mono ?_
  rintro e w2 ⟨u, rfl, hown, hb⟩
  have B2 := hide (B1.out.trans (hb.mono B1.out.size)); have K2 := hide (K1.out.below hb); have U2 := hide (Rd.of_own hown); have ZU := hide (Nat.le_refl w2.heap.size); clear hb hown B1 K1
  -- the program
  have q0 := K2.out.cell 0; have q1 := K2.out.cell 1; have ql := K2.out.lt
  go_wp2_with fail
  clear q0 q1 ql
  refine (toIns o n _).mono ?_
  rintro e w3 ⟨rfl, hb⟩
  have B3 := hide (B2.out.trans (hb.mono B2.out.size)); have K3 := hide (K2.out.below hb); have U3 := hide (Below.refl w2.heap.size w2 |>.trans hb); clear hb
  go_wp2_with fail
  refine (HI.out _).mono ?_
  rintro e w4 ⟨g, rfl, hown, hb⟩
  have Z3 := hide B3.out.size; have L3 := hide K3.out.lt; have Z23 := hide U3.out.size
  have B4 := hide (B3.out.trans (hb.mono B3.out.size)); have K4 := hide (K3.out.below hb); have U4 := hide (U3.out.trans (hb.mono U3.out.size)); have G4 := hide hown; clear hb hown B3 K3 U3
  go_wp2_with fail
  refine (eqIntSB _ _ L _ (Rd.of_own G4.out) (Rd.here U2.out U4.out) (by omega)).mono ?_
  rintro e w5 ⟨rfl, hb⟩
  have B5 := hide (B4.out.trans (hb.mono B4.out.size)); have K5 := hide (K4.out.below hb); have U5 := hide (U4.out.trans (hb.mono U4.out.size)); have G5 := hide (own_keep G4.out hb); clear hb B4 K4 U4 G4
  -- the mark of the result
  go_wp2_with fail
  refine (markIntS _ L 1 _ _ G5.out (by omega) (by omega)).mono ?_
  rintro e w6 ⟨rfl, hown, hg⟩
  have hgl := G5.out.lt
  have B6 := hide (B5.out.grown hg B5.out.size (fun k hk => Nat.le_trans Z3.out (hgl k hk).1))
  have K6 := hide (show Bk _ _ _ _ from (hg.block _ K5.out.lt (fun e => by have := (hgl _ e.symm).1; have := L3.out; omega)).trans K5.out)
  have U6 := hide (U5.out.grown hg U5.out.size (fun k hk => Nat.le_trans Z23.out (hgl k hk).1))
  have G6 := hide hown
  clear hown hg hgl B5 K5 U5 G5
  go_wp2_with fail
  refine (heldIntS _ L.length 1 _ _ (Rd.of_own G6.out) (by omega) (by omega)).mono ?_
  rintro e w7 ⟨rfl, rfl⟩
  -- once more
  have q0 := K6.out.cell 0; have q1 := K6.out.cell 1; have ql := K6.out.lt
  go_wp2_with fail
  clear q0 q1 ql
  refine (toIns o n _).mono ?_
  rintro e w8 ⟨rfl, hb⟩
  have B8 := hide (B6.out.trans (hb.mono B6.out.size)); have U8 := hide (U6.out.trans (hb.mono U6.out.size)); have G8 := hide (own_keep G6.out hb); clear hb B6 U6 G6 K6
  go_wp2_with fail
  refine (HI.out _).mono ?_
  rintro e w9 ⟨h0, rfl, hown, hb⟩
  have B9 := hide (B8.out.trans (hb.mono B8.out.size)); have U9 := hide (U8.out.trans (hb.mono U8.out.size)); have G9 := hide (own_keep G8.out hb); have H9 := hide hown; clear hb hown B8 U8 G8
  go_wp2_with fail
  refine (eqIntSB _ _ L _ (Rd.of_own H9.out) (Rd.here U2.out U9.out) (by omega)).mono ?_
  rintro e w10 ⟨rfl, hb⟩
  have B10 := hide (B9.out.trans (hb.mono B9.out.size)); have G10 := hide (own_keep G9.out hb); clear hb B9 U9 G9 H9
  go_wp2_with fail
  refine (heldIntS _ L.length 1 _ _ (Rd.of_own G10.out) (by omega) (by omega)).mono ?_
  rintro e w11 ⟨rfl, rfl⟩
  go_wp2_with fail
  go_ret
  exact ⟨rfl, B10.out⟩
end Go.Proofs.Ytacnmkligipbfaa
