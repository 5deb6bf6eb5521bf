
/- FnExactLowerExpr: the call returns true. No condition. -/
import Derived.Test.YtoloajmgdcpfpaaLw
import Derived.Test.YtoloajmgdcpfpaaTokM
import Derived.Test.YtoloajmgdcpfpaaInsM
import Derived.Test.YtoloajmgdcpfpaaOpen3
set_option linter.unusedSimpArgs false
set_option linter.unusedVariables false
set_option maxRecDepth 100000
namespace Go.Proofs.Ytoloajmgdcpfpaa
open Go.RowKit Go.WideShapes Go.ChangeShapes

set_option maxHeartbeats 1600000 in
theorem law_FnExactLowerExpr (w : World) (v : Value) (h : IsPairs w v) :
    Calls Try.prog 4 #[v] w fun e w' => e = .returned (.bool true) ∧ Below w.heap.size w w' := by
  obtain ⟨l, hr, hwf⟩ := h
  have hl : l.length ≤ 9223372036854775807 := by obtain ⟨A, c, _, h1, h2, _⟩ := hr; unfold maxLen at h2; omega
  obtain ⟨A, c, rfl, hn, hc, hcell⟩ := id hr
  have Hr := hide hr
  clear hcell hwf hr hn hc
  go_enter Try.func4, Try.ntmps4
  go_wp2_with fail
  refine (szTokS _ _ _ _ _ _ Hr.out (by omega) (by omega)).mono ?_
  rintro e w' ⟨rfl, rfl⟩
  by_cases hb : l.length ≤ 1048576
  · rw [if_pos (by omega)]
    have hlen := lowE_len l hb
    have hS := fun v w hr => spec_LowerExpr v l w hr hl
    have hI := fun v w hr => impl_LowerExpr v l w hr hl
    generalize lowE l = L at *
    generalize lowOk l = ok at *
    have HS := hide hS; have HI := hide hI; clear hS hI
    go_wp2_with fail
    refine (toTokS _ l _ Hr.out hb).mono ?_
    rintro e w1 ⟨v1, rfl, hown1, hb1⟩
    have Ho1 := hide hown1; have Hb1 := hide hb1; clear hown1 hb1
    go_wp2_with fail
    refine (HS.out _ _ (Rd.of_own Ho1.out)).mono ?_
    rintro e w2 ⟨u, rfl, hown2, hb2⟩
    have Hu2 := hide (Rd.of_own hown2); have Hb2 := hide (Hb1.out.trans (hb2.mono Hb1.out.size)); clear hb2 hown2
    go_wp2_with fail
    refine (toTokS _ l _ (Hr.out.here Hb2.out) hb).mono ?_
    rintro e w3 ⟨x, rfl, hown3, hb3⟩
    have Ho3 := hide hown3; have Hb23 := hide hb3; have Hb3 := hide (Hb2.out.trans (hb3.mono Hb2.out.size)); clear hown3 hb3
    go_wp2_with fail
    refine (HI.out _ _ (Rd.of_own Ho3.out)).mono ?_
    rintro e w4 ⟨g, rfl, hown4, hb4⟩
    have Hg4 := hide hown4; have Hx4 := hide (own_keep Ho3.out hb4); have Hb24 := hide (Hb23.out.trans (hb4.mono Hb23.out.size)); have Hb4 := hide (Hb3.out.trans (hb4.mono Hb3.out.size)); have Z4 := hide hb4.size; clear hown4 hb4
    go_wp2_with fail
    refine (eqInsS _ _ L _ (Rd.of_own Hg4.out) (Hu2.out.here Hb24.out) (by omega)).mono ?_
    rintro e w5 ⟨rfl, hb5⟩
    have Hg5 := hide (own_keep Hg4.out hb5); have Hx5 := hide (own_keep Hx4.out hb5); have Hb25 := hide (Hb24.out.trans (hb5.mono Hb24.out.size)); have Hb5 := hide (Hb4.out.trans (hb5.mono Hb4.out.size)); have Z5 := hide hb5.size; clear hb5
    go_wp2_with fail
    refine (toTokS _ l _ (Hr.out.here Hb5.out) hb).mono ?_
    rintro e w6 ⟨y, rfl, hown6, hb6⟩
    have Hy6 := hide hown6; have Hg6 := hide (own_keep Hg5.out hb6); have Hx6 := hide (own_keep Hx5.out hb6); have Hb26 := hide (Hb25.out.trans (hb6.mono Hb25.out.size)); have Hb6 := hide (Hb5.out.trans (hb6.mono Hb5.out.size)); have Z6 := hide hb6.size; clear hown6 hb6
    go_wp2_with fail
    refine (eqTokS _ _ l _ (Rd.of_own Hx6.out) (Rd.of_own Hy6.out) hl).mono ?_
    rintro e w7 ⟨rfl, hb7⟩
    have Hg7 := hide (own_keep Hg6.out hb7); have Hx7 := hide (own_keep Hx6.out hb7); have Hb27 := hide (Hb26.out.trans (hb7.mono Hb26.out.size)); have Hb7 := hide (Hb6.out.trans (hb7.mono Hb6.out.size)); have Z7 := hide hb7.size; clear hb7
    go_wp2_with fail
    refine (markTokS _ l 1 _ _ Hx7.out (by omega) (by omega)).mono ?_
    rintro e w8 ⟨rfl, hown8, hg8⟩
    have hxl := Ho3.out.lt
    have Hg8 := hide (own_grown Hg7.out hg8 (fun k hk => (hxl k hk).2))
    have hb8 : Below w2.heap.size w7 w8 := (Below.refl _ _).grown hg8 Hb27.out.size (fun k hk => (hxl k hk).1)
    have Hb28 := hide (Hb27.out.trans hb8); have Hb8 := hide (Hb7.out.trans (hb8.mono Hb2.out.size)); have Z8 := hide hb8.size; clear hown8 hg8 hxl hb8
    go_wp2_with fail
    refine (eqInsS _ _ L _ (Rd.of_own Hg8.out) (Hu2.out.here Hb28.out) (by omega)).mono ?_
    rintro e w9 ⟨rfl, hb9⟩
    have Hg9 := hide (own_keep Hg8.out hb9); have Hb29 := hide (Hb28.out.trans (hb9.mono Hb28.out.size)); have Hb9 := hide (Hb8.out.trans (hb9.mono Hb8.out.size)); have Z9 := hide hb9.size; clear hb9
    go_wp2_with fail
    refine (markInsS _ L 1 _ _ Hg9.out (by omega) (by omega)).mono ?_
    rintro e w10 ⟨rfl, hown10, hg10⟩
    have hgl := Hg9.out.lt
    have z3 := Hb23.out.size
    have z9 : w3.heap.size ≤ w9.heap.size := by have := Z4.out; have := Z5.out; have := Z6.out; have := Z7.out; have := Z8.out; have := Z9.out; omega
    have hb10 : Below w2.heap.size w9 w10 := (Below.refl _ _).grown hg10 (by omega) (fun k hk => by have := (hgl k hk).1; omega)
    have Hg10 := hide hown10; have Hb2a := hide (Hb29.out.trans hb10); have Hb10 := hide (Hb9.out.trans (hb10.mono Hb2.out.size)); clear hown10 hg10 hgl hb10 z3 z9
    go_wp2_with fail
    refine (heldInsS _ L.length 1 _ _ (Rd.of_own Hg10.out) (by omega) (by omega)).mono ?_
    rintro e w11 ⟨rfl, rfl⟩
    go_wp2_with fail
    refine (toTokS _ l _ (Hr.out.here Hb10.out) hb).mono ?_
    rintro e w12 ⟨y2, rfl, hown12, hb12⟩
    have Ho12 := hide hown12; have Hg12 := hide (own_keep Hg10.out hb12); have Hb2c := hide (Hb2a.out.trans (hb12.mono Hb2a.out.size)); have Hb12 := hide (Hb10.out.trans (hb12.mono Hb10.out.size)); clear hown12 hb12
    go_wp2_with fail
    refine (HI.out _ _ (Rd.of_own Ho12.out)).mono ?_
    rintro e w13 ⟨h0, rfl, hown13, hb13⟩
    have Hh13 := hide hown13; have Hg13 := hide (own_keep Hg12.out hb13); have Hb2d := hide (Hb2c.out.trans (hb13.mono Hb2c.out.size)); have Hb13 := hide (Hb12.out.trans (hb13.mono Hb12.out.size)); clear hown13 hb13
    go_wp2_with fail
    refine (eqInsS _ _ L _ (Rd.of_own Hh13.out) (Hu2.out.here Hb2d.out) (by omega)).mono ?_
    rintro e w14 ⟨rfl, hb14⟩
    have Hg14 := hide (own_keep Hg13.out hb14); have Hb14 := hide (Hb13.out.trans (hb14.mono Hb13.out.size)); clear hb14
    go_wp2_with fail
    refine (heldInsS _ L.length 1 _ _ (Rd.of_own Hg14.out) (by omega) (by omega)).mono ?_
    rintro e w15 ⟨rfl, rfl⟩
    go_wp2_with fail
    go_ret
    exact ⟨rfl, Hb14.out⟩
  · rw [if_neg (by omega)]
    go_wp2
    go_ret
    exact ⟨rfl, Below.refl _ _⟩
end Go.Proofs.Ytoloajmgdcpfpaa
