
/- spec.l5Code: what the Go text returns. No condition. Printed by wip/tools/mk_gc.py. -/
import Derived.Test.YtgkjakoagdkpcaaGreatDoorHt1
import Derived.Test.YtgkjakoagdkpcaaGreatDoorGr
set_option linter.unusedSimpArgs false
set_option linter.unusedVariables false
set_option maxRecDepth 100000
namespace Go.Proofs.YtgkjakoagdkpcaaGreatDoor
open Go.RowKit

set_option maxHeartbeats 12800000 in
theorem spec_l5Code (xs cs : List Value) (x : ImageM) (m : CodeM) (w : World) (hx : RImage w 0 w.heap.size xs x) (hc : RCode w 0 w.heap.size cs m) (hsz : sizedB x.qCodes = true) (hmem : m ∈ x.qCodes) :
    Calls Tryz.prog 29 #[.agg xs.toArray, .agg cs.toArray] w fun e w' => e = .returned (.int .i64 (codeN x.qCodes m)) ∧ Below w.heap.size w w' := by
  have hx0 := hx
  have hc0 := hc
  obtain ⟨hl1, hall⟩ := sizedB_iff.1 hsz
  obtain ⟨v0, rfl, h0⟩ := hx
  obtain ⟨A, c, rfl⟩ := h0.form
  obtain ⟨_, _, _, hN, hR300, hI⟩ := codeOk_iff.1 (hall m hmem)
  obtain ⟨v2, v3, v4, rfl, h2, h3, h4⟩ := hc
  obtain ⟨A2, c2, rfl⟩ := h2.form
  obtain ⟨A3, c3, rfl⟩ := h3.form
  obtain ⟨A4, c4, rfl⟩ := h4.form
  have hF := fun h1 h3' h4' => fit_of (l := x.qCodes) (c := m) hsz hmem h1 h3' h4'
  have hsm := fun h => small_of_rows m.qIns.length (by omega) m.qRows 0 (by omega) h
  have hC1 := fun W (hW : Below w.heap.size w W) => spec_l5Named _ _ x m W (RImage_stable.here hx0 hW) (RCode_stable.here hc0 hW)
  have hC2 := fun W (hW : Below w.heap.size w W) => spec_l5SitesGood _ _ x m W (RImage_stable.here hx0 hW) (RCode_stable.here hc0 hW) hl1.2
  have hC3 := fun W (hW : Below w.heap.size w W) => spec_l5Goes _ m W (RCode_stable.here hc0 hW) hN.2
  have hC4 := fun W (hW : Below w.heap.size w W) => spec_l5Rows (.slice A4 m.qRows.length c4) m.qRows m.qIns.length W (h4.here hW).rd (by omega) (by omega) (by omega)
  have hC5 := fun hF W (hW : Below w.heap.size w W) => spec_l5Heights _ _ x m W (RImage_stable.here hx0 hW) (RCode_stable.here hc0 hW) hF
  have hC6 := fun hsm (a : Int) W (hW : Below w.heap.size w W) => spec_l5RowAt (.slice A4 m.qRows.length c4) m.qRows a W (h4.here hW).rd (by omega) hsm
  have hin := h3.rd
  have hro := h4.rd
  obtain ⟨K, hK⟩ : ∃ K, K = codeN x.qCodes m := ⟨_, rfl⟩
  have e1 := @codeN_1 x.qCodes m
  have e2 := @codeN_2 x.qCodes m
  have e3 := @codeN_3 x.qCodes m
  have e4 := @codeN_4 x.qCodes m
  have e5 := @codeN_5 x.qCodes m
  have eh := fun hs => @codeN_h x.qCodes m hs
  rw [← hK] at e1 e2 e3 e4 e5 ⊢
  simp only [← hK] at eh
  clear hK
  obtain ⟨W, hW⟩ : ∃ W, W = waysOf x.qCodes m := ⟨_, rfl⟩
  have hWN : W.N = m.qIns.length := by rw [hW]; rfl
  simp only [← hW] at eh hC5 e5
  clear hW hx0 hc0 hmem hall hsz hI h2 h3 h4
  obtain ⟨l⟩ := x
  obtain ⟨m0, m1, l2, I, R⟩ := m
  dsimp only at *
  have hl := h0.long
  have B0 := hide (((Below.refl w.heap.size w).alloc (Nat.le_refl _) (.cells #[.slice A l.length c] 26)).alloc (by rw [World.size_alloc]; omega) (.cells #[.int .i64 m0, .int .i64 m1, .slice A2 l2.length c2, .slice A3 I.length c3, .slice A4 R.length c4] 39))
  have I0 := hide ((Bk.new w 26 #[.slice A l.length c]).alloc (.cells #[.int .i64 m0, .int .i64 m1, .slice A2 l2.length c2, .slice A3 I.length c3, .slice A4 R.length c4] 39))
  have C0 := hide (show Bk ((w.alloc (.cells #[.slice A l.length c] 26)).alloc (.cells #[.int .i64 m0, .int .i64 m1, .slice A2 l2.length c2, .slice A3 I.length c3, .slice A4 R.length c4] 39)) (w.heap.size + 1) 39 #[.int .i64 m0, .int .i64 m1, .slice A2 l2.length c2, .slice A3 I.length c3, .slice A4 R.length c4] by
    have h := Bk.new (w.alloc (.cells #[.slice A l.length c] 26)) 39 #[.int .i64 m0, .int .i64 m1, .slice A2 l2.length c2, .slice A3 I.length c3, .slice A4 R.length c4]
    rw [World.size_alloc] at h
    exact h)
  have Hin := hide hin; have Hro := hide hro
  clear hin hro h0
  generalize hb1 : I.all (namedI l.length ⟨m0, m1, l2, I, R⟩) = b1 at *
  generalize hb2 : l2.all (siteI l) = b2 at *
  generalize hb3 : goesL I.length 0 I = b3 at *
  generalize hb4 : rowsOk I.length 0 R = b4 at *
  cases b1
  · obtain rfl := e1 rfl
    have HC1 := Lib.hid hC1; clear hC1
    clear hF hsm e1 e2 e3 e4 e5 eh hC2 hC3 hC4 hC5 hC6 hb1 hb2 hb3 hb4
    go_enter Tryz.func29, Tryz.ntmps29
    go_wp2_with (first
      | (go_at_call 56; refine (HC1.out _ (by exact B0.out)).mono ?_; rintro e w1 ⟨rfl, hb⟩; have B1 := hide (B0.out.trans (hb.mono B0.out.size)); have I1 := hide (I0.out.below hb); have C1 := hide (C0.out.below hb); have il1 := I1.out.lt; have cl1 := C1.out.lt; have i01 := I1.out.cell 0; have k01 := C1.out.cell 0; have k11 := C1.out.cell 1; have k21 := C1.out.cell 2; have k31 := C1.out.cell 3; have k41 := C1.out.cell 4; clear hb B0 I0 C0))
    go_ret
    exact ⟨rfl, B1.out⟩
  cases b2
  · obtain rfl := e2 rfl rfl
    have HC1 := Lib.hid hC1; clear hC1
    have HC2 := Lib.hid hC2; clear hC2
    clear hF hsm e1 e2 e3 e4 e5 eh hC3 hC4 hC5 hC6 hb1 hb2 hb3 hb4
    go_enter Tryz.func29, Tryz.ntmps29
    go_wp2_with (first
      | (go_at_call 56; refine (HC1.out _ (by exact B0.out)).mono ?_; rintro e w1 ⟨rfl, hb⟩; have B1 := hide (B0.out.trans (hb.mono B0.out.size)); have I1 := hide (I0.out.below hb); have C1 := hide (C0.out.below hb); have il1 := I1.out.lt; have cl1 := C1.out.lt; have i01 := I1.out.cell 0; have k01 := C1.out.cell 0; have k11 := C1.out.cell 1; have k21 := C1.out.cell 2; have k31 := C1.out.cell 3; have k41 := C1.out.cell 4; clear hb B0 I0 C0)
      | (go_at_call 57; refine (HC2.out _ (by exact B1.out)).mono ?_; rintro e w2 ⟨rfl, hb⟩; have B2 := hide (B1.out.trans (hb.mono B1.out.size)); have I2 := hide (I1.out.below hb); have C2 := hide (C1.out.below hb); have il2 := I2.out.lt; have cl2 := C2.out.lt; have i02 := I2.out.cell 0; have k02 := C2.out.cell 0; have k12 := C2.out.cell 1; have k22 := C2.out.cell 2; have k32 := C2.out.cell 3; have k42 := C2.out.cell 4; clear hb B1 I1 C1 il1 cl1 i01 k01 k11 k21 k31 k41))
    go_ret
    exact ⟨rfl, B2.out⟩
  cases b3
  · obtain rfl := e3 rfl rfl rfl
    have HC1 := Lib.hid hC1; clear hC1
    have HC2 := Lib.hid hC2; clear hC2
    have HC3 := Lib.hid hC3; clear hC3
    clear hF hsm e1 e2 e3 e4 e5 eh hC4 hC5 hC6 hb1 hb2 hb3 hb4
    go_enter Tryz.func29, Tryz.ntmps29
    go_wp2_with (first
      | (go_at_call 56; refine (HC1.out _ (by exact B0.out)).mono ?_; rintro e w1 ⟨rfl, hb⟩; have B1 := hide (B0.out.trans (hb.mono B0.out.size)); have I1 := hide (I0.out.below hb); have C1 := hide (C0.out.below hb); have il1 := I1.out.lt; have cl1 := C1.out.lt; have i01 := I1.out.cell 0; have k01 := C1.out.cell 0; have k11 := C1.out.cell 1; have k21 := C1.out.cell 2; have k31 := C1.out.cell 3; have k41 := C1.out.cell 4; clear hb B0 I0 C0)
      | (go_at_call 57; refine (HC2.out _ (by exact B1.out)).mono ?_; rintro e w2 ⟨rfl, hb⟩; have B2 := hide (B1.out.trans (hb.mono B1.out.size)); have I2 := hide (I1.out.below hb); have C2 := hide (C1.out.below hb); have il2 := I2.out.lt; have cl2 := C2.out.lt; have i02 := I2.out.cell 0; have k02 := C2.out.cell 0; have k12 := C2.out.cell 1; have k22 := C2.out.cell 2; have k32 := C2.out.cell 3; have k42 := C2.out.cell 4; clear hb B1 I1 C1 il1 cl1 i01 k01 k11 k21 k31 k41)
      | (go_at_call 58; refine (HC3.out _ (by exact B2.out)).mono ?_; rintro e w3 ⟨rfl, hb⟩; have B3 := hide (B2.out.trans (hb.mono B2.out.size)); have I3 := hide (I2.out.below hb); have C3 := hide (C2.out.below hb); have il3 := I3.out.lt; have cl3 := C3.out.lt; have i03 := I3.out.cell 0; have k03 := C3.out.cell 0; have k13 := C3.out.cell 1; have k23 := C3.out.cell 2; have k33 := C3.out.cell 3; have k43 := C3.out.cell 4; clear hb B2 I2 C2 il2 cl2 i02 k02 k12 k22 k32 k42))
    go_ret
    exact ⟨rfl, B3.out⟩
  cases b4
  · obtain rfl := e4 rfl rfl rfl rfl
    have HC1 := Lib.hid hC1; clear hC1
    have HC2 := Lib.hid hC2; clear hC2
    have HC3 := Lib.hid hC3; clear hC3
    have HC4 := Lib.hid hC4; clear hC4
    clear hF hsm e1 e2 e3 e4 e5 eh hC5 hC6 hb1 hb2 hb3 hb4
    go_enter Tryz.func29, Tryz.ntmps29
    go_wp2_with (first
      | (go_at_call 56; refine (HC1.out _ (by exact B0.out)).mono ?_; rintro e w1 ⟨rfl, hb⟩; have B1 := hide (B0.out.trans (hb.mono B0.out.size)); have I1 := hide (I0.out.below hb); have C1 := hide (C0.out.below hb); have il1 := I1.out.lt; have cl1 := C1.out.lt; have i01 := I1.out.cell 0; have k01 := C1.out.cell 0; have k11 := C1.out.cell 1; have k21 := C1.out.cell 2; have k31 := C1.out.cell 3; have k41 := C1.out.cell 4; clear hb B0 I0 C0)
      | (go_at_call 57; refine (HC2.out _ (by exact B1.out)).mono ?_; rintro e w2 ⟨rfl, hb⟩; have B2 := hide (B1.out.trans (hb.mono B1.out.size)); have I2 := hide (I1.out.below hb); have C2 := hide (C1.out.below hb); have il2 := I2.out.lt; have cl2 := C2.out.lt; have i02 := I2.out.cell 0; have k02 := C2.out.cell 0; have k12 := C2.out.cell 1; have k22 := C2.out.cell 2; have k32 := C2.out.cell 3; have k42 := C2.out.cell 4; clear hb B1 I1 C1 il1 cl1 i01 k01 k11 k21 k31 k41)
      | (go_at_call 58; refine (HC3.out _ (by exact B2.out)).mono ?_; rintro e w3 ⟨rfl, hb⟩; have B3 := hide (B2.out.trans (hb.mono B2.out.size)); have I3 := hide (I2.out.below hb); have C3 := hide (C2.out.below hb); have il3 := I3.out.lt; have cl3 := C3.out.lt; have i03 := I3.out.cell 0; have k03 := C3.out.cell 0; have k13 := C3.out.cell 1; have k23 := C3.out.cell 2; have k33 := C3.out.cell 3; have k43 := C3.out.cell 4; clear hb B2 I2 C2 il2 cl2 i02 k02 k12 k22 k32 k42)
      | (go_at_call 59; refine (HC4.out _ (by exact B3.out)).mono ?_; rintro e w4 ⟨rfl, hb⟩; have B4 := hide (B3.out.trans (hb.mono B3.out.size)); have I4 := hide (I3.out.below hb); have C4 := hide (C3.out.below hb); have il4 := I4.out.lt; have cl4 := C4.out.lt; have i04 := I4.out.cell 0; have k04 := C4.out.cell 0; have k14 := C4.out.cell 1; have k24 := C4.out.cell 2; have k34 := C4.out.cell 3; have k44 := C4.out.cell 4; clear hb B3 I3 C3 il3 cl3 i03 k03 k13 k23 k33 k43))
    go_ret
    exact ⟨rfl, B4.out⟩
  have hfit := hF rfl rfl rfl
  have hsm' := hsm rfl
  have hC5' := hC5 hfit
  have hC6' := hC6 hsm'
  clear hC5 hC6 hF hsm e1 e2 e3 e4
  by_cases hbad : W.bad
  · obtain rfl := e5 rfl rfl rfl rfl hbad
    have hC5 : ∀ W', Below w.heap.size w W' → Calls Tryz.prog 26 #[.agg #[.slice A l.length c], .agg #[.int .i64 m0, .int .i64 m1, .slice A2 l2.length c2, .slice A3 I.length c3, .slice A4 R.length c4]] W' fun e w' => (∃ v, e = .returned (.tuple #[v, .bool false])) ∧ Below W'.heap.size W' w' := fun W' hW' => (hC5' W' hW').mono fun e w' ⟨v, b, hs, h1, h2, h3, h4⟩ => by
      rcases h3 with ⟨rfl, hi⟩ | ⟨rfl, _, _⟩
      · exact absurd hbad hi.good
      · exact ⟨⟨v, h1⟩, h4⟩
    have HC1 := Lib.hid hC1; clear hC1
    have HC2 := Lib.hid hC2; clear hC2
    have HC3 := Lib.hid hC3; clear hC3
    have HC4 := Lib.hid hC4; clear hC4
    have HC5 := Lib.hid hC5; clear hC5
    clear e5 eh hb1 hb2 hb3 hb4 hC5' hC6' hbad
    go_enter Tryz.func29, Tryz.ntmps29
    go_wp2_with (first
      | (go_at_call 56; refine (HC1.out _ (by exact B0.out)).mono ?_; rintro e w1 ⟨rfl, hb⟩; have B1 := hide (B0.out.trans (hb.mono B0.out.size)); have I1 := hide (I0.out.below hb); have C1 := hide (C0.out.below hb); have il1 := I1.out.lt; have cl1 := C1.out.lt; have i01 := I1.out.cell 0; have k01 := C1.out.cell 0; have k11 := C1.out.cell 1; have k21 := C1.out.cell 2; have k31 := C1.out.cell 3; have k41 := C1.out.cell 4; clear hb B0 I0 C0)
      | (go_at_call 57; refine (HC2.out _ (by exact B1.out)).mono ?_; rintro e w2 ⟨rfl, hb⟩; have B2 := hide (B1.out.trans (hb.mono B1.out.size)); have I2 := hide (I1.out.below hb); have C2 := hide (C1.out.below hb); have il2 := I2.out.lt; have cl2 := C2.out.lt; have i02 := I2.out.cell 0; have k02 := C2.out.cell 0; have k12 := C2.out.cell 1; have k22 := C2.out.cell 2; have k32 := C2.out.cell 3; have k42 := C2.out.cell 4; clear hb B1 I1 C1 il1 cl1 i01 k01 k11 k21 k31 k41)
      | (go_at_call 58; refine (HC3.out _ (by exact B2.out)).mono ?_; rintro e w3 ⟨rfl, hb⟩; have B3 := hide (B2.out.trans (hb.mono B2.out.size)); have I3 := hide (I2.out.below hb); have C3 := hide (C2.out.below hb); have il3 := I3.out.lt; have cl3 := C3.out.lt; have i03 := I3.out.cell 0; have k03 := C3.out.cell 0; have k13 := C3.out.cell 1; have k23 := C3.out.cell 2; have k33 := C3.out.cell 3; have k43 := C3.out.cell 4; clear hb B2 I2 C2 il2 cl2 i02 k02 k12 k22 k32 k42)
      | (go_at_call 59; refine (HC4.out _ (by exact B3.out)).mono ?_; rintro e w4 ⟨rfl, hb⟩; have B4 := hide (B3.out.trans (hb.mono B3.out.size)); have I4 := hide (I3.out.below hb); have C4 := hide (C3.out.below hb); have il4 := I4.out.lt; have cl4 := C4.out.lt; have i04 := I4.out.cell 0; have k04 := C4.out.cell 0; have k14 := C4.out.cell 1; have k24 := C4.out.cell 2; have k34 := C4.out.cell 3; have k44 := C4.out.cell 4; clear hb B3 I3 C3 il3 cl3 i03 k03 k13 k23 k33 k43)
      | (go_at_call 26; refine (HC5.out _ (by exact B4.out)).mono ?_; rintro e w5 ⟨⟨v5, rfl⟩, hb⟩; have B5 := hide (B4.out.trans (hb.mono B4.out.size)); have I5 := hide (I4.out.below hb); have C5 := hide (C4.out.below hb); have il5 := I5.out.lt; have cl5 := C5.out.lt; have i05 := I5.out.cell 0; have k05 := C5.out.cell 0; have k15 := C5.out.cell 1; have k25 := C5.out.cell 2; have k35 := C5.out.cell 3; have k45 := C5.out.cell 4; clear hb B4 I4 C4 il4 cl4 i04 k04 k14 k24 k34 k44))
    go_ret
    exact ⟨rfl, B5.out⟩
  have hC5 : ∀ W', Below w.heap.size w W' → Calls Tryz.prog 26 #[.agg #[.slice A l.length c], .agg #[.int .i64 m0, .int .i64 m1, .slice A2 l2.length c2, .slice A3 I.length c3, .slice A4 R.length c4]] W' fun e w' => (∃ v hs, e = .returned (.tuple #[v, .bool true]) ∧ w'.ownsRow W'.heap.size 3 1 v hs.length (icells .i64 hs) ∧ HInv W hs []) ∧ Below W'.heap.size W' w' := fun W' hW' => (hC5' W' hW').mono fun e w' ⟨v, b, hs, h1, h2, h3, h4⟩ => by
    rcases h3 with ⟨rfl, hi⟩ | ⟨rfl, h, _⟩
    · exact ⟨⟨v, hs, h1, h2, hi⟩, h4⟩
    · exact absurd h hbad
  have hKh := fun hs => eh hs rfl rfl rfl rfl

  have HC1 := Lib.hid hC1; clear hC1
  have HC2 := Lib.hid hC2; clear hC2
  have HC3 := Lib.hid hC3; clear hC3
  have HC4 := Lib.hid hC4; clear hC4
  have HC5 := Lib.hid hC5; clear hC5
  have HC6 := Lib.hid hC6'; have HKh := Lib.hid hKh; have Fit' := hide hfit
  clear e5 eh hb1 hb2 hb3 hb4 hC5' hC6' hbad hKh hfit hsm'
  go_enter Tryz.func29, Tryz.ntmps29
  go_wp2_with (first
    | (go_at_call 56; refine (HC1.out _ (by exact B0.out)).mono ?_; rintro e w1 ⟨rfl, hb⟩; have B1 := hide (B0.out.trans (hb.mono B0.out.size)); have I1 := hide (I0.out.below hb); have C1 := hide (C0.out.below hb); have il1 := I1.out.lt; have cl1 := C1.out.lt; have i01 := I1.out.cell 0; have k01 := C1.out.cell 0; have k11 := C1.out.cell 1; have k21 := C1.out.cell 2; have k31 := C1.out.cell 3; have k41 := C1.out.cell 4; clear hb B0 I0 C0)
    | (go_at_call 57; refine (HC2.out _ (by exact B1.out)).mono ?_; rintro e w2 ⟨rfl, hb⟩; have B2 := hide (B1.out.trans (hb.mono B1.out.size)); have I2 := hide (I1.out.below hb); have C2 := hide (C1.out.below hb); have il2 := I2.out.lt; have cl2 := C2.out.lt; have i02 := I2.out.cell 0; have k02 := C2.out.cell 0; have k12 := C2.out.cell 1; have k22 := C2.out.cell 2; have k32 := C2.out.cell 3; have k42 := C2.out.cell 4; clear hb B1 I1 C1 il1 cl1 i01 k01 k11 k21 k31 k41)
    | (go_at_call 58; refine (HC3.out _ (by exact B2.out)).mono ?_; rintro e w3 ⟨rfl, hb⟩; have B3 := hide (B2.out.trans (hb.mono B2.out.size)); have I3 := hide (I2.out.below hb); have C3 := hide (C2.out.below hb); have il3 := I3.out.lt; have cl3 := C3.out.lt; have i03 := I3.out.cell 0; have k03 := C3.out.cell 0; have k13 := C3.out.cell 1; have k23 := C3.out.cell 2; have k33 := C3.out.cell 3; have k43 := C3.out.cell 4; clear hb B2 I2 C2 il2 cl2 i02 k02 k12 k22 k32 k42)
    | (go_at_call 59; refine (HC4.out _ (by exact B3.out)).mono ?_; rintro e w4 ⟨rfl, hb⟩; have B4 := hide (B3.out.trans (hb.mono B3.out.size)); have I4 := hide (I3.out.below hb); have C4 := hide (C3.out.below hb); have il4 := I4.out.lt; have cl4 := C4.out.lt; have i04 := I4.out.cell 0; have k04 := C4.out.cell 0; have k14 := C4.out.cell 1; have k24 := C4.out.cell 2; have k34 := C4.out.cell 3; have k44 := C4.out.cell 4; clear hb B3 I3 C3 il3 cl3 i03 k03 k13 k23 k33 k43)
    | (go_at_call 26; refine (HC5.out _ (by exact B4.out)).mono ?_; rintro e w5 ⟨⟨v5, hs, rfl, hown, hinv⟩, hb⟩; have B5 := hide (B4.out.trans (hb.mono B4.out.size)); have I5 := hide (I4.out.below hb); have C5 := hide (C4.out.below hb); have il5 := I5.out.lt; have cl5 := C5.out.lt; have i05 := I5.out.cell 0; have k05 := C5.out.cell 0; have k15 := C5.out.cell 1; have k25 := C5.out.cell 2; have k35 := C5.out.cell 3; have k45 := C5.out.cell 4; obtain ⟨Ah, ch, rfl⟩ := own_form hown; have HO5 := hide (own_base hown B4.out.size); have Hinv := hide hinv; have HK := hide (HKh.out hs hinv); have zb5 := hb.size; clear hown hinv; clear hb B4 I4 C4 il4 cl4 i04 k04 k14 k24 k34 k44))
  clear il5 cl5 i05 k05 k15 k25 k35 k45
  have hhN : hs.length = I.length := by rw [← hWN]; exact Hinv.out.1
  obtain ⟨R6, hR6⟩ : ∃ R6, R6 = anyAt (fun a v t => bad6 R a v t) 0 hs I := ⟨_, rfl⟩
  obtain ⟨R7, hR7⟩ : ∃ R7, R7 = anyAt (fun _ v t => bad7 v t) 0 hs I := ⟨_, rfl⟩
  have h6 : R6 = true → K = 6 := fun h => HK.out.trans (codeH_6 (by rw [← hR6]; exact h))
  have h7 : R6 = false → R7 = true → K = 7 := fun h h' => HK.out.trans (codeH_7 (by rw [← hR6]; exact h) (by rw [← hR7]; exact h'))
  have h0 : R6 = false → R7 = false → K = 0 := fun h h' => HK.out.trans (codeH_0 (by rw [← hR6]; exact h) (by rw [← hR7]; exact h'))
  have st6 : ∀ k (h1 : k < hs.length) (h2 : k < I.length), anyAt (fun a v t => bad6 R a v t) k (hs.drop k) (I.drop k) = (bad6 R k hs[k] I[k] || anyAt (fun a v t => bad6 R a v t) (k + 1) (hs.drop (k + 1)) (I.drop (k + 1))) := fun k h1 h2 => anyAt_step h1 h2
  have st7 : ∀ k (h1 : k < hs.length) (h2 : k < I.length), anyAt (fun _ v t => bad7 v t) k (hs.drop k) (I.drop k) = (bad7 hs[k] I[k] || anyAt (fun _ v t => bad7 v t) (k + 1) (hs.drop (k + 1)) (I.drop (k + 1))) := fun k h1 h2 => anyAt_step h1 h2
  have en6 : anyAt (fun a v t => bad6 R a v t) I.length (hs.drop I.length) (I.drop I.length) = false := anyAt_end hhN
  have en7 : anyAt (fun _ v t => bad7 v t) I.length (hs.drop I.length) (I.drop I.length) = false := anyAt_end hhN
  have HR6 := hide hR6; have HR7 := hide hR7; have H6f := Lib.hid h6; have H7f := Lib.hid h7; have H0f := Lib.hid h0; have St6 := Lib.hid st6; have St7 := Lib.hid st7; have En6 := hide en6; have En7 := hide en7; have HhN := hide hhN
  have hRaise := fun (o : Int) (w : World) => spec_l5Raises o w
  have HRaise := Lib.hid hRaise
  clear hR6 hR7 h6 h7 h0 st6 st7 en6 en7 HKh HK hhN hRaise
  go_loopw [46] (fun i wr => ∃ k : Nat, k ≤ I.length ∧ i = .int .i64 k ∧ anyAt (fun a v t => bad6 R a v t) k (hs.drop k) (I.drop k) = R6 ∧ Below w.heap.size w wr ∧ Bk wr (w.heap.size + 1) 39 #[.int .i64 m0, .int .i64 m1, .slice A2 l2.length c2, .slice A3 I.length c3, .slice A4 R.length c4] ∧ wr.ownsRow w.heap.size 3 1 (.slice Ah hs.length ch) hs.length (icells .i64 hs)) (fun i _ => I.length - (intOf i).toNat)
  case atStart => exact ⟨0, by omega, rfl, HR6.out.symm, B5.out, C5.out, HO5.out⟩
  case round =>
    obtain ⟨k, hk, rfl, hany, hb, hc, ho⟩ := hrel
    have hbs := hb.size
    have hcl := hc.lt
    by_cases hlt : k < I.length
    · have hkh : k < hs.length := by rw [HhN.out]; exact hlt
      obtain ⟨b3, o3, e3, hb3, t0, t1⟩ := Hin.out.two hlt
      subst e3
      have s0 := (hb.cell (p := ⟨b3, o3 + k * 2, none⟩) hb3).trans t0
      have s1 := (hb.cell (p := ⟨b3, o3 + k * 2 + 1, none⟩) hb3).trans t1
      have hb3w : b3 < wr.heap.size := by omega
      obtain ⟨bh, oh, eh', hbh, th⟩ := (Rd.of_own ho).at_ (j := k) (by rw [icells_length]; exact hkh)
      rw [icells_get _ _ hkh] at th
      subst eh'
      rw [St6.out k hkh hlt] at hany
      have hbd := rowIx_bd k R 0
      have k4 := hc.cell 4
      have hRo := fun W' (hW' : Below w.heap.size w W') kk (hkk : kk < R.length) => three3 (Rd.here Hro.out hW') hkk
      have hnx := fun h : bad6 R k hs[k] I[k] = false => (by rw [h, Bool.false_or] at hany; exact hany : anyAt (fun a v t => bad6 R a v t) (k + 1) (hs.drop (k + 1)) (I.drop (k + 1)) = R6)
      have hye := fun h : bad6 R k hs[k] I[k] = true => H6f.out (by rw [h, Bool.true_or] at hany; exact hany.symm)
      have HRo := Lib.hid hRo; have Hnx := Lib.hid hnx; have Hye := Lib.hid hye; have Hbd := hide hbd
      clear t0 t1 hany hRo hnx hye hbd
      generalize I[k] = t at *
      obtain ⟨to, tn⟩ := t
      generalize hs[k] = v at *
      dsimp only at *
      have HB' := hide (hb.alloc hbs (.cells #[.int .i64 to, .int .i64 tn] 41))
      have HC' := hide (hc.alloc (.cells #[.int .i64 to, .int .i64 tn] 41))
      have HO' := hide (ho.alloc (.cells #[.int .i64 to, .int .i64 tn] 41))
      have HI' := hide (Bk.new wr 41 #[.int .i64 to, .int .i64 tn])
      have Hth := hide (show (wr.alloc (.cells #[.int .i64 to, .int .i64 tn] 41)).cell? ⟨bh, oh + k, none⟩ = some (.int .i64 v) from (((Below.refl wr.heap.size wr).alloc (Nat.le_refl _) _).cell (p := ⟨bh, oh + k, none⟩) hbh).trans th)
      have Hbh := hide (show bh < (wr.alloc (.cells #[.int .i64 to, .int .i64 tn] 41)).heap.size by rw [World.size_alloc]; omega)
      have h6c := HC6.out k _ HB'.out
      have hrz := HRaise.out to
      generalize hXe : rowIx k R 0 = X at *
      have HXe := hide hXe; clear hXe
      have H6c := hide h6c
      clear hb hc ho th h6c
      by_cases hv : v < 0
      · have HN := hide (Hnx.out (bad6_neg hv))
        have hv' : ¬ 0 ≤ v := by omega
        clear hrz Hnx Hye
        go_wp2_with (go_at_call 60; refine (H6c.out).mono ?_; rintro e w7 ⟨rfl, hb7⟩; have HB7 := hide (HB'.out.trans (hb7.mono HB'.out.size)); have HC7 := hide (HC'.out.below hb7); have HO7 := hide (own_keep HO'.out hb7); have hi7 := HI'.out.below hb7; have i0 := hi7.cell 0; have i0l := hi7.lt; have th7 := (hb7.cell (p := ⟨bh, oh + k, none⟩) Hbh.out).trans Hth.out; have th7l := Nat.lt_of_lt_of_le Hbh.out hb7.size; have k47 := HC7.out.cell 4; have k47l := HC7.out.lt; clear hb7 hi7 k4)
        go_roundw
        case rel => exact ⟨k + 1, by omega, by go_num, HN.out, HB7.out, HC7.out, HO7.out⟩
        case measure => simp [intOf]; omega
      have hv0 : 0 ≤ v := by omega
      cases hra : raiseB to
      · simp only [hra] at hrz
        have HN := hide (Hnx.out (bad6_calm hra)); have Hrz := Lib.hid hrz; clear hrz Hnx Hye hra
        go_wp2_with (first
          | (go_at_call 60; refine (H6c.out).mono ?_; rintro e w7 ⟨rfl, hb7⟩; have HB7 := hide (HB'.out.trans (hb7.mono HB'.out.size)); have HC7 := hide (HC'.out.below hb7); have HO7 := hide (own_keep HO'.out hb7); have hi7 := HI'.out.below hb7; have i0 := hi7.cell 0; have i0l := hi7.lt; have th7 := (hb7.cell (p := ⟨bh, oh + k, none⟩) Hbh.out).trans Hth.out; have th7l := Nat.lt_of_lt_of_le Hbh.out hb7.size; have k47 := HC7.out.cell 4; have k47l := HC7.out.lt; clear hb7 hi7 k4)
          | (go_at_call 61; refine (Hrz.out _).mono ?_; rintro e w8 ⟨rfl, rfl⟩))
        go_roundw
        case rel => exact ⟨k + 1, by omega, by go_num, HN.out, HB7.out, HC7.out, HO7.out⟩
        case measure => simp [intOf]; omega
      simp only [hra] at hrz
      have Hrz := Lib.hid hrz; clear hrz
      by_cases hX : X < 0
      · have H6 := hide (Hye.out (bad6_out hv0 hra (by rw [HXe.out]; exact hX))); clear Hnx Hye hra
        go_wp2_with (first
          | (go_at_call 60; refine (H6c.out).mono ?_; rintro e w7 ⟨rfl, hb7⟩; have HB7 := hide (HB'.out.trans (hb7.mono HB'.out.size)); have HC7 := hide (HC'.out.below hb7); have HO7 := hide (own_keep HO'.out hb7); have hi7 := HI'.out.below hb7; have i0 := hi7.cell 0; have i0l := hi7.lt; have th7 := (hb7.cell (p := ⟨bh, oh + k, none⟩) Hbh.out).trans Hth.out; have th7l := Nat.lt_of_lt_of_le Hbh.out hb7.size; have k47 := HC7.out.cell 4; have k47l := HC7.out.lt; clear hb7 hi7 k4)
          | (go_at_call 61; refine (Hrz.out _).mono ?_; rintro e w8 ⟨rfl, rfl⟩))
        go_ret
        exact ⟨retI H6.out.symm, HB7.out⟩
      obtain ⟨kk, rfl⟩ : ∃ kk : Nat, X = kk := ⟨X.toNat, by omega⟩
      have hkk : kk < R.length := by have := Hbd.out; omega
      have hdec := bad6_row (rows := R) (a := k) (v := v) (t := ⟨to, tn⟩) (k := kk) hv0 hra HXe.out hkk
      have hkkI : (kk : Int) < (R.length : Int) := by omega
      have hkk0 : (0 : Int) ≤ (kk : Int) := by omega
      obtain ⟨b9, o9, e9, hb9, -, -, tp⟩ := three3 Hro.out hkk
      subst e9
      have Htp := hide tp; clear tp HRo HXe Hbd
      generalize R[kk].p = pd at *
      by_cases hpd : pd ≤ (k : Int)
      · have H6 := hide (Hye.out (hdec.trans (decide_eq_true hpd))); clear Hnx Hye hra hdec
        go_wp2_with (first
          | (go_at_call 60; refine (H6c.out).mono ?_; rintro e w7 ⟨rfl, hb7⟩; have HB7 := hide (HB'.out.trans (hb7.mono HB'.out.size)); have HC7 := hide (HC'.out.below hb7); have HO7 := hide (own_keep HO'.out hb7); have hi7 := HI'.out.below hb7; have i0 := hi7.cell 0; have i0l := hi7.lt; have th7 := (hb7.cell (p := ⟨bh, oh + k, none⟩) Hbh.out).trans Hth.out; have th7l := Nat.lt_of_lt_of_le Hbh.out hb7.size; have k47 := HC7.out.cell 4; have k47l := HC7.out.lt; have p9 := (HB7.out.cell (p := ⟨b9, o9 + kk * 3 + 2, none⟩) hb9).trans Htp.out; have p9l : b9 < w7.heap.size := Nat.lt_of_lt_of_le hb9 HB7.out.size; clear hb7 hi7 k4)
          | (go_at_call 61; refine (Hrz.out _).mono ?_; rintro e w8 ⟨rfl, rfl⟩))
        go_ret
        exact ⟨retI H6.out.symm, HB7.out⟩
      · have HN := hide (Hnx.out (hdec.trans (decide_eq_false hpd))); clear Hnx Hye hra hdec
        go_wp2_with (first
          | (go_at_call 60; refine (H6c.out).mono ?_; rintro e w7 ⟨rfl, hb7⟩; have HB7 := hide (HB'.out.trans (hb7.mono HB'.out.size)); have HC7 := hide (HC'.out.below hb7); have HO7 := hide (own_keep HO'.out hb7); have hi7 := HI'.out.below hb7; have i0 := hi7.cell 0; have i0l := hi7.lt; have th7 := (hb7.cell (p := ⟨bh, oh + k, none⟩) Hbh.out).trans Hth.out; have th7l := Nat.lt_of_lt_of_le Hbh.out hb7.size; have k47 := HC7.out.cell 4; have k47l := HC7.out.lt; have p9 := (HB7.out.cell (p := ⟨b9, o9 + kk * 3 + 2, none⟩) hb9).trans Htp.out; have p9l : b9 < w7.heap.size := Nat.lt_of_lt_of_le hb9 HB7.out.size; clear hb7 hi7 k4)
          | (go_at_call 61; refine (Hrz.out _).mono ?_; rintro e w8 ⟨rfl, rfl⟩))
        go_roundw
        case rel => exact ⟨k + 1, by omega, by go_num, HN.out, HB7.out, HC7.out, HO7.out⟩
        case measure => simp [intOf]; omega
    · obtain rfl : k = I.length := by omega
      have hR6 : R6 = false := hany.symm.trans En6.out
      have HZ6 := hide hR6
      have k3 := hc.cell 3
      have HB6 := hide hb; have HC6' := hide hc; have HO6 := hide ho
      clear hany hb hc ho hR6
      go_wp2
      clear k3
      go_loopw [83] (fun i wi => ∃ k : Nat, k ≤ I.length ∧ i = .int .i64 k ∧ anyAt (fun _ v t => bad7 v t) k (hs.drop k) (I.drop k) = R7 ∧ Below w.heap.size w wi ∧ wi.ownsRow w.heap.size 3 1 (.slice Ah hs.length ch) hs.length (icells .i64 hs)) (fun i _ => I.length - (intOf i).toNat)
      case atStart => exact ⟨0, by omega, rfl, HR7.out.symm, HB6.out, HO6.out⟩
      case round =>
        obtain ⟨k, hk, rfl, hany, hb, ho⟩ := hrel
        have hbs := hb.size
        by_cases hlt : k < I.length
        · have hkh : k < hs.length := by rw [HhN.out]; exact hlt
          obtain ⟨b3, o3, e3, hb3, t0, t1⟩ := Hin.out.two hlt
          subst e3
          have s0 := (hb.cell (p := ⟨b3, o3 + k * 2, none⟩) hb3).trans t0
          have s1 := (hb.cell (p := ⟨b3, o3 + k * 2 + 1, none⟩) hb3).trans t1
          have hb3w : b3 < wr.heap.size := by omega
          obtain ⟨bh, oh, eh', hbh, th⟩ := (Rd.of_own ho).at_ (j := k) (by rw [icells_length]; exact hkh)
          rw [icells_get _ _ hkh] at th
          subst eh'
          rw [St7.out k hkh hlt] at hany
          have hnx := fun h : bad7 hs[k] I[k] = false => (by rw [h, Bool.false_or] at hany; exact hany : anyAt (fun _ v t => bad7 v t) (k + 1) (hs.drop (k + 1)) (I.drop (k + 1)) = R7)
          have hye := fun h : bad7 hs[k] I[k] = true => H7f.out HZ6.out (by rw [h, Bool.true_or] at hany; exact hany.symm)
          have Hnx := Lib.hid hnx; have Hye := Lib.hid hye
          clear t0 t1 hany hnx hye
          generalize I[k] = t at *
          obtain ⟨to, tn⟩ := t
          generalize hs[k] = v at *
          dsimp only at *
          have HB7 := hide (hb.alloc hbs (.cells #[.int .i64 to, .int .i64 tn] 41))
          have HO7 := hide (ho.alloc (.cells #[.int .i64 to, .int .i64 tn] 41))
          clear hb ho
          cases hfl : flatB to
          · obtain ⟨n1, n2, n3, n4⟩ := flat_no hfl
            have q1 := int_ne n1; have q2 := int_ne n2; have q3 := int_ne n3; have q4 := int_ne n4
            have HN := hide (Hnx.out (bad7_no hfl)); clear Hnx Hye hfl n1 n2 n3 n4
            by_cases hv : 0 < v
            all_goals
              go_wp2
              go_roundw
              case rel => exact ⟨k + 1, by omega, by go_num, HN.out, HB7.out, HO7.out⟩
              case measure => simp [intOf]; omega
          · have hfe := bad7_flat (v := v) (t := ⟨to, tn⟩) hfl
            by_cases hv : 0 < v
            · have H6 := hide (Hye.out (hfe.trans (decide_eq_true hv))); clear Hnx Hye hfe
              rcases flat_yes hfl with rfl | rfl | rfl | rfl
              all_goals
                clear hfl
                go_wp2
                go_ret
                exact ⟨retI H6.out.symm, HB7.out⟩
            · have HN := hide (Hnx.out (hfe.trans (decide_eq_false hv))); clear Hnx Hye hfe
              rcases flat_yes hfl with rfl | rfl | rfl | rfl
              all_goals
                clear hfl
                go_wp2
                go_roundw
                case rel => exact ⟨k + 1, by omega, by go_num, HN.out, HB7.out, HO7.out⟩
                case measure => simp [intOf]; omega
        · obtain rfl : k = I.length := by omega
          have H6 := hide (H0f.out HZ6.out (hany.symm.trans En7.out))
          have HB7 := hide hb; have HO7 := hide ho
          clear hany hb ho
          go_wp2
          go_ret
          exact ⟨retI H6.out.symm, HB7.out⟩
end Go.Proofs.YtgkjakoagdkpcaaGreatDoor
set_option linter.unusedSimpArgs false
set_option linter.unusedVariables false
set_option maxRecDepth 100000
namespace Go.Proofs.YtgkjakoagdkpcaaGreatDoor
open Go.RowKit

theorem retV {v : Value} {a b : Int} (h : a = b) : Ending.returned (.tuple #[v, .int .i64 a]) = .returned (.tuple #[v, .int .i64 b]) := by rw [h]
set_option maxHeartbeats 12800000 in
theorem impl_checkCode (xs : List Value) (x : ImageM) (fn : Nat) (w : World) (hx : RImage w 0 w.heap.size xs x) (hfn : fn < x.qCodes.length) (hsz : sizedB x.qCodes = true) :
    Calls Tryz.prog 25 #[.agg xs.toArray, .int .i64 fn] w fun e w' => ∃ v hs, e = .returned (.tuple #[v, .int .i64 (codeN x.qCodes x.qCodes[fn])]) ∧ w'.ownsRow w.heap.size 3 1 v hs.length (icells .i64 hs) ∧ (codeN x.qCodes x.qCodes[fn] = 0 → HInv (waysOf x.qCodes x.qCodes[fn]) hs []) ∧ (codeN x.qCodes x.qCodes[fn] ≠ 0 → hs = []) ∧ Below w.heap.size w w' := by
  have hx0 := hx
  have hmem : x.qCodes[fn] ∈ x.qCodes := List.getElem_mem hfn
  obtain ⟨hl1, hall⟩ := sizedB_iff.1 hsz
  obtain ⟨v0, rfl, h0⟩ := hx
  obtain ⟨A, c, rfl⟩ := h0.form
  obtain ⟨b0, o0, v2, v3, v4, rfl, hbB0, d0, d1, d2, d3, d4, hc⟩ := RCode_at h0 hfn
  have hc0 := hc
  generalize x.qCodes[fn] = m at *
  obtain ⟨_, _, _, hN, hR300, hI⟩ := codeOk_iff.1 (hall m hmem)
  obtain ⟨_, _, _, ey, h2, h3, h4⟩ := hc
  cases ey
  obtain ⟨A2, c2, rfl⟩ := h2.form
  obtain ⟨A3, c3, rfl⟩ := h3.form
  obtain ⟨A4, c4, rfl⟩ := h4.form
  have hF := fun h1 h3' h4' => fit_of (l := x.qCodes) (c := m) hsz hmem h1 h3' h4'
  have hsm := fun h => small_of_rows m.qIns.length (by omega) m.qRows 0 (by omega) h
  have hC1 := fun W (hW : Below w.heap.size w W) => impl_areNamed _ _ x m W (RImage_stable.here hx0 hW) (RCode_stable.here hc0 hW)
  have hC2 : ∀ W, Below w.heap.size w W → Bk W w.heap.size 26 #[.slice (some ⟨b0, o0, none⟩) x.qCodes.length c] → Calls Tryz.prog 49 #[.slice A2 m.qSites.length c2, .func (.func 50) #[] #[.pointer (some ⟨w.heap.size, 0, none⟩)]] W fun e w' => e = .returned (.bool (!m.qSites.all (siteI x.qCodes))) ∧ Below W.heap.size W w' := fun W hW hk => by
    rw [List.all_eq_not_any_not, Bool.not_not]
    exact anyIntG _ m.qSites (fun n => !siteI x.qCodes n) 50 _ (enters_of Tryz.func50 (by kernel_rfl) rfl) W (h2.here hW).rd (fun n W' hW' => checkCode1 n _ c x.qCodes w.heap.size W' (hk.below hW') ((h0.here RCode_stable hW).here RCode_stable hW') hl1.2)
  have hC3 := fun W (hW : Below w.heap.size w W) => impl_goesOn (.slice A3 m.qIns.length c3) m.qIns W (h3.here hW).rd hN.2 hI
  have hC4 := fun W (hW : Below w.heap.size w W) => impl_areRows (.slice A4 m.qRows.length c4) m.qRows m.qIns.length W (h4.here hW).rd (by omega) (by omega) (by omega)
  have hC5 := fun hF W (hW : Below w.heap.size w W) => impl_heightsOf _ _ x m W (RImage_stable.here hx0 hW) (RCode_stable.here hc0 hW) hF
  have hC6 := fun (hsm : small m.qRows) (a : Int) W (hW : Below w.heap.size w W) => impl_rowOf (.slice A4 m.qRows.length c4) m.qRows a W (h4.here hW).rd (by omega)
  have hin := h3.rd
  have hro := h4.rd
  obtain ⟨K, hK⟩ : ∃ K, K = codeN x.qCodes m := ⟨_, rfl⟩
  have e1 := @codeN_1 x.qCodes m
  have e2 := @codeN_2 x.qCodes m
  have e3 := @codeN_3 x.qCodes m
  have e4 := @codeN_4 x.qCodes m
  have e5 := @codeN_5 x.qCodes m
  have eh := fun hs => @codeN_h x.qCodes m hs
  rw [← hK] at e1 e2 e3 e4 e5 ⊢
  simp only [← hK] at eh
  clear hK
  obtain ⟨W, hW⟩ : ∃ W, W = waysOf x.qCodes m := ⟨_, rfl⟩
  have hWN : W.N = m.qIns.length := by rw [hW]; rfl
  simp only [← hW] at eh hC5 e5 ⊢
  clear hW hx0 hc0 hmem hall hsz hI h2 h3 h4
  obtain ⟨l⟩ := x
  obtain ⟨m0, m1, l2, I, R⟩ := m
  dsimp only at *
  have hl := h0.long
  have hfnI : (fn : Int) < (l.length : Int) := by omega
  have hfn0 : (0 : Int) ≤ (fn : Int) := by omega
  have B0 := hide (((Below.refl w.heap.size w).alloc (Nat.le_refl _) (.cells #[.slice (some ⟨b0, o0, none⟩) l.length c] 26)).alloc (by rw [World.size_alloc]; omega) (.cells #[.int .i64 m0, .int .i64 m1, .slice A2 l2.length c2, .slice A3 I.length c3, .slice A4 R.length c4] 39))
  have I0 := hide ((Bk.new w 26 #[.slice (some ⟨b0, o0, none⟩) l.length c]).alloc (.cells #[.int .i64 m0, .int .i64 m1, .slice A2 l2.length c2, .slice A3 I.length c3, .slice A4 R.length c4] 39))
  have C0 := hide (show Bk ((w.alloc (.cells #[.slice (some ⟨b0, o0, none⟩) l.length c] 26)).alloc (.cells #[.int .i64 m0, .int .i64 m1, .slice A2 l2.length c2, .slice A3 I.length c3, .slice A4 R.length c4] 39)) (w.heap.size + 1) 39 #[.int .i64 m0, .int .i64 m1, .slice A2 l2.length c2, .slice A3 I.length c3, .slice A4 R.length c4] by
    have h := Bk.new (w.alloc (.cells #[.slice (some ⟨b0, o0, none⟩) l.length c] 26)) 39 #[.int .i64 m0, .int .i64 m1, .slice A2 l2.length c2, .slice A3 I.length c3, .slice A4 R.length c4]
    rw [World.size_alloc] at h
    exact h)
  have Hin := hide hin; have Hro := hide hro
  clear hin hro h0
  generalize hb1 : I.all (namedI l.length ⟨m0, m1, l2, I, R⟩) = b1 at *
  generalize hb2 : l2.all (siteI l) = b2 at *
  generalize hb3 : goesL I.length 0 I = b3 at *
  generalize hb4 : rowsOk I.length 0 R = b4 at *
  cases b1
  · obtain rfl := e1 rfl
    have HC1 := Lib.hid hC1; clear hC1
    clear hF hsm e1 e2 e3 e4 e5 eh hC2 hC3 hC4 hC5 hC6 hb1 hb2 hb3 hb4
    go_enter Tryz.func25, Tryz.ntmps25
    go_wp2_with (first
      | (go_at_call 48; refine (HC1.out _ (by exact B0.out)).mono ?_; rintro e w1 ⟨rfl, hb⟩; have B1 := hide (B0.out.trans (hb.mono B0.out.size)); have I1 := hide (I0.out.below hb); have C1 := hide (C0.out.below hb); have il1 := I1.out.lt; have cl1 := C1.out.lt; have i01 := I1.out.cell 0; have k01 := C1.out.cell 0; have k11 := C1.out.cell 1; have k21 := C1.out.cell 2; have k31 := C1.out.cell 3; have k41 := C1.out.cell 4; clear hb B0 I0 C0))
    go_ret2
    exact ⟨_, [], rfl, World.ownsRow_nil _ _ _ _, fun h => absurd h (by decide), fun _ => rfl, B1.out⟩
  cases b2
  · obtain rfl := e2 rfl rfl
    have HC1 := Lib.hid hC1; clear hC1
    have HC2 := Lib.hid hC2; clear hC2
    clear hF hsm e1 e2 e3 e4 e5 eh hC3 hC4 hC5 hC6 hb1 hb2 hb3 hb4
    go_enter Tryz.func25, Tryz.ntmps25
    go_wp2_with (first
      | (go_at_call 48; refine (HC1.out _ (by exact B0.out)).mono ?_; rintro e w1 ⟨rfl, hb⟩; have B1 := hide (B0.out.trans (hb.mono B0.out.size)); have I1 := hide (I0.out.below hb); have C1 := hide (C0.out.below hb); have il1 := I1.out.lt; have cl1 := C1.out.lt; have i01 := I1.out.cell 0; have k01 := C1.out.cell 0; have k11 := C1.out.cell 1; have k21 := C1.out.cell 2; have k31 := C1.out.cell 3; have k41 := C1.out.cell 4; clear hb B0 I0 C0)
      | (go_at_call 49; refine (HC2.out _ (by exact B1.out) (by exact I1.out)).mono ?_; rintro e w2 ⟨rfl, hb⟩; have B2 := hide (B1.out.trans (hb.mono B1.out.size)); have I2 := hide (I1.out.below hb); have C2 := hide (C1.out.below hb); have il2 := I2.out.lt; have cl2 := C2.out.lt; have i02 := I2.out.cell 0; have k02 := C2.out.cell 0; have k12 := C2.out.cell 1; have k22 := C2.out.cell 2; have k32 := C2.out.cell 3; have k42 := C2.out.cell 4; clear hb B1 I1 C1 il1 cl1 i01 k01 k11 k21 k31 k41))
    go_ret2
    exact ⟨_, [], rfl, World.ownsRow_nil _ _ _ _, fun h => absurd h (by decide), fun _ => rfl, B2.out⟩
  cases b3
  · obtain rfl := e3 rfl rfl rfl
    have HC1 := Lib.hid hC1; clear hC1
    have HC2 := Lib.hid hC2; clear hC2
    have HC3 := Lib.hid hC3; clear hC3
    clear hF hsm e1 e2 e3 e4 e5 eh hC4 hC5 hC6 hb1 hb2 hb3 hb4
    go_enter Tryz.func25, Tryz.ntmps25
    go_wp2_with (first
      | (go_at_call 48; refine (HC1.out _ (by exact B0.out)).mono ?_; rintro e w1 ⟨rfl, hb⟩; have B1 := hide (B0.out.trans (hb.mono B0.out.size)); have I1 := hide (I0.out.below hb); have C1 := hide (C0.out.below hb); have il1 := I1.out.lt; have cl1 := C1.out.lt; have i01 := I1.out.cell 0; have k01 := C1.out.cell 0; have k11 := C1.out.cell 1; have k21 := C1.out.cell 2; have k31 := C1.out.cell 3; have k41 := C1.out.cell 4; clear hb B0 I0 C0)
      | (go_at_call 49; refine (HC2.out _ (by exact B1.out) (by exact I1.out)).mono ?_; rintro e w2 ⟨rfl, hb⟩; have B2 := hide (B1.out.trans (hb.mono B1.out.size)); have I2 := hide (I1.out.below hb); have C2 := hide (C1.out.below hb); have il2 := I2.out.lt; have cl2 := C2.out.lt; have i02 := I2.out.cell 0; have k02 := C2.out.cell 0; have k12 := C2.out.cell 1; have k22 := C2.out.cell 2; have k32 := C2.out.cell 3; have k42 := C2.out.cell 4; clear hb B1 I1 C1 il1 cl1 i01 k01 k11 k21 k31 k41)
      | (go_at_call 51; refine (HC3.out _ (by exact B2.out)).mono ?_; rintro e w3 ⟨rfl, hb⟩; have B3 := hide (B2.out.trans (hb.mono B2.out.size)); have I3 := hide (I2.out.below hb); have C3 := hide (C2.out.below hb); have il3 := I3.out.lt; have cl3 := C3.out.lt; have i03 := I3.out.cell 0; have k03 := C3.out.cell 0; have k13 := C3.out.cell 1; have k23 := C3.out.cell 2; have k33 := C3.out.cell 3; have k43 := C3.out.cell 4; clear hb B2 I2 C2 il2 cl2 i02 k02 k12 k22 k32 k42))
    go_ret2
    exact ⟨_, [], rfl, World.ownsRow_nil _ _ _ _, fun h => absurd h (by decide), fun _ => rfl, B3.out⟩
  cases b4
  · obtain rfl := e4 rfl rfl rfl rfl
    have HC1 := Lib.hid hC1; clear hC1
    have HC2 := Lib.hid hC2; clear hC2
    have HC3 := Lib.hid hC3; clear hC3
    have HC4 := Lib.hid hC4; clear hC4
    clear hF hsm e1 e2 e3 e4 e5 eh hC5 hC6 hb1 hb2 hb3 hb4
    go_enter Tryz.func25, Tryz.ntmps25
    go_wp2_with (first
      | (go_at_call 48; refine (HC1.out _ (by exact B0.out)).mono ?_; rintro e w1 ⟨rfl, hb⟩; have B1 := hide (B0.out.trans (hb.mono B0.out.size)); have I1 := hide (I0.out.below hb); have C1 := hide (C0.out.below hb); have il1 := I1.out.lt; have cl1 := C1.out.lt; have i01 := I1.out.cell 0; have k01 := C1.out.cell 0; have k11 := C1.out.cell 1; have k21 := C1.out.cell 2; have k31 := C1.out.cell 3; have k41 := C1.out.cell 4; clear hb B0 I0 C0)
      | (go_at_call 49; refine (HC2.out _ (by exact B1.out) (by exact I1.out)).mono ?_; rintro e w2 ⟨rfl, hb⟩; have B2 := hide (B1.out.trans (hb.mono B1.out.size)); have I2 := hide (I1.out.below hb); have C2 := hide (C1.out.below hb); have il2 := I2.out.lt; have cl2 := C2.out.lt; have i02 := I2.out.cell 0; have k02 := C2.out.cell 0; have k12 := C2.out.cell 1; have k22 := C2.out.cell 2; have k32 := C2.out.cell 3; have k42 := C2.out.cell 4; clear hb B1 I1 C1 il1 cl1 i01 k01 k11 k21 k31 k41)
      | (go_at_call 51; refine (HC3.out _ (by exact B2.out)).mono ?_; rintro e w3 ⟨rfl, hb⟩; have B3 := hide (B2.out.trans (hb.mono B2.out.size)); have I3 := hide (I2.out.below hb); have C3 := hide (C2.out.below hb); have il3 := I3.out.lt; have cl3 := C3.out.lt; have i03 := I3.out.cell 0; have k03 := C3.out.cell 0; have k13 := C3.out.cell 1; have k23 := C3.out.cell 2; have k33 := C3.out.cell 3; have k43 := C3.out.cell 4; clear hb B2 I2 C2 il2 cl2 i02 k02 k12 k22 k32 k42)
      | (go_at_call 52; refine (HC4.out _ (by exact B3.out)).mono ?_; rintro e w4 ⟨rfl, hb⟩; have B4 := hide (B3.out.trans (hb.mono B3.out.size)); have I4 := hide (I3.out.below hb); have C4 := hide (C3.out.below hb); have il4 := I4.out.lt; have cl4 := C4.out.lt; have i04 := I4.out.cell 0; have k04 := C4.out.cell 0; have k14 := C4.out.cell 1; have k24 := C4.out.cell 2; have k34 := C4.out.cell 3; have k44 := C4.out.cell 4; clear hb B3 I3 C3 il3 cl3 i03 k03 k13 k23 k33 k43))
    go_ret2
    exact ⟨_, [], rfl, World.ownsRow_nil _ _ _ _, fun h => absurd h (by decide), fun _ => rfl, B4.out⟩
  have hfit := hF rfl rfl rfl
  have hsm' := hsm rfl
  have hC5' := hC5 hfit
  have hC6' := hC6 hsm'
  clear hC5 hC6 hF hsm e1 e2 e3 e4
  by_cases hbad : W.bad
  · obtain rfl := e5 rfl rfl rfl rfl hbad
    have hC5 : ∀ W', Below w.heap.size w W' → Calls Tryz.prog 53 #[.agg #[.slice (some ⟨b0, o0, none⟩) l.length c], .agg #[.int .i64 m0, .int .i64 m1, .slice A2 l2.length c2, .slice A3 I.length c3, .slice A4 R.length c4]] W' fun e w' => (∃ v, e = .returned (.tuple #[v, .bool false])) ∧ Below W'.heap.size W' w' := fun W' hW' => (hC5' W' hW').mono fun e w' ⟨v, b, hs, h1, h2, h3, h4⟩ => by
      rcases h3 with ⟨rfl, hi⟩ | ⟨rfl, _, _⟩
      · exact absurd hbad hi.good
      · exact ⟨⟨v, h1⟩, h4⟩
    have HC1 := Lib.hid hC1; clear hC1
    have HC2 := Lib.hid hC2; clear hC2
    have HC3 := Lib.hid hC3; clear hC3
    have HC4 := Lib.hid hC4; clear hC4
    have HC5 := Lib.hid hC5; clear hC5
    clear e5 eh hb1 hb2 hb3 hb4 hC5' hC6' hbad
    go_enter Tryz.func25, Tryz.ntmps25
    go_wp2_with (first
      | (go_at_call 48; refine (HC1.out _ (by exact B0.out)).mono ?_; rintro e w1 ⟨rfl, hb⟩; have B1 := hide (B0.out.trans (hb.mono B0.out.size)); have I1 := hide (I0.out.below hb); have C1 := hide (C0.out.below hb); have il1 := I1.out.lt; have cl1 := C1.out.lt; have i01 := I1.out.cell 0; have k01 := C1.out.cell 0; have k11 := C1.out.cell 1; have k21 := C1.out.cell 2; have k31 := C1.out.cell 3; have k41 := C1.out.cell 4; clear hb B0 I0 C0)
      | (go_at_call 49; refine (HC2.out _ (by exact B1.out) (by exact I1.out)).mono ?_; rintro e w2 ⟨rfl, hb⟩; have B2 := hide (B1.out.trans (hb.mono B1.out.size)); have I2 := hide (I1.out.below hb); have C2 := hide (C1.out.below hb); have il2 := I2.out.lt; have cl2 := C2.out.lt; have i02 := I2.out.cell 0; have k02 := C2.out.cell 0; have k12 := C2.out.cell 1; have k22 := C2.out.cell 2; have k32 := C2.out.cell 3; have k42 := C2.out.cell 4; clear hb B1 I1 C1 il1 cl1 i01 k01 k11 k21 k31 k41)
      | (go_at_call 51; refine (HC3.out _ (by exact B2.out)).mono ?_; rintro e w3 ⟨rfl, hb⟩; have B3 := hide (B2.out.trans (hb.mono B2.out.size)); have I3 := hide (I2.out.below hb); have C3 := hide (C2.out.below hb); have il3 := I3.out.lt; have cl3 := C3.out.lt; have i03 := I3.out.cell 0; have k03 := C3.out.cell 0; have k13 := C3.out.cell 1; have k23 := C3.out.cell 2; have k33 := C3.out.cell 3; have k43 := C3.out.cell 4; clear hb B2 I2 C2 il2 cl2 i02 k02 k12 k22 k32 k42)
      | (go_at_call 52; refine (HC4.out _ (by exact B3.out)).mono ?_; rintro e w4 ⟨rfl, hb⟩; have B4 := hide (B3.out.trans (hb.mono B3.out.size)); have I4 := hide (I3.out.below hb); have C4 := hide (C3.out.below hb); have il4 := I4.out.lt; have cl4 := C4.out.lt; have i04 := I4.out.cell 0; have k04 := C4.out.cell 0; have k14 := C4.out.cell 1; have k24 := C4.out.cell 2; have k34 := C4.out.cell 3; have k44 := C4.out.cell 4; clear hb B3 I3 C3 il3 cl3 i03 k03 k13 k23 k33 k43)
      | (go_at_call 53; refine (HC5.out _ (by exact B4.out)).mono ?_; rintro e w5 ⟨⟨v5, rfl⟩, hb⟩; have B5 := hide (B4.out.trans (hb.mono B4.out.size)); have I5 := hide (I4.out.below hb); have C5 := hide (C4.out.below hb); have il5 := I5.out.lt; have cl5 := C5.out.lt; have i05 := I5.out.cell 0; have k05 := C5.out.cell 0; have k15 := C5.out.cell 1; have k25 := C5.out.cell 2; have k35 := C5.out.cell 3; have k45 := C5.out.cell 4; clear hb B4 I4 C4 il4 cl4 i04 k04 k14 k24 k34 k44))
    go_ret2
    exact ⟨_, [], rfl, World.ownsRow_nil _ _ _ _, fun h => absurd h (by decide), fun _ => rfl, B5.out⟩
  have hC5 : ∀ W', Below w.heap.size w W' → Calls Tryz.prog 53 #[.agg #[.slice (some ⟨b0, o0, none⟩) l.length c], .agg #[.int .i64 m0, .int .i64 m1, .slice A2 l2.length c2, .slice A3 I.length c3, .slice A4 R.length c4]] W' fun e w' => (∃ v hs, e = .returned (.tuple #[v, .bool true]) ∧ w'.ownsRow W'.heap.size 3 1 v hs.length (icells .i64 hs) ∧ HInv W hs []) ∧ Below W'.heap.size W' w' := fun W' hW' => (hC5' W' hW').mono fun e w' ⟨v, b, hs, h1, h2, h3, h4⟩ => by
    rcases h3 with ⟨rfl, hi⟩ | ⟨rfl, h, _⟩
    · exact ⟨⟨v, hs, h1, h2, hi⟩, h4⟩
    · exact absurd h hbad
  have hKh := fun hs => eh hs rfl rfl rfl rfl

  have HC1 := Lib.hid hC1; clear hC1
  have HC2 := Lib.hid hC2; clear hC2
  have HC3 := Lib.hid hC3; clear hC3
  have HC4 := Lib.hid hC4; clear hC4
  have HC5 := Lib.hid hC5; clear hC5
  have HC6 := Lib.hid hC6'; have HKh := Lib.hid hKh; have Fit' := hide hfit
  clear e5 eh hb1 hb2 hb3 hb4 hC5' hC6' hbad hKh hfit hsm'
  go_enter Tryz.func25, Tryz.ntmps25
  go_wp2_with (first
    | (go_at_call 48; refine (HC1.out _ (by exact B0.out)).mono ?_; rintro e w1 ⟨rfl, hb⟩; have B1 := hide (B0.out.trans (hb.mono B0.out.size)); have I1 := hide (I0.out.below hb); have C1 := hide (C0.out.below hb); have il1 := I1.out.lt; have cl1 := C1.out.lt; have i01 := I1.out.cell 0; have k01 := C1.out.cell 0; have k11 := C1.out.cell 1; have k21 := C1.out.cell 2; have k31 := C1.out.cell 3; have k41 := C1.out.cell 4; clear hb B0 I0 C0)
    | (go_at_call 49; refine (HC2.out _ (by exact B1.out) (by exact I1.out)).mono ?_; rintro e w2 ⟨rfl, hb⟩; have B2 := hide (B1.out.trans (hb.mono B1.out.size)); have I2 := hide (I1.out.below hb); have C2 := hide (C1.out.below hb); have il2 := I2.out.lt; have cl2 := C2.out.lt; have i02 := I2.out.cell 0; have k02 := C2.out.cell 0; have k12 := C2.out.cell 1; have k22 := C2.out.cell 2; have k32 := C2.out.cell 3; have k42 := C2.out.cell 4; clear hb B1 I1 C1 il1 cl1 i01 k01 k11 k21 k31 k41)
    | (go_at_call 51; refine (HC3.out _ (by exact B2.out)).mono ?_; rintro e w3 ⟨rfl, hb⟩; have B3 := hide (B2.out.trans (hb.mono B2.out.size)); have I3 := hide (I2.out.below hb); have C3 := hide (C2.out.below hb); have il3 := I3.out.lt; have cl3 := C3.out.lt; have i03 := I3.out.cell 0; have k03 := C3.out.cell 0; have k13 := C3.out.cell 1; have k23 := C3.out.cell 2; have k33 := C3.out.cell 3; have k43 := C3.out.cell 4; clear hb B2 I2 C2 il2 cl2 i02 k02 k12 k22 k32 k42)
    | (go_at_call 52; refine (HC4.out _ (by exact B3.out)).mono ?_; rintro e w4 ⟨rfl, hb⟩; have B4 := hide (B3.out.trans (hb.mono B3.out.size)); have I4 := hide (I3.out.below hb); have C4 := hide (C3.out.below hb); have il4 := I4.out.lt; have cl4 := C4.out.lt; have i04 := I4.out.cell 0; have k04 := C4.out.cell 0; have k14 := C4.out.cell 1; have k24 := C4.out.cell 2; have k34 := C4.out.cell 3; have k44 := C4.out.cell 4; clear hb B3 I3 C3 il3 cl3 i03 k03 k13 k23 k33 k43)
    | (go_at_call 53; refine (HC5.out _ (by exact B4.out)).mono ?_; rintro e w5 ⟨⟨v5, hs, rfl, hown, hinv⟩, hb⟩; have B5 := hide (B4.out.trans (hb.mono B4.out.size)); have I5 := hide (I4.out.below hb); have C5 := hide (C4.out.below hb); have il5 := I5.out.lt; have cl5 := C5.out.lt; have i05 := I5.out.cell 0; have k05 := C5.out.cell 0; have k15 := C5.out.cell 1; have k25 := C5.out.cell 2; have k35 := C5.out.cell 3; have k45 := C5.out.cell 4; obtain ⟨Ah, ch, rfl⟩ := own_form hown; have HO5 := hide (own_base hown B4.out.size); have Hinv := hide hinv; have HK := hide (HKh.out hs hinv); have zb5 := hb.size; clear hown hinv; clear hb B4 I4 C4 il4 cl4 i04 k04 k14 k24 k34 k44))
  clear il5 cl5 i05 k05 k15 k25 k35 k45
  have hhN : hs.length = I.length := by rw [← hWN]; exact Hinv.out.1
  obtain ⟨R6, hR6⟩ : ∃ R6, R6 = anyAt (fun a v t => bad6 R a v t) 0 hs I := ⟨_, rfl⟩
  obtain ⟨R7, hR7⟩ : ∃ R7, R7 = anyAt (fun _ v t => bad7 v t) 0 hs I := ⟨_, rfl⟩
  have h6 : R6 = true → K = 6 := fun h => HK.out.trans (codeH_6 (by rw [← hR6]; exact h))
  have h7 : R6 = false → R7 = true → K = 7 := fun h h' => HK.out.trans (codeH_7 (by rw [← hR6]; exact h) (by rw [← hR7]; exact h'))
  have h0 : R6 = false → R7 = false → K = 0 := fun h h' => HK.out.trans (codeH_0 (by rw [← hR6]; exact h) (by rw [← hR7]; exact h'))
  have st6 : ∀ k (h1 : k < hs.length) (h2 : k < I.length), anyAt (fun a v t => bad6 R a v t) k (hs.drop k) (I.drop k) = (bad6 R k hs[k] I[k] || anyAt (fun a v t => bad6 R a v t) (k + 1) (hs.drop (k + 1)) (I.drop (k + 1))) := fun k h1 h2 => anyAt_step h1 h2
  have st7 : ∀ k (h1 : k < hs.length) (h2 : k < I.length), anyAt (fun _ v t => bad7 v t) k (hs.drop k) (I.drop k) = (bad7 hs[k] I[k] || anyAt (fun _ v t => bad7 v t) (k + 1) (hs.drop (k + 1)) (I.drop (k + 1))) := fun k h1 h2 => anyAt_step h1 h2
  have en6 : anyAt (fun a v t => bad6 R a v t) I.length (hs.drop I.length) (I.drop I.length) = false := anyAt_end hhN
  have en7 : anyAt (fun _ v t => bad7 v t) I.length (hs.drop I.length) (I.drop I.length) = false := anyAt_end hhN
  have HR6 := hide hR6; have HR7 := hide hR7; have H6f := Lib.hid h6; have H7f := Lib.hid h7; have H0f := Lib.hid h0; have St6 := Lib.hid st6; have St7 := Lib.hid st7; have En6 := hide en6; have En7 := hide en7; have HhN := hide hhN
  have hRaise := fun (o : Int) (w : World) => impl_mayRaise o w
  have HRaise := Lib.hid hRaise
  clear hR6 hR7 h6 h7 h0 st6 st7 en6 en7 HKh HK hhN hRaise
  go_loopw [53] (fun i wr => ∃ k : Nat, k ≤ I.length ∧ i = .int .i64 k ∧ anyAt (fun a v t => bad6 R a v t) k (hs.drop k) (I.drop k) = R6 ∧ Below w.heap.size w wr ∧ Bk wr (w.heap.size + 1) 39 #[.int .i64 m0, .int .i64 m1, .slice A2 l2.length c2, .slice A3 I.length c3, .slice A4 R.length c4] ∧ wr.ownsRow w.heap.size 3 1 (.slice Ah hs.length ch) hs.length (icells .i64 hs)) (fun i _ => I.length - (intOf i).toNat)
  case atStart => exact ⟨0, by omega, rfl, HR6.out.symm, B5.out, C5.out, HO5.out⟩
  case round =>
    obtain ⟨k, hk, rfl, hany, hb, hc, ho⟩ := hrel
    have hbs := hb.size
    have hcl := hc.lt
    by_cases hlt : k < I.length
    · have hkh : k < hs.length := by rw [HhN.out]; exact hlt
      obtain ⟨b3, o3, e3, hb3, t0, t1⟩ := Hin.out.two hlt
      subst e3
      have s0 := (hb.cell (p := ⟨b3, o3 + k * 2, none⟩) hb3).trans t0
      have s1 := (hb.cell (p := ⟨b3, o3 + k * 2 + 1, none⟩) hb3).trans t1
      have hb3w : b3 < wr.heap.size := by omega
      obtain ⟨bh, oh, eh', hbh, th⟩ := (Rd.of_own ho).at_ (j := k) (by rw [icells_length]; exact hkh)
      rw [icells_get _ _ hkh] at th
      subst eh'
      rw [St6.out k hkh hlt] at hany
      have hbd := rowIx_bd k R 0
      have k4 := hc.cell 4
      have hRo := fun W' (hW' : Below w.heap.size w W') kk (hkk : kk < R.length) => three3 (Rd.here Hro.out hW') hkk
      have hnx := fun h : bad6 R k hs[k] I[k] = false => (by rw [h, Bool.false_or] at hany; exact hany : anyAt (fun a v t => bad6 R a v t) (k + 1) (hs.drop (k + 1)) (I.drop (k + 1)) = R6)
      have hye := fun h : bad6 R k hs[k] I[k] = true => H6f.out (by rw [h, Bool.true_or] at hany; exact hany.symm)
      have HRo := Lib.hid hRo; have Hnx := Lib.hid hnx; have Hye := Lib.hid hye; have Hbd := hide hbd
      clear t0 t1 hany hRo hnx hye hbd
      generalize I[k] = t at *
      obtain ⟨to, tn⟩ := t
      generalize hs[k] = v at *
      dsimp only at *
      have HB' := hide (hb.alloc hbs (.cells #[.int .i64 to, .int .i64 tn] 41))
      have HC' := hide (hc.alloc (.cells #[.int .i64 to, .int .i64 tn] 41))
      have HO' := hide (ho.alloc (.cells #[.int .i64 to, .int .i64 tn] 41))
      have HI' := hide (Bk.new wr 41 #[.int .i64 to, .int .i64 tn])
      have Hth := hide (show (wr.alloc (.cells #[.int .i64 to, .int .i64 tn] 41)).cell? ⟨bh, oh + k, none⟩ = some (.int .i64 v) from (((Below.refl wr.heap.size wr).alloc (Nat.le_refl _) _).cell (p := ⟨bh, oh + k, none⟩) hbh).trans th)
      have Hbh := hide (show bh < (wr.alloc (.cells #[.int .i64 to, .int .i64 tn] 41)).heap.size by rw [World.size_alloc]; omega)
      have h6c := HC6.out k _ HB'.out
      have hrz := HRaise.out to
      generalize hXe : rowIx k R 0 = X at *
      have HXe := hide hXe; clear hXe
      have H6c := hide h6c
      clear hb hc ho th h6c
      by_cases hv : v < 0
      · have HN := hide (Hnx.out (bad6_neg hv))
        have hv' : ¬ 0 ≤ v := by omega
        clear hrz Hnx Hye
        go_wp2_with (go_at_call 54; refine (H6c.out).mono ?_; rintro e w7 ⟨rfl, hb7⟩; have HB7 := hide (HB'.out.trans (hb7.mono HB'.out.size)); have HC7 := hide (HC'.out.below hb7); have HO7 := hide (own_keep HO'.out hb7); have hi7 := HI'.out.below hb7; have i0 := hi7.cell 0; have i0l := hi7.lt; have th7 := (hb7.cell (p := ⟨bh, oh + k, none⟩) Hbh.out).trans Hth.out; have th7l := Nat.lt_of_lt_of_le Hbh.out hb7.size; have k47 := HC7.out.cell 4; have k47l := HC7.out.lt; clear hb7 hi7 k4)
        go_roundw
        case rel => exact ⟨k + 1, by omega, by go_num, HN.out, HB7.out, HC7.out, HO7.out⟩
        case measure => simp [intOf]; omega
      have hv0 : 0 ≤ v := by omega
      cases hra : raiseB to
      · simp only [hra] at hrz
        have HN := hide (Hnx.out (bad6_calm hra)); have Hrz := Lib.hid hrz; clear hrz Hnx Hye hra
        go_wp2_with (first
          | (go_at_call 54; refine (H6c.out).mono ?_; rintro e w7 ⟨rfl, hb7⟩; have HB7 := hide (HB'.out.trans (hb7.mono HB'.out.size)); have HC7 := hide (HC'.out.below hb7); have HO7 := hide (own_keep HO'.out hb7); have hi7 := HI'.out.below hb7; have i0 := hi7.cell 0; have i0l := hi7.lt; have th7 := (hb7.cell (p := ⟨bh, oh + k, none⟩) Hbh.out).trans Hth.out; have th7l := Nat.lt_of_lt_of_le Hbh.out hb7.size; have k47 := HC7.out.cell 4; have k47l := HC7.out.lt; clear hb7 hi7 k4)
          | (go_at_call 55; refine (Hrz.out _).mono ?_; rintro e w8 ⟨rfl, rfl⟩))
        go_roundw
        case rel => exact ⟨k + 1, by omega, by go_num, HN.out, HB7.out, HC7.out, HO7.out⟩
        case measure => simp [intOf]; omega
      simp only [hra] at hrz
      have Hrz := Lib.hid hrz; clear hrz
      by_cases hX : X < 0
      · have H6 := hide (Hye.out (bad6_out hv0 hra (by rw [HXe.out]; exact hX))); clear Hnx Hye hra
        go_wp2_with (first
          | (go_at_call 54; refine (H6c.out).mono ?_; rintro e w7 ⟨rfl, hb7⟩; have HB7 := hide (HB'.out.trans (hb7.mono HB'.out.size)); have HC7 := hide (HC'.out.below hb7); have HO7 := hide (own_keep HO'.out hb7); have hi7 := HI'.out.below hb7; have i0 := hi7.cell 0; have i0l := hi7.lt; have th7 := (hb7.cell (p := ⟨bh, oh + k, none⟩) Hbh.out).trans Hth.out; have th7l := Nat.lt_of_lt_of_le Hbh.out hb7.size; have k47 := HC7.out.cell 4; have k47l := HC7.out.lt; clear hb7 hi7 k4)
          | (go_at_call 55; refine (Hrz.out _).mono ?_; rintro e w8 ⟨rfl, rfl⟩))
        go_ret2
        exact ⟨_, [], retV H6.out.symm, World.ownsRow_nil _ _ _ _, fun h => absurd (H6.out.symm.trans h) (by decide), fun _ => rfl, HB7.out⟩
      obtain ⟨kk, rfl⟩ : ∃ kk : Nat, X = kk := ⟨X.toNat, by omega⟩
      have hkk : kk < R.length := by have := Hbd.out; omega
      have hdec := bad6_row (rows := R) (a := k) (v := v) (t := ⟨to, tn⟩) (k := kk) hv0 hra HXe.out hkk
      have hkkI : (kk : Int) < (R.length : Int) := by omega
      have hkk0 : (0 : Int) ≤ (kk : Int) := by omega
      obtain ⟨b9, o9, e9, hb9, -, -, tp⟩ := three3 Hro.out hkk
      subst e9
      have Htp := hide tp; clear tp HRo HXe Hbd
      generalize R[kk].p = pd at *
      by_cases hpd : pd ≤ (k : Int)
      · have H6 := hide (Hye.out (hdec.trans (decide_eq_true hpd))); clear Hnx Hye hra hdec
        go_wp2_with (first
          | (go_at_call 54; refine (H6c.out).mono ?_; rintro e w7 ⟨rfl, hb7⟩; have HB7 := hide (HB'.out.trans (hb7.mono HB'.out.size)); have HC7 := hide (HC'.out.below hb7); have HO7 := hide (own_keep HO'.out hb7); have hi7 := HI'.out.below hb7; have i0 := hi7.cell 0; have i0l := hi7.lt; have th7 := (hb7.cell (p := ⟨bh, oh + k, none⟩) Hbh.out).trans Hth.out; have th7l := Nat.lt_of_lt_of_le Hbh.out hb7.size; have k47 := HC7.out.cell 4; have k47l := HC7.out.lt; have p9 := (HB7.out.cell (p := ⟨b9, o9 + kk * 3 + 2, none⟩) hb9).trans Htp.out; have p9l : b9 < w7.heap.size := Nat.lt_of_lt_of_le hb9 HB7.out.size; clear hb7 hi7 k4)
          | (go_at_call 55; refine (Hrz.out _).mono ?_; rintro e w8 ⟨rfl, rfl⟩))
        go_ret2
        exact ⟨_, [], retV H6.out.symm, World.ownsRow_nil _ _ _ _, fun h => absurd (H6.out.symm.trans h) (by decide), fun _ => rfl, HB7.out⟩
      · have HN := hide (Hnx.out (hdec.trans (decide_eq_false hpd))); clear Hnx Hye hra hdec
        go_wp2_with (first
          | (go_at_call 54; refine (H6c.out).mono ?_; rintro e w7 ⟨rfl, hb7⟩; have HB7 := hide (HB'.out.trans (hb7.mono HB'.out.size)); have HC7 := hide (HC'.out.below hb7); have HO7 := hide (own_keep HO'.out hb7); have hi7 := HI'.out.below hb7; have i0 := hi7.cell 0; have i0l := hi7.lt; have th7 := (hb7.cell (p := ⟨bh, oh + k, none⟩) Hbh.out).trans Hth.out; have th7l := Nat.lt_of_lt_of_le Hbh.out hb7.size; have k47 := HC7.out.cell 4; have k47l := HC7.out.lt; have p9 := (HB7.out.cell (p := ⟨b9, o9 + kk * 3 + 2, none⟩) hb9).trans Htp.out; have p9l : b9 < w7.heap.size := Nat.lt_of_lt_of_le hb9 HB7.out.size; clear hb7 hi7 k4)
          | (go_at_call 55; refine (Hrz.out _).mono ?_; rintro e w8 ⟨rfl, rfl⟩))
        go_roundw
        case rel => exact ⟨k + 1, by omega, by go_num, HN.out, HB7.out, HC7.out, HO7.out⟩
        case measure => simp [intOf]; omega
    · obtain rfl : k = I.length := by omega
      have hR6 : R6 = false := hany.symm.trans En6.out
      have HZ6 := hide hR6
      have k3 := hc.cell 3
      have HB6 := hide hb; have HC6' := hide hc; have HO6 := hide ho
      clear hany hb hc ho hR6
      go_wp2
      clear k3
      go_loopw [90] (fun i wi => ∃ k : Nat, k ≤ I.length ∧ i = .int .i64 k ∧ anyAt (fun _ v t => bad7 v t) k (hs.drop k) (I.drop k) = R7 ∧ Below w.heap.size w wi ∧ wi.ownsRow w.heap.size 3 1 (.slice Ah hs.length ch) hs.length (icells .i64 hs)) (fun i _ => I.length - (intOf i).toNat)
      case atStart => exact ⟨0, by omega, rfl, HR7.out.symm, HB6.out, HO6.out⟩
      case round =>
        obtain ⟨k, hk, rfl, hany, hb, ho⟩ := hrel
        have hbs := hb.size
        by_cases hlt : k < I.length
        · have hkh : k < hs.length := by rw [HhN.out]; exact hlt
          obtain ⟨b3, o3, e3, hb3, t0, t1⟩ := Hin.out.two hlt
          subst e3
          have s0 := (hb.cell (p := ⟨b3, o3 + k * 2, none⟩) hb3).trans t0
          have s1 := (hb.cell (p := ⟨b3, o3 + k * 2 + 1, none⟩) hb3).trans t1
          have hb3w : b3 < wr.heap.size := by omega
          obtain ⟨bh, oh, eh', hbh, th⟩ := (Rd.of_own ho).at_ (j := k) (by rw [icells_length]; exact hkh)
          rw [icells_get _ _ hkh] at th
          subst eh'
          rw [St7.out k hkh hlt] at hany
          have hnx := fun h : bad7 hs[k] I[k] = false => (by rw [h, Bool.false_or] at hany; exact hany : anyAt (fun _ v t => bad7 v t) (k + 1) (hs.drop (k + 1)) (I.drop (k + 1)) = R7)
          have hye := fun h : bad7 hs[k] I[k] = true => H7f.out HZ6.out (by rw [h, Bool.true_or] at hany; exact hany.symm)
          have Hnx := Lib.hid hnx; have Hye := Lib.hid hye
          clear t0 t1 hany hnx hye
          generalize I[k] = t at *
          obtain ⟨to, tn⟩ := t
          generalize hs[k] = v at *
          dsimp only at *
          have HB7 := hide (hb.alloc hbs (.cells #[.int .i64 to, .int .i64 tn] 41))
          have HO7 := hide (ho.alloc (.cells #[.int .i64 to, .int .i64 tn] 41))
          clear hb ho
          cases hfl : flatB to
          · obtain ⟨n1, n2, n3, n4⟩ := flat_no hfl
            have q1 := int_ne n1; have q2 := int_ne n2; have q3 := int_ne n3; have q4 := int_ne n4
            have HN := hide (Hnx.out (bad7_no hfl)); clear Hnx Hye hfl n1 n2 n3 n4
            by_cases hv : 0 < v
            all_goals
              go_wp2
              go_roundw
              case rel => exact ⟨k + 1, by omega, by go_num, HN.out, HB7.out, HO7.out⟩
              case measure => simp [intOf]; omega
          · have hfe := bad7_flat (v := v) (t := ⟨to, tn⟩) hfl
            by_cases hv : 0 < v
            · have H6 := hide (Hye.out (hfe.trans (decide_eq_true hv))); clear Hnx Hye hfe
              rcases flat_yes hfl with rfl | rfl | rfl | rfl
              all_goals
                clear hfl
                go_wp2
                go_ret2
                exact ⟨_, [], retV H6.out.symm, World.ownsRow_nil _ _ _ _, fun h => absurd (H6.out.symm.trans h) (by decide), fun _ => rfl, HB7.out⟩
            · have HN := hide (Hnx.out (hfe.trans (decide_eq_false hv))); clear Hnx Hye hfe
              rcases flat_yes hfl with rfl | rfl | rfl | rfl
              all_goals
                clear hfl
                go_wp2
                go_roundw
                case rel => exact ⟨k + 1, by omega, by go_num, HN.out, HB7.out, HO7.out⟩
                case measure => simp [intOf]; omega
        · obtain rfl : k = I.length := by omega
          have H6 := hide (H0f.out HZ6.out (hany.symm.trans En7.out))
          have HB7 := hide hb; have HO7 := hide ho
          clear hany hb ho
          go_wp2
          go_ret2
          exact ⟨_, hs, retV H6.out.symm, HO7.out, fun _ => Hinv.out, fun h => absurd H6.out h, HB7.out⟩
end Go.Proofs.YtgkjakoagdkpcaaGreatDoor
set_option linter.unusedSimpArgs false
set_option linter.unusedVariables false
set_option maxRecDepth 100000
namespace Go.Proofs.YtgkjakoagdkpcaaGreatDoor
open Go.RowKit

theorem retIB2 {a b : Int} {c d : Bool} (h : a = b) (h2 : c = d) : Ending.returned (.tuple #[.int .i64 a, .bool c]) = .returned (.tuple #[.int .i64 b, .bool d]) := by rw [h, h2]
def gcOk (l : List CodeM) (fn : Int) : Bool := sizedB l && inB fn 0 (l.length - 1)
noncomputable def gcR (l : List CodeM) (fn : Int) : Int := if gcOk l fn then codeN l (l.getD fn.toNat c0) else 0
theorem gcOk_s {l : List CodeM} {fn : Int} (h : sizedB l = false) : gcOk l fn = false := by unfold gcOk; rw [h]; rfl
theorem gcOk_i {l : List CodeM} {fn : Int} (h : inB fn 0 (l.length - 1) = false) : gcOk l fn = false := by unfold gcOk; rw [h]; simp
theorem gcOk_y {l : List CodeM} {fn : Int} (h1 : sizedB l = true) (h : inB fn 0 (l.length - 1) = true) : gcOk l fn = true := by unfold gcOk; rw [h, h1]; rfl
theorem gcR_no {l : List CodeM} {fn : Int} (h : gcOk l fn = false) : gcR l fn = 0 := by unfold gcR; rw [h]; rfl
theorem gcR_yes {l : List CodeM} {n : Nat} (h : gcOk l n = true) (hn : n < l.length) : gcR l n = codeN l l[n] := by
  unfold gcR; rw [h, Int.toNat_natCast]
  simp [List.getD, List.getElem?_eq_getElem hn]
set_option maxHeartbeats 3200000 in
theorem impl_GoodCode (xs : List Value) (x : ImageM) (fn : Int) (w : World) (hx : RImage w 0 w.heap.size xs x) :
    Calls Tryz.prog 8 #[.agg xs.toArray, .int .i64 fn] w fun e w' => e = .returned (.tuple #[.int .i64 (gcR x.qCodes fn), .bool (gcOk x.qCodes fn)]) ∧ Below w.heap.size w w' := by
  have hx0 := hx
  obtain ⟨v0, rfl, h0⟩ := hx
  have hl := h0.long
  obtain ⟨A, c, rfl⟩ := h0.form
  have hb := (Below.refl w.heap.size w).alloc (Nat.le_refl _) (.cells #[.slice A x.qCodes.length c] 26)
  have hk := Bk.new w 26 #[.slice A x.qCodes.length c]
  have hS := impl_isSized _ x _ (RImage_stable.here hx0 hb)
  have hw := fun w => impl_within fn 0 (x.qCodes.length - 1) w
  have Hb := hide hb; have Hk := hide hk
  clear hb hk h0
  cases hs : sizedB x.qCodes
  · have h1 := gcOk_s (fn := fn) hs
    rw [gcR_no h1, h1]
    rw [hs] at hS
    have HS := hide hS; clear hS hs h1 hw hx0
    go_enter Tryz.func8, Tryz.ntmps8
    go_wp2_with (go_at_call 23; refine (HS.out).mono ?_; rintro e w1 ⟨rfl, hb1⟩)
    go_ret2
    exact ⟨rfl, Hb.out.trans (hb1.mono Hb.out.size)⟩
  rw [hs] at hS
  have HS := hide hS; clear hS
  cases hi : inB fn 0 (x.qCodes.length - 1)
  · have h1 := gcOk_i hi
    rw [gcR_no h1, h1]
    simp only [hi] at hw
    have HW := Lib.hid hw; clear hs h1 hw hi hx0
    go_enter Tryz.func8, Tryz.ntmps8
    go_wp2_with (first
      | (go_at_call 23; refine (HS.out).mono ?_; rintro e w1 ⟨rfl, hb1⟩; have q0 := (Hk.out.below hb1).cell 0)
      | (go_at_call 24; refine (HW.out _).mono ?_; rintro e w2 ⟨rfl, rfl⟩))
    go_ret2
    exact ⟨rfl, Hb.out.trans (hb1.mono Hb.out.size)⟩
  have h1 := gcOk_y hs hi
  obtain ⟨n, rfl, hn⟩ := in_nat hi
  simp only [hi] at hw
  rw [gcR_yes h1 hn, h1]
  have hC := fun W (hW : Below w.heap.size w W) => impl_checkCode _ x n W (RImage_stable.here hx0 hW) hn hs
  generalize codeN x.qCodes x.qCodes[n] = K at *
  have HW := Lib.hid hw; have HC := Lib.hid hC
  clear hw hC hs hi h1 hx0
  go_enter Tryz.func8, Tryz.ntmps8
  go_wp2_with (first
    | (go_at_call 23; refine (HS.out).mono ?_; rintro e w1 ⟨rfl, hb1⟩; have Hb1 := hide (Hb.out.trans (hb1.mono Hb.out.size)); have q0 := (Hk.out.below hb1).cell 0; clear hb1)
    | (go_at_call 24; refine (HW.out _).mono ?_; rintro e w2 ⟨rfl, rfl⟩)
    | (go_at_call 25; refine (HC.out _ Hb1.out).mono ?_; rintro e w3 ⟨v, hs, rfl, -, -, -, hb3⟩))
  go_ret2
  exact ⟨rfl, Hb1.out.trans (hb3.mono Hb1.out.size)⟩
set_option maxHeartbeats 3200000 in
theorem spec_GoodCode (xs : List Value) (x : ImageM) (fn : Int) (w : World) (hx : RImage w 0 w.heap.size xs x) :
    Calls Tryz.prog 9 #[.agg xs.toArray, .int .i64 fn] w fun e w' => e = .returned (.tuple #[.int .i64 (gcR x.qCodes fn), .bool (gcOk x.qCodes fn)]) ∧ Below w.heap.size w w' := by
  have hx0 := hx
  obtain ⟨v0, rfl, h0⟩ := hx
  have hl := h0.long
  obtain ⟨A, c, rfl⟩ := h0.form
  have hb := (Below.refl w.heap.size w).alloc (Nat.le_refl _) (.cells #[.slice A x.qCodes.length c] 26)
  have hk := Bk.new w 26 #[.slice A x.qCodes.length c]
  have hS := spec_l5Sized _ x _ (RImage_stable.here hx0 hb)
  have hw := fun w => spec_l1In fn 0 (x.qCodes.length - 1) w
  have Hb := hide hb; have Hk := hide hk
  clear hb hk
  cases hs : sizedB x.qCodes
  · have h1 := gcOk_s (fn := fn) hs
    rw [gcR_no h1, h1]
    rw [hs] at hS
    have HS := hide hS; clear hS hs h1 hw hx0 h0
    go_enter Tryz.func9, Tryz.ntmps9
    go_wp2_with (go_at_call 27; refine (HS.out).mono ?_; rintro e w1 ⟨rfl, hb1⟩)
    go_ret2
    exact ⟨rfl, Hb.out.trans (hb1.mono Hb.out.size)⟩
  rw [hs] at hS
  have HS := hide hS; clear hS
  cases hi : inB fn 0 (x.qCodes.length - 1)
  · have h1 := gcOk_i hi
    rw [gcR_no h1, h1]
    simp only [hi] at hw
    have HW := Lib.hid hw; clear hs h1 hw hi hx0 h0
    go_enter Tryz.func9, Tryz.ntmps9
    go_wp2_with (first
      | (go_at_call 27; refine (HS.out).mono ?_; rintro e w1 ⟨rfl, hb1⟩; have q0 := (Hk.out.below hb1).cell 0)
      | (go_at_call 28; refine (HW.out _).mono ?_; rintro e w2 ⟨rfl, rfl⟩))
    go_ret2
    exact ⟨rfl, Hb.out.trans (hb1.mono Hb.out.size)⟩
  have h1 := gcOk_y hs hi
  obtain ⟨n, rfl, hn⟩ := in_nat hi
  simp only [hi] at hw
  rw [gcR_yes h1 hn, h1]
  obtain ⟨b, o, v2, v3, v4, e9, hbB, d0, d1, d2, d3, d4, hc⟩ := RCode_at h0 hn
  have hC := fun W (hW : Below w.heap.size w W) => spec_l5Code _ _ x x.qCodes[n] W (RImage_stable.here hx0 hW) (RCode_stable.here hc hW) hs (List.getElem_mem hn)
  subst e9
  generalize codeN x.qCodes x.qCodes[n] = K at *
  generalize x.qCodes[n].qParams = p0 at *
  generalize x.qCodes[n].qVars = p1 at *
  have hE := fun W (hW : Below w.heap.size w W) => (⟨(hW.cell (p := ⟨b, o + n * 5, none⟩) hbB).trans d0, (hW.cell (p := ⟨b, o + n * 5 + 1, none⟩) hbB).trans d1, (hW.cell (p := ⟨b, o + n * 5 + 2, none⟩) hbB).trans d2, (hW.cell (p := ⟨b, o + n * 5 + 3, none⟩) hbB).trans d3, (hW.cell (p := ⟨b, o + n * 5 + 4, none⟩) hbB).trans d4⟩ : W.cell? ⟨b, o + n * 5, none⟩ = some (.int .i64 p0) ∧ W.cell? ⟨b, o + n * 5 + 1, none⟩ = some (.int .i64 p1) ∧ W.cell? ⟨b, o + n * 5 + 2, none⟩ = some v2 ∧ W.cell? ⟨b, o + n * 5 + 3, none⟩ = some v3 ∧ W.cell? ⟨b, o + n * 5 + 4, none⟩ = some v4)
  have HW := Lib.hid hw; have HC := Lib.hid hC; have HE := Lib.hid hE
  have hnI : (n : Int) < (x.qCodes.length : Int) := by omega
  have hn0 : (0 : Int) ≤ (n : Int) := by omega
  clear hw hC hs hi h1 hx0 h0 d0 d1 d2 d3 d4 hc hE
  go_enter Tryz.func9, Tryz.ntmps9
  go_wp2_with (first
    | (go_at_call 27; refine (HS.out).mono ?_; rintro e w1 ⟨rfl, hb1⟩; have Hb1 := hide (Hb.out.trans (hb1.mono Hb.out.size)); have hk1 := Hk.out.below hb1; have q0 := hk1.cell 0; have Hk1 := hide hk1; clear hb1 hk1)
    | (go_at_call 28; refine (HW.out _).mono ?_; rintro e w2 ⟨rfl, rfl⟩))
  go_region_held3 (fun w' => w'.cell? ⟨w.heap.size, 0, none⟩ = some (.slice (some ⟨b, o, none⟩) x.qCodes.length c) ∧ w'.cell? ⟨b, o + n * 5, none⟩ = some (.int .i64 p0) ∧ w'.cell? ⟨b, o + n * 5 + 1, none⟩ = some (.int .i64 p1) ∧ w'.cell? ⟨b, o + n * 5 + 2, none⟩ = some v2 ∧ w'.cell? ⟨b, o + n * 5 + 3, none⟩ = some v3 ∧ w'.cell? ⟨b, o + n * 5 + 4, none⟩ = some v4) (first | exact ⟨Hk1.out.cell 0, HE.out _ Hb1.out⟩ | exact ⟨Hk1.out.cell 0, HE.out _ Hb1.out.drew⟩ | exact ⟨Hk3.out.cell 0, HE.out _ Hb3.out⟩)
    ((go_at_call 29; refine (HC.out _ (by exact Hb1.out.drew)).mono ?_; rintro e w3 ⟨rfl, hb3⟩; replace hb3 := below_undrewG hb3; have Hb3 := hide (Hb1.out.trans (hb3.mono Hb1.out.size)); have Hk3 := hide (Hk1.out.below hb3); clear hb3))
  go_wp2
  go_ret2
  exact ⟨rfl, Hb3.out⟩
end Go.Proofs.YtgkjakoagdkpcaaGreatDoor
set_option linter.unusedSimpArgs false
set_option linter.unusedVariables false
set_option maxRecDepth 100000
namespace Go.Proofs.YtgkjakoagdkpcaaGreatDoor
open Go.RowKit

theorem codeN_ge (l : List CodeM) (c : CodeM) : 0 ≤ codeN l c := by
  unfold codeN
  split
  · omega
  split
  · omega
  split
  · omega
  split
  · omega
  split
  · omega
  · unfold codeH; split
    · omega
    · split <;> omega
noncomputable def imgB (l : List CodeM) : Bool := sizedB l && (decide ((l.getD 0 c0).qParams = 0) && l.all fun c => decide (codeN l c = 0))
theorem imgB_s {l : List CodeM} (h : sizedB l = false) : imgB l = false := by unfold imgB; rw [h]; rfl
theorem imgB_p {l : List CodeM} (h1 : sizedB l = true) (h0 : 0 < l.length) (h : l[0].qParams ≠ 0) : imgB l = false := by
  have e : l.getD 0 c0 = l[0] := by simp [List.getD, List.getElem?_eq_getElem h0]
  unfold imgB; rw [h1, e, decide_eq_false h]; rfl
theorem imgB_y {l : List CodeM} (h1 : sizedB l = true) (h0 : 0 < l.length) (h : l[0].qParams = 0) : imgB l = (l.drop 0).all fun c => decide (codeN l c = 0) := by
  have e : l.getD 0 c0 = l[0] := by simp [List.getD, List.getElem?_eq_getElem h0]
  unfold imgB; rw [h1, e, decide_eq_true h]; rfl
set_option maxHeartbeats 3200000 in
theorem impl_isImage (xs : List Value) (x : ImageM) (w : World) (hx : RImage w 0 w.heap.size xs x) :
    Calls Tryz.prog 30 #[.agg xs.toArray] w fun e w' => e = .returned (.bool (imgB x.qCodes)) ∧ Below w.heap.size w w' := by
  have hx0 := hx
  obtain ⟨v0, rfl, h0⟩ := hx
  have hl := h0.long
  obtain ⟨A, c, rfl⟩ := h0.form
  have hb := (Below.refl w.heap.size w).alloc (Nat.le_refl _) (.cells #[.slice A x.qCodes.length c] 26)
  have hk := Bk.new w 26 #[.slice A x.qCodes.length c]
  have hS := impl_isSized _ x _ (RImage_stable.here hx0 hb)
  have Hb := hide hb; have Hk := hide hk
  clear hb hk
  cases hs : sizedB x.qCodes
  · rw [imgB_s hs]
    rw [hs] at hS
    have HS := hide hS; clear hS hs hx0 h0
    go_enter Tryz.func30, Tryz.ntmps30
    go_wp2_with (go_at_call 23; refine (HS.out).mono ?_; rintro e w1 ⟨rfl, hb1⟩)
    go_ret
    exact ⟨rfl, Hb.out.trans (hb1.mono Hb.out.size)⟩
  rw [hs] at hS
  have HS := hide hS; clear hS
  have hl1 := (sizedB_iff.1 hs).1
  have hpos : 0 < x.qCodes.length := by omega
  obtain ⟨b, o, v2, v3, v4, e9, hbB, d0, -, -, -, -, -⟩ := RCode_at h0 hpos
  subst e9
  rw [Nat.zero_mul, Nat.add_zero] at d0
  have D0 := hide d0
  clear d0 h0
  have hposI : (0 : Int) < (x.qCodes.length : Int) := by omega
  by_cases hp : x.qCodes[0].qParams = 0
  · rw [imgB_y hs hpos hp]
    rw [hp] at D0
    have hC := fun (n : Nat) (hn : n < x.qCodes.length) W (hW : Below w.heap.size w W) => impl_checkCode _ x n W (RImage_stable.here hx0 hW) hn hs
    generalize hR : ((x.qCodes.drop 0).all fun c => decide (codeN x.qCodes c = 0)) = R
    have HR := hide hR; have HC := Lib.hid hC
    clear hR hC hp hs hx0
    go_enter Tryz.func30, Tryz.ntmps30
    go_wp2_with (go_at_call 23; refine (HS.out).mono ?_; rintro e w1 ⟨rfl, hb1⟩; have Hb1 := hide (Hb.out.trans (hb1.mono Hb.out.size)); have hk1 := Hk.out.below hb1; have q0 := hk1.cell 0; have q0l := hk1.lt; have q1 := (Hb1.out.cell (p := ⟨b, o, none⟩) hbB).trans D0.out; have Hk1 := hide hk1; clear hb1 hk1)
    clear q0 q1 q0l
    go_loopw [20] (fun i wr => ∃ k : Nat, k ≤ x.qCodes.length ∧ i = .int .i64 k ∧ ((x.qCodes.drop k).all fun c => decide (codeN x.qCodes c = 0)) = R ∧ Below w.heap.size w wr ∧ Bk wr w.heap.size 26 #[.slice (some ⟨b, o, none⟩) x.qCodes.length c]) (fun i _ => x.qCodes.length - (intOf i).toNat)
    case atStart => exact ⟨0, by omega, rfl, HR.out, Hb1.out, Hk1.out⟩
    case round =>
      obtain ⟨k, hk, rfl, hall, hb, hbk⟩ := hrel
      by_cases hlt : k < x.qCodes.length
      · rw [all_stepN hlt] at hall
        have hC := HC.out k hlt _ hb
        have q0 := hbk.cell 0
        have q0l := hbk.lt
        have Hbb := hide hb; have Hbk := hide hbk
        clear hb hbk
        generalize codeN x.qCodes x.qCodes[k] = K at *
        have HC' := hide hC; clear hC
        by_cases hK : K = 0
        · subst hK
          have e : decide ((0 : Int) = 0) = true := rfl
          rw [e, Bool.true_and] at hall
          have Hall := hide hall; clear hall e
          go_wp2_with (go_at_call 25; refine (HC'.out).mono ?_; rintro e w3 ⟨v, hs, rfl, -, -, -, hb3⟩; have HB3 := hide (Hbb.out.trans (hb3.mono Hbb.out.size)); have HK3 := hide (Hbk.out.below hb3); clear hb3)
          go_roundw
          case rel => exact ⟨k + 1, by omega, by go_num, Hall.out, HB3.out, HK3.out⟩
          case measure => simp [intOf]; omega
        · rw [decide_eq_false hK, Bool.false_and] at hall
          have hKb : (K != 0) = true := by rw [bne_iff_ne]; exact hK
          have Hall := hide hall; clear hall hK
          go_wp2_with (go_at_call 25; refine (HC'.out).mono ?_; rintro e w3 ⟨v, hs, rfl, -, -, -, hb3⟩; have HB3 := hide (Hbb.out.trans (hb3.mono Hbb.out.size)); clear hb3)
          go_ret
          exact ⟨retB Hall.out, HB3.out⟩
      · obtain rfl : k = x.qCodes.length := by omega
        rw [List.drop_length] at hall
        have Hall := hide hall; have Hbb := hide hb; clear hall hb hbk
        go_wp2
        go_ret
        exact ⟨retB Hall.out, Hbb.out⟩
  · rw [imgB_p hs hpos hp]
    have hpb : (x.qCodes[0].qParams != 0) = true := by rw [bne_iff_ne]; exact hp
    clear hp hs hx0
    generalize x.qCodes[0].qParams = p at *
    go_enter Tryz.func30, Tryz.ntmps30
    go_wp2_with (go_at_call 23; refine (HS.out).mono ?_; rintro e w1 ⟨rfl, hb1⟩; have Hb1 := hide (Hb.out.trans (hb1.mono Hb.out.size)); have hk1 := Hk.out.below hb1; have q0 := hk1.cell 0; have q0l := hk1.lt; have q1 := (Hb1.out.cell (p := ⟨b, o, none⟩) hbB).trans D0.out; clear hb1 hk1)
    go_ret
    exact ⟨rfl, Hb1.out⟩
theorem impl_GoodImage (xs : List Value) (x : ImageM) (w : World) (hx : RImage w 0 w.heap.size xs x) :
    Calls Tryz.prog 11 #[.agg xs.toArray] w fun e w' => e = .returned (.bool (imgB x.qCodes)) ∧ Below w.heap.size w w' := by
  have hx0 := hx
  obtain ⟨v0, rfl, h0⟩ := hx
  obtain ⟨A, c, rfl⟩ := h0.form
  have hb := (Below.refl w.heap.size w).alloc (Nat.le_refl _) (.cells #[.slice A x.qCodes.length c] 26)
  have hS := impl_isImage _ x _ (RImage_stable.here hx0 hb)
  generalize imgB x.qCodes = R at *
  have HS := hide hS; have Hb := hide hb; clear hS hb hx0 h0
  go_enter Tryz.func11, Tryz.ntmps11
  go_wp2_with (go_at_call 30; refine (HS.out).mono ?_; rintro e w1 ⟨rfl, hb1⟩)
  go_ret
  exact ⟨rfl, Hb.out.trans (hb1.mono Hb.out.size)⟩
theorem RCode_lit {w : World} {hi c i : Nat} {A : Option Addr} {l : List CodeM} (h : RL RCode 5 w 0 hi (.slice A l.length c) l) (hl : i < l.length) :
    ∃ (b o : Nat) (A2 : Option Addr) (c2 : Nat) (A3 : Option Addr) (c3 : Nat) (A4 : Option Addr) (c4 : Nat), A = some ⟨b, o, none⟩ ∧ b < hi ∧ w.cell? ⟨b, o + i * 5, none⟩ = some (.int .i64 l[i].qParams) ∧ w.cell? ⟨b, o + i * 5 + 1, none⟩ = some (.int .i64 l[i].qVars) ∧ w.cell? ⟨b, o + i * 5 + 2, none⟩ = some (.slice A2 l[i].qSites.length c2) ∧ w.cell? ⟨b, o + i * 5 + 3, none⟩ = some (.slice A3 l[i].qIns.length c3) ∧ w.cell? ⟨b, o + i * 5 + 4, none⟩ = some (.slice A4 l[i].qRows.length c4) ∧ RCode w 0 hi [.int .i64 l[i].qParams, .int .i64 l[i].qVars, .slice A2 l[i].qSites.length c2, .slice A3 l[i].qIns.length c3, .slice A4 l[i].qRows.length c4] l[i] := by
  obtain ⟨b, o, v2, v3, v4, hA, hb, e0, e1, e2, e3, e4, hx⟩ := RCode_at h hl
  have hx' := hx
  obtain ⟨_, _, _, ey, x2, x3, x4⟩ := hx
  cases ey
  obtain ⟨A2, c2, rfl⟩ := x2.form
  obtain ⟨A3, c3, rfl⟩ := x3.form
  obtain ⟨A4, c4, rfl⟩ := x4.form
  exact ⟨b, o, A2, c2, A3, c3, A4, c4, hA, hb, e0, e1, e2, e3, e4, hx'⟩
set_option maxHeartbeats 3200000 in
theorem spec_GoodImage (xs : List Value) (x : ImageM) (w : World) (hx : RImage w 0 w.heap.size xs x) :
    Calls Tryz.prog 12 #[.agg xs.toArray] w fun e w' => e = .returned (.bool (imgB x.qCodes)) ∧ Below w.heap.size w w' := by
  have hx0 := hx
  obtain ⟨v0, rfl, h0⟩ := hx
  have hl := h0.long
  obtain ⟨A, c, rfl⟩ := h0.form
  have hb := (Below.refl w.heap.size w).alloc (Nat.le_refl _) (.cells #[.slice A x.qCodes.length c] 26)
  have hk := Bk.new w 26 #[.slice A x.qCodes.length c]
  have hS := spec_l5Sized _ x _ (RImage_stable.here hx0 hb)
  have Hb := hide hb; have Hk := hide hk
  clear hb hk
  cases hs : sizedB x.qCodes
  · rw [imgB_s hs]
    rw [hs] at hS
    have HS := hide hS; clear hS hs hx0 h0
    go_enter Tryz.func12, Tryz.ntmps12
    go_wp2_with (go_at_call 27; refine (HS.out).mono ?_; rintro e w1 ⟨rfl, hb1⟩)
    go_ret
    exact ⟨rfl, Hb.out.trans (hb1.mono Hb.out.size)⟩
  rw [hs] at hS
  have HS := hide hS; clear hS
  have hl1 := (sizedB_iff.1 hs).1
  have hpos : 0 < x.qCodes.length := by omega
  obtain ⟨b, o, v2, v3, v4, e9, hbB, d0, -, -, -, -, -⟩ := RCode_at h0 hpos
  subst e9
  rw [Nat.zero_mul, Nat.add_zero] at d0
  have D0 := hide d0; have H0 := hide h0
  clear d0 h0
  have hposI : (0 : Int) < (x.qCodes.length : Int) := by omega
  by_cases hp : x.qCodes[0].qParams = 0
  · rw [imgB_y hs hpos hp]
    rw [hp] at D0
    have hC := fun (n : Nat) (hn : n < x.qCodes.length) cs W (hW : Below w.heap.size w W) (hc : RCode w 0 w.heap.size cs x.qCodes[n]) => spec_l5Code _ cs x x.qCodes[n] W (RImage_stable.here hx0 hW) (RCode_stable.here hc hW) hs (List.getElem_mem hn)
    generalize hR : ((x.qCodes.drop 0).all fun c => decide (codeN x.qCodes c = 0)) = R
    have HR := hide hR; have HC := Lib.hid hC
    clear hR hC hp hs hx0
    go_enter Tryz.func12, Tryz.ntmps12
    go_wp2_with (go_at_call 27; refine (HS.out).mono ?_; rintro e w1 ⟨rfl, hb1⟩; have Hb1 := hide (Hb.out.trans (hb1.mono Hb.out.size)); have hk1 := Hk.out.below hb1; have q0 := hk1.cell 0; have q0l := hk1.lt; have q1 := (Hb1.out.cell (p := ⟨b, o, none⟩) hbB).trans D0.out; have Hk1 := hide hk1; clear hb1 hk1)
    clear q0 q1 q0l
    go_loopw [19] (fun i wr => ∃ k : Nat, k ≤ x.qCodes.length ∧ i = .int .i64 k ∧ ((x.qCodes.drop k).all fun c => decide (codeN x.qCodes c = 0)) = R ∧ Below w.heap.size w wr ∧ Bk wr w.heap.size 26 #[.slice (some ⟨b, o, none⟩) x.qCodes.length c]) (fun i _ => x.qCodes.length - (intOf i).toNat)
    case atStart => exact ⟨0, by omega, rfl, HR.out, Hb1.out, Hk1.out⟩
    case round =>
      obtain ⟨k, hk, rfl, hall, hb, hbk⟩ := hrel
      have hbs := hb.size
      by_cases hlt : k < x.qCodes.length
      · rw [all_stepN hlt] at hall
        obtain ⟨b2, o2, A2, c2, A3, c3, A4, c4, e9, hbB2, d0, d1, d2, d3, d4, hc⟩ := RCode_lit H0.out hlt
        cases e9
        have hC := HC.out k hlt _ _ (hb.alloc hbs (.cells #[.int .i64 x.qCodes[k].qParams, .int .i64 x.qCodes[k].qVars, .slice A2 x.qCodes[k].qSites.length c2, .slice A3 x.qCodes[k].qIns.length c3, .slice A4 x.qCodes[k].qRows.length c4] 39)) hc
        have s0 := (hb.cell (p := ⟨b, o + k * 5, none⟩) hbB2).trans d0
        have s1 := (hb.cell (p := ⟨b, o + k * 5 + 1, none⟩) hbB2).trans d1
        have s2 := (hb.cell (p := ⟨b, o + k * 5 + 2, none⟩) hbB2).trans d2
        have s3 := (hb.cell (p := ⟨b, o + k * 5 + 3, none⟩) hbB2).trans d3
        have s4 := (hb.cell (p := ⟨b, o + k * 5 + 4, none⟩) hbB2).trans d4
        have hbw : b < wr.heap.size := by omega
        have hge := codeN_ge x.qCodes x.qCodes[k]
        have q0 := hbk.cell 0
        have q0l := hbk.lt
        clear d0 d1 d2 d3 d4 hc
        generalize codeN x.qCodes x.qCodes[k] = K at *
        generalize x.qCodes[k] = m at *
        obtain ⟨m0, m1, l2, I, R4⟩ := m
        dsimp only at *
        have Hbb := hide (hb.alloc hbs (.cells #[.int .i64 m0, .int .i64 m1, .slice A2 l2.length c2, .slice A3 I.length c3, .slice A4 R4.length c4] 39))
        have Hbk := hide (hbk.alloc (.cells #[.int .i64 m0, .int .i64 m1, .slice A2 l2.length c2, .slice A3 I.length c3, .slice A4 R4.length c4] 39))
        have HC' := hide hC; clear hC hb hbk
        by_cases hK : K = 0
        · subst hK
          have e : decide ((0 : Int) = 0) = true := rfl
          rw [e, Bool.true_and] at hall
          have Hall := hide hall; clear hall e hge
          go_wp2_with (go_at_call 29; refine (HC'.out).mono ?_; rintro e w3 ⟨rfl, hb3⟩; have HB3 := hide (Hbb.out.trans (hb3.mono Hbb.out.size)); have HK3 := hide (Hbk.out.below hb3); clear hb3)
          go_roundw
          case rel => exact ⟨k + 1, by omega, by go_num, Hall.out, HB3.out, HK3.out⟩
          case measure => simp [intOf]; omega
        · rw [decide_eq_false hK, Bool.false_and] at hall
          have hKb : 0 < K := by omega
          have Hall := hide hall; clear hall hK hge
          go_wp2_with (go_at_call 29; refine (HC'.out).mono ?_; rintro e w3 ⟨rfl, hb3⟩; have HB3 := hide (Hbb.out.trans (hb3.mono Hbb.out.size)); clear hb3)
          go_ret
          exact ⟨retB Hall.out, HB3.out⟩
      · obtain rfl : k = x.qCodes.length := by omega
        rw [List.drop_length] at hall
        have Hall := hide hall; have Hbb := hide hb; clear hall hb hbk
        go_wp2
        go_ret
        exact ⟨retB Hall.out, Hbb.out⟩
  · rw [imgB_p hs hpos hp]
    have hpb : (x.qCodes[0].qParams != 0) = true := by rw [bne_iff_ne]; exact hp
    clear hp hs hx0 H0
    generalize x.qCodes[0].qParams = p at *
    go_enter Tryz.func12, Tryz.ntmps12
    go_wp2_with (go_at_call 27; refine (HS.out).mono ?_; rintro e w1 ⟨rfl, hb1⟩; have Hb1 := hide (Hb.out.trans (hb1.mono Hb.out.size)); have hk1 := Hk.out.below hb1; have q0 := hk1.cell 0; have q0l := hk1.lt; have q1 := (Hb1.out.cell (p := ⟨b, o, none⟩) hbB).trans D0.out; clear hb1 hk1)
    go_ret
    exact ⟨rfl, Hb1.out⟩
end Go.Proofs.YtgkjakoagdkpcaaGreatDoor
set_option linter.unusedSimpArgs false
set_option linter.unusedVariables false
set_option maxRecDepth 100000
namespace Go.Proofs.YtgkjakoagdkpcaaGreatDoor
open Go.RowKit

/-- there are heights -/
noncomputable def hoOk (l : List CodeM) (fn : Int) : Bool := gcOk l fn && decide (gcR l fn = 0)
noncomputable def hoR (l : List CodeM) (fn : Int) : List Int := if hoOk l fn then ((waysOf l (l.getD fn.toNat c0)).heights).getD [] else []
theorem hoOk_no {l : List CodeM} {fn : Int} (h : gcOk l fn = false) : hoOk l fn = false := by unfold hoOk; rw [h]; rfl
theorem hoOk_bad {l : List CodeM} {fn : Int} (h : gcR l fn ≠ 0) : hoOk l fn = false := by unfold hoOk; rw [decide_eq_false h]; simp
theorem hoOk_yes {l : List CodeM} {fn : Int} (h : gcOk l fn = true) (h2 : gcR l fn = 0) : hoOk l fn = true := by unfold hoOk; rw [h, decide_eq_true h2]; rfl
theorem hoR_no {l : List CodeM} {fn : Int} (h : hoOk l fn = false) : hoR l fn = [] := by unfold hoR; rw [h]; rfl
theorem hoR_yes {l : List CodeM} {n : Nat} {hs : List Int} (h : hoOk l n = true) (hn : n < l.length) (hi : HInv (waysOf l l[n]) hs []) : hoR l n = hs := by
  unfold hoR; rw [h, Int.toNat_natCast]
  have e : l.getD n c0 = l[n] := by simp [List.getD, List.getElem?_eq_getElem hn]
  rw [e, Ways.heights_some hi]; rfl
theorem hoR_length (l : List CodeM) (fn : Int) : (hoR l fn).length ≤ 1048576 := by
  by_cases h : hoOk l fn = true
  · have hg : gcOk l fn = true := by unfold hoOk at h; simp at h; exact h.1
    unfold gcOk at hg
    rw [Bool.and_eq_true] at hg
    obtain ⟨n, rfl, hn⟩ := in_nat hg.2
    have e : l.getD n c0 = l[n] := by simp [List.getD, List.getElem?_eq_getElem hn]
    unfold hoR
    rw [h, Int.toNat_natCast, e]
    rw [if_pos rfl]
    unfold Ways.heights
    split
    · next hex =>
      have h1 : hex.choose.length = (waysOf l l[n]).N := hex.choose_spec.1
      have h3 := (codeOk_iff.1 ((sizedB_iff.1 hg.1).2 _ (List.getElem_mem hn))).2.2.2.1.2
      have : (waysOf l l[n]).N = l[n].qIns.length := rfl
      simp only [Option.getD_some]
      omega
    · simp
  · rw [hoR_no (by simpa using h)]; simp
theorem impl_checkCode_good (xs : List Value) (x : ImageM) (fn : Nat) (w : World) (L : List Int) (hx : RImage w 0 w.heap.size xs x) (hfn : fn < x.qCodes.length) (hsz : sizedB x.qCodes = true) (hK : codeN x.qCodes x.qCodes[fn] = 0) (hL : ∀ hs, HInv (waysOf x.qCodes x.qCodes[fn]) hs [] → L = hs) :
    Calls Tryz.prog 25 #[.agg xs.toArray, .int .i64 fn] w fun e w' => ∃ v, e = .returned (.tuple #[v, .int .i64 0]) ∧ w'.ownsRow w.heap.size 3 1 v L.length (icells .i64 L) ∧ Below w.heap.size w w' := by
  refine (impl_checkCode xs x fn w hx hfn hsz).mono ?_
  rintro e w' ⟨v, hs, rfl, ho, hi, _, hb⟩
  rw [hL hs (hi hK), hK]
  rw [← hL hs (hi hK)]
  exact ⟨v, rfl, by rw [hL hs (hi hK)]; exact ho, hb⟩
set_option maxHeartbeats 3200000 in
theorem impl_call_HeightsOf (xs : List Value) (x : ImageM) (fn : Int) (w : World) (hx : RImage w 0 w.heap.size xs x) (hz : szImageN x ≤ 1048576) :
    Calls Tryz.prog 6 #[.agg xs.toArray, .int .i64 fn] w fun e w' => ∃ v, e = .returned (.tuple #[v, .bool (hoOk x.qCodes fn)]) ∧ w'.ownsRow w.heap.size 3 1 v (hoR x.qCodes fn).length (icells .i64 (hoR x.qCodes fn)) ∧ Below w.heap.size w w' := by
  have hx0 := hx
  obtain ⟨v0, rfl, h0⟩ := hx
  have hl := h0.long
  obtain ⟨A, c, rfl⟩ := h0.form
  have hb := (Below.refl w.heap.size w).alloc (Nat.le_refl _) (.cells #[.slice A x.qCodes.length c] 26)
  have hk := Bk.new w 26 #[.slice A x.qCodes.length c]
  have hS := impl_isSized _ x _ (RImage_stable.here hx0 hb)
  have hw := fun w => impl_within fn 0 (x.qCodes.length - 1) w
  have Hb := hide hb; have Hk := hide hk
  clear hb hk h0
  cases hs : sizedB x.qCodes
  · have h1 := hoOk_no (gcOk_s (fn := fn) hs)
    rw [hoR_no h1, h1]
    rw [hs] at hS
    have HS := hide hS; clear hS hs h1 hw hx0
    go_enter Tryz.func6, Tryz.ntmps6
    go_wp2_with (go_at_call 23; refine (HS.out).mono ?_; rintro e w1 ⟨rfl, hb1⟩)
    go_ret2
    exact ⟨_, rfl, World.ownsRow_nil _ _ _ _, Hb.out.trans (hb1.mono Hb.out.size)⟩
  rw [hs] at hS
  have HS := hide hS; clear hS
  cases hi : inB fn 0 (x.qCodes.length - 1)
  · have h1 := hoOk_no (gcOk_i hi)
    rw [hoR_no h1, h1]
    simp only [hi] at hw
    have HW := Lib.hid hw; clear hs h1 hw hi hx0
    go_enter Tryz.func6, Tryz.ntmps6
    go_wp2_with (first
      | (go_at_call 23; refine (HS.out).mono ?_; rintro e w1 ⟨rfl, hb1⟩; have q0 := (Hk.out.below hb1).cell 0)
      | (go_at_call 24; refine (HW.out _).mono ?_; rintro e w2 ⟨rfl, rfl⟩))
    go_ret2
    exact ⟨_, rfl, World.ownsRow_nil _ _ _ _, Hb.out.trans (hb1.mono Hb.out.size)⟩
  have h1 := gcOk_y hs hi
  obtain ⟨n, rfl, hn⟩ := in_nat hi
  simp only [hi] at hw
  have hgr := gcR_yes h1 hn
  have hC := fun W (hW : Below w.heap.size w W) => impl_checkCode _ x n W (RImage_stable.here hx0 hW) hn hs
  have HW := Lib.hid hw
  by_cases hK : codeN x.qCodes x.qCodes[n] = 0
  · have h2 := hoOk_yes h1 (hgr.trans hK)
    have hR := fun hs hi => hoR_yes (hs := hs) h2 hn hi
    rw [h2]
    clear hC
    have hC := fun W (hW : Below w.heap.size w W) => impl_checkCode_good _ x n W _ (RImage_stable.here hx0 hW) hn hs hK hR
    have HC := Lib.hid hC
    clear hw hC hs hi h1 hx0 hgr h2 hR hK
    generalize hoR x.qCodes n = L at *
    go_enter Tryz.func6, Tryz.ntmps6
    go_wp2_with (first
      | (go_at_call 23; refine (HS.out).mono ?_; rintro e w1 ⟨rfl, hb1⟩; have Hb1 := hide (Hb.out.trans (hb1.mono Hb.out.size)); have q0 := (Hk.out.below hb1).cell 0; clear hb1)
      | (go_at_call 24; refine (HW.out _).mono ?_; rintro e w2 ⟨rfl, rfl⟩)
      | (go_at_call 25; refine (HC.out _ Hb1.out).mono ?_; rintro e w3 ⟨v, rfl, hown, hb3⟩; have Hown := hide hown; have Hb3 := hide (Hb1.out.trans (hb3.mono Hb1.out.size)); clear hown hb3))
    go_ret2
    exact ⟨_, rfl, own_base Hown.out Hb1.out.size, Hb3.out⟩
  · have h2 := hoOk_bad (l := x.qCodes) (fn := n) (by rw [hgr]; exact hK)
    rw [hoR_no h2, h2]
    have hKb : (codeN x.qCodes x.qCodes[n] != 0) = true := by rw [bne_iff_ne]; exact hK
    generalize codeN x.qCodes x.qCodes[n] = K at *
    have HC := Lib.hid hC
    clear hw hC hs hi h1 hx0 hgr h2 hK
    go_enter Tryz.func6, Tryz.ntmps6
    go_wp2_with (first
      | (go_at_call 23; refine (HS.out).mono ?_; rintro e w1 ⟨rfl, hb1⟩; have Hb1 := hide (Hb.out.trans (hb1.mono Hb.out.size)); have q0 := (Hk.out.below hb1).cell 0; clear hb1)
      | (go_at_call 24; refine (HW.out _).mono ?_; rintro e w2 ⟨rfl, rfl⟩)
      | (go_at_call 25; refine (HC.out _ Hb1.out).mono ?_; rintro e w3 ⟨v, hs, rfl, -, -, -, hb3⟩; have Hb3 := hide (Hb1.out.trans (hb3.mono Hb1.out.size)); clear hb3))
    go_ret2
    exact ⟨_, rfl, World.ownsRow_nil _ _ _ _, Hb3.out⟩
theorem codeN_zero {l : List CodeM} {c : CodeM} (hs : sizedB l = true) (hc : c ∈ l) (h : codeN l c = 0) : Fit l c ∧ ¬ (waysOf l c).bad := by
  cases h1 : c.qIns.all (namedI l.length c)
  · rw [codeN_1 h1] at h; omega
  cases h2 : c.qSites.all (siteI l)
  · rw [codeN_2 h1 h2] at h; omega
  cases h3 : goesL c.qIns.length 0 c.qIns
  · rw [codeN_3 h1 h2 h3] at h; omega
  cases h4 : rowsOk c.qIns.length 0 c.qRows
  · rw [codeN_4 h1 h2 h3 h4] at h; omega
  refine ⟨fit_of hs hc h1 h3 h4, fun h5 => ?_⟩
  rw [codeN_5 h1 h2 h3 h4 h5] at h; omega
theorem spec_l5Heights_good (xs cs : List Value) (x : ImageM) (m : CodeM) (w : World) (L : List Int) (hx : RImage w 0 w.heap.size xs x) (hc : RCode w 0 w.heap.size cs m) (hF : Fit x.qCodes m) (hg : ¬ (waysOf x.qCodes m).bad) (hL : ∀ hs, HInv (waysOf x.qCodes m) hs [] → L = hs) :
    Calls Tryz.prog 26 #[.agg xs.toArray, .agg cs.toArray] w fun e w' => ∃ v, e = .returned (.tuple #[v, .bool true]) ∧ w'.ownsRow w.heap.size 3 1 v L.length (icells .i64 L) ∧ Below w.heap.size w w' := by
  refine (spec_l5Heights xs cs x m w hx hc hF).mono ?_
  rintro e w' ⟨v, b, hs, rfl, ho, h | h, hb⟩
  · obtain ⟨rfl, hi⟩ := h
    rw [hL hs hi]
    exact ⟨v, rfl, ho, hb⟩
  · exact absurd h.2.1 hg
set_option maxHeartbeats 3200000 in
theorem spec_call_HeightsOf (xs : List Value) (x : ImageM) (fn : Int) (w : World) (hx : RImage w 0 w.heap.size xs x) (hz : szImageN x ≤ 1048576) :
    Calls Tryz.prog 7 #[.agg xs.toArray, .int .i64 fn] w fun e w' => ∃ v, e = .returned (.tuple #[v, .bool (hoOk x.qCodes fn)]) ∧ w'.ownsRow w.heap.size 3 1 v (hoR x.qCodes fn).length (icells .i64 (hoR x.qCodes fn)) ∧ Below w.heap.size w w' := by
  have hx0 := hx
  obtain ⟨v0, rfl, h0⟩ := hx
  have hl := h0.long
  obtain ⟨A, c, rfl⟩ := h0.form
  have hb := (Below.refl w.heap.size w).alloc (Nat.le_refl _) (.cells #[.slice A x.qCodes.length c] 26)
  have hk := Bk.new w 26 #[.slice A x.qCodes.length c]
  have hS := spec_GoodCode _ x fn _ (RImage_stable.here hx0 hb)
  have Hb := hide hb; have Hk := hide hk
  clear hb hk
  cases hO : gcOk x.qCodes fn
  · have h1 := hoOk_no hO
    rw [hoR_no h1, h1]
    rw [hO] at hS
    generalize gcR x.qCodes fn = K at *
    have HS := hide hS; clear hS hO h1 hx0 h0
    go_enter Tryz.func7, Tryz.ntmps7
    go_wp2_with (go_at_call 9; refine (HS.out).mono ?_; rintro e w1 ⟨rfl, hb1⟩)
    go_ret2
    exact ⟨_, rfl, World.ownsRow_nil _ _ _ _, Hb.out.trans (hb1.mono Hb.out.size)⟩
  have hO0 := hO
  unfold gcOk at hO0
  rw [Bool.and_eq_true] at hO0
  obtain ⟨hs, hi⟩ := hO0
  obtain ⟨n, rfl, hn⟩ := in_nat hi
  have hgr := gcR_yes hO hn
  by_cases hK : codeN x.qCodes x.qCodes[n] = 0
  · have h2 := hoOk_yes hO (hgr.trans hK)
    have hR := fun hs hi => hoR_yes (hs := hs) h2 hn hi
    rw [h2]
    rw [hO, hgr, hK] at hS
    have HS := hide hS; clear hS
    obtain ⟨hF, hg⟩ := codeN_zero hs (List.getElem_mem hn) hK
    obtain ⟨b, o, v2, v3, v4, e9, hbB, d0, d1, d2, d3, d4, hc⟩ := RCode_at h0 hn
    have hC := fun W (hW : Below w.heap.size w W) => spec_l5Heights_good _ _ x x.qCodes[n] W _ (RImage_stable.here hx0 hW) (RCode_stable.here hc hW) hF hg hR
    subst e9
    clear hF hg hR h2 hgr hK hO hs hi
    generalize hoR x.qCodes n = L at *
    generalize x.qCodes[n].qParams = p0 at *
    generalize x.qCodes[n].qVars = p1 at *
    have hE := fun W (hW : Below w.heap.size w W) => (⟨(hW.cell (p := ⟨b, o + n * 5, none⟩) hbB).trans d0, (hW.cell (p := ⟨b, o + n * 5 + 1, none⟩) hbB).trans d1, (hW.cell (p := ⟨b, o + n * 5 + 2, none⟩) hbB).trans d2, (hW.cell (p := ⟨b, o + n * 5 + 3, none⟩) hbB).trans d3, (hW.cell (p := ⟨b, o + n * 5 + 4, none⟩) hbB).trans d4⟩ : W.cell? ⟨b, o + n * 5, none⟩ = some (.int .i64 p0) ∧ W.cell? ⟨b, o + n * 5 + 1, none⟩ = some (.int .i64 p1) ∧ W.cell? ⟨b, o + n * 5 + 2, none⟩ = some v2 ∧ W.cell? ⟨b, o + n * 5 + 3, none⟩ = some v3 ∧ W.cell? ⟨b, o + n * 5 + 4, none⟩ = some v4)
    have HC := Lib.hid hC; have HE := Lib.hid hE
    have hnI : (n : Int) < (x.qCodes.length : Int) := by omega
    have hn0 : (0 : Int) ≤ (n : Int) := by omega
    clear hC hx0 h0 d0 d1 d2 d3 d4 hc hE
    go_enter Tryz.func7, Tryz.ntmps7
    go_wp2_with (go_at_call 9; refine (HS.out).mono ?_; rintro e w1 ⟨rfl, hb1⟩; have Hb1 := hide (Hb.out.trans (hb1.mono Hb.out.size)); have hk1 := Hk.out.below hb1; have q0 := hk1.cell 0; have Hk1 := hide hk1; clear hb1 hk1)
    go_region_held3 (fun w' => w'.cell? ⟨w.heap.size, 0, none⟩ = some (.slice (some ⟨b, o, none⟩) x.qCodes.length c) ∧ w'.cell? ⟨b, o + n * 5, none⟩ = some (.int .i64 p0) ∧ w'.cell? ⟨b, o + n * 5 + 1, none⟩ = some (.int .i64 p1) ∧ w'.cell? ⟨b, o + n * 5 + 2, none⟩ = some v2 ∧ w'.cell? ⟨b, o + n * 5 + 3, none⟩ = some v3 ∧ w'.cell? ⟨b, o + n * 5 + 4, none⟩ = some v4) (first | exact ⟨Hk1.out.cell 0, HE.out _ Hb1.out⟩ | exact ⟨Hk1.out.cell 0, HE.out _ Hb1.out.drew⟩ | exact ⟨Hk3.out.cell 0, HE.out _ Hb3.out⟩)
      ((go_at_call 26; refine (HC.out _ (by exact Hb1.out.drew)).mono ?_; rintro e w3 ⟨v, rfl, hown, hb3⟩; replace hb3 := below_undrewG hb3; have Hown := hide hown; have Hb3 := hide (Hb1.out.trans (hb3.mono Hb1.out.size)); have Hk3 := hide (Hk1.out.below hb3); clear hb3 hown))
    go_wp2
    go_ret2
    exact ⟨_, rfl, own_base Hown.out Hb1.out.size, Hb3.out⟩
  · have h2 := hoOk_bad (l := x.qCodes) (fn := n) (by rw [hgr]; exact hK)
    rw [hoR_no h2, h2]
    have hge := codeN_ge x.qCodes x.qCodes[n]
    have hKp : 0 < codeN x.qCodes x.qCodes[n] := by omega
    rw [hO, hgr] at hS
    generalize codeN x.qCodes x.qCodes[n] = K at *
    have HS := hide hS; clear hS hO h2 hx0 h0 hs hi hgr hge hK
    go_enter Tryz.func7, Tryz.ntmps7
    go_wp2_with (go_at_call 9; refine (HS.out).mono ?_; rintro e w1 ⟨rfl, hb1⟩)
    go_ret2
    exact ⟨_, rfl, World.ownsRow_nil _ _ _ _, Hb.out.trans (hb1.mono Hb.out.size)⟩
end Go.Proofs.YtgkjakoagdkpcaaGreatDoor
