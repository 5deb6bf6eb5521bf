
/- impl.checkCode: what the Go text returns. No condition. Printed by wip/tools/mk_gc.py. -/
import Derived.Test.YtaebmliolpgmdaaGreatGc4
import Derived.Test.YtaebmliolpgmdaaGreatPf
set_option linter.unusedSimpArgs false
set_option linter.unusedVariables false
set_option maxRecDepth 100000
namespace Go.Proofs.YtaebmliolpgmdaaGreat
open Go.RowKit

theorem retV {v : Value} {a b : Int} (h : a = b) : Ending.returned (.tuple #[v, .int .i64 a]) = .returned (.tuple #[v, .int .i64 b]) := by rw [h]
set_option maxHeartbeats 12800000 in
theorem impl_checkCode (xs : List Value) (x : ImageM) (fn : Nat) (w : World) (hx : RImage w 0 w.heap.size xs x) (hfn : fn < x.qCodes.length) (hsz : sizedB x.qCodes = true) :
    Calls Tryz.prog 25 #[.agg xs.toArray, .int .i64 fn] w fun e w' => ∃ v hs, e = .returned (.tuple #[v, .int .i64 (codeN x.qCodes x.qCodes[fn])]) ∧ w'.ownsRow w.heap.size 3 1 v hs.length (icells .i64 hs) ∧ (codeN x.qCodes x.qCodes[fn] = 0 → HInv (waysOf x.qCodes x.qCodes[fn]) hs []) ∧ (codeN x.qCodes x.qCodes[fn] ≠ 0 → hs = []) ∧ Below w.heap.size w w' := by
  have hx0 := hx
  have hmem : x.qCodes[fn] ∈ x.qCodes := List.getElem_mem hfn
  obtain ⟨hl1, hall⟩ := sizedB_iff.1 hsz
  obtain ⟨v0, rfl, h0⟩ := hx
  obtain ⟨A, c, rfl⟩ := h0.form
  obtain ⟨b0, o0, v2, v3, v4, rfl, hbB0, d0, d1, d2, d3, d4, hc⟩ := RCode_at h0 hfn
  have hc0 := hc
  generalize x.qCodes[fn] = m at *
  obtain ⟨_, _, _, hN, hR300, hI⟩ := codeOk_iff.1 (hall m hmem)
  obtain ⟨_, _, _, ey, h2, h3, h4⟩ := hc
  cases ey
  obtain ⟨A2, c2, rfl⟩ := h2.form
  obtain ⟨A3, c3, rfl⟩ := h3.form
  obtain ⟨A4, c4, rfl⟩ := h4.form
  have hF := fun h1 h3' h4' => fit_of (l := x.qCodes) (c := m) hsz hmem h1 h3' h4'
  have hsm := fun h => small_of_rows m.qIns.length (by omega) m.qRows 0 (by omega) h
  have hC1 := fun W (hW : Below w.heap.size w W) => impl_areNamed _ _ x m W (RImage_stable.here hx0 hW) (RCode_stable.here hc0 hW)
  have hC2 : ∀ W, Below w.heap.size w W → Bk W w.heap.size 31 #[.slice (some ⟨b0, o0, none⟩) x.qCodes.length c] → Calls Tryz.prog 51 #[.slice A2 m.qSites.length c2, .func (.func 52) #[] #[.pointer (some ⟨w.heap.size, 0, none⟩)]] W fun e w' => e = .returned (.bool (!m.qSites.all (siteI x.qCodes))) ∧ Below W.heap.size W w' := fun W hW hk => by
    rw [List.all_eq_not_any_not, Bool.not_not]
    exact anyIntC _ m.qSites (fun n => !siteI x.qCodes n) 52 _ (enters_of Tryz.func52 (by kernel_rfl) rfl) W (h2.here hW).rd (fun n W' hW' => checkCode1 n _ c x.qCodes w.heap.size W' (hk.below hW') ((h0.here RCode_stable hW).here RCode_stable hW') hl1.2)
  have hC3 := fun W (hW : Below w.heap.size w W) => impl_goesOn (.slice A3 m.qIns.length c3) m.qIns W (h3.here hW).rd hN.2 hI
  have hC4 := fun W (hW : Below w.heap.size w W) => impl_areRows (.slice A4 m.qRows.length c4) m.qRows m.qIns.length W (h4.here hW).rd (by omega) (by omega) (by omega)
  have hC5 := fun hF W (hW : Below w.heap.size w W) => impl_heightsOf _ _ x m W (RImage_stable.here hx0 hW) (RCode_stable.here hc0 hW) hF
  have hC6 := fun (hsm : small m.qRows) (a : Int) W (hW : Below w.heap.size w W) => impl_rowOf (.slice A4 m.qRows.length c4) m.qRows a W (h4.here hW).rd (by omega)
  have hin := h3.rd
  have hro := h4.rd
  obtain ⟨K, hK⟩ : ∃ K, K = codeN x.qCodes m := ⟨_, rfl⟩
  have e1 := @codeN_1 x.qCodes m
  have e2 := @codeN_2 x.qCodes m
  have e3 := @codeN_3 x.qCodes m
  have e4 := @codeN_4 x.qCodes m
  have e5 := @codeN_5 x.qCodes m
  have eh := fun hs => @codeN_h x.qCodes m hs
  rw [← hK] at e1 e2 e3 e4 e5 ⊢
  simp only [← hK] at eh
  clear hK
  obtain ⟨W, hW⟩ : ∃ W, W = waysOf x.qCodes m := ⟨_, rfl⟩
  have hWN : W.N = m.qIns.length := by rw [hW]; rfl
  simp only [← hW] at eh hC5 e5 ⊢
  clear hW hx0 hc0 hmem hall hsz hI h2 h3 h4
  obtain ⟨l⟩ := x
  obtain ⟨m0, m1, l2, I, R⟩ := m
  dsimp only at *
  have hl := h0.long
  have hfnI : (fn : Int) < (l.length : Int) := by omega
  have hfn0 : (0 : Int) ≤ (fn : Int) := by omega
  have B0 := hide (((Below.refl w.heap.size w).alloc (Nat.le_refl _) (.cells #[.slice (some ⟨b0, o0, none⟩) l.length c] 31)).alloc (by rw [World.size_alloc]; omega) (.cells #[.int .i64 m0, .int .i64 m1, .slice A2 l2.length c2, .slice A3 I.length c3, .slice A4 R.length c4] 58))
  have I0 := hide ((Bk.new w 31 #[.slice (some ⟨b0, o0, none⟩) l.length c]).alloc (.cells #[.int .i64 m0, .int .i64 m1, .slice A2 l2.length c2, .slice A3 I.length c3, .slice A4 R.length c4] 58))
  have C0 := hide (show Bk ((w.alloc (.cells #[.slice (some ⟨b0, o0, none⟩) l.length c] 31)).alloc (.cells #[.int .i64 m0, .int .i64 m1, .slice A2 l2.length c2, .slice A3 I.length c3, .slice A4 R.length c4] 58)) (w.heap.size + 1) 58 #[.int .i64 m0, .int .i64 m1, .slice A2 l2.length c2, .slice A3 I.length c3, .slice A4 R.length c4] by
    have h := Bk.new (w.alloc (.cells #[.slice (some ⟨b0, o0, none⟩) l.length c] 31)) 58 #[.int .i64 m0, .int .i64 m1, .slice A2 l2.length c2, .slice A3 I.length c3, .slice A4 R.length c4]
    rw [World.size_alloc] at h
    exact h)
  have Hin := hide hin; have Hro := hide hro
  clear hin hro h0
  generalize hb1 : I.all (namedI l.length ⟨m0, m1, l2, I, R⟩) = b1 at *
  generalize hb2 : l2.all (siteI l) = b2 at *
  generalize hb3 : goesL I.length 0 I = b3 at *
  generalize hb4 : rowsOk I.length 0 R = b4 at *
  cases b1
  · obtain rfl := e1 rfl
    have HC1 := Lib.hid hC1; clear hC1
    clear hF hsm e1 e2 e3 e4 e5 eh hC2 hC3 hC4 hC5 hC6 hb1 hb2 hb3 hb4
    go_enter Tryz.func25, Tryz.ntmps25
    go_wp2_with (first
      | (go_at_call 50; refine (HC1.out _ (by exact B0.out)).mono ?_; rintro e w1 ⟨rfl, hb⟩; have B1 := hide (B0.out.trans (hb.mono B0.out.size)); have I1 := hide (I0.out.below hb); have C1 := hide (C0.out.below hb); have il1 := I1.out.lt; have cl1 := C1.out.lt; have i01 := I1.out.cell 0; have k01 := C1.out.cell 0; have k11 := C1.out.cell 1; have k21 := C1.out.cell 2; have k31 := C1.out.cell 3; have k41 := C1.out.cell 4; clear hb B0 I0 C0))
    go_ret2
    exact ⟨_, [], rfl, World.ownsRow_nil _ _ _ _, fun h => absurd h (by decide), fun _ => rfl, B1.out⟩
  cases b2
  · obtain rfl := e2 rfl rfl
    have HC1 := Lib.hid hC1; clear hC1
    have HC2 := Lib.hid hC2; clear hC2
    clear hF hsm e1 e2 e3 e4 e5 eh hC3 hC4 hC5 hC6 hb1 hb2 hb3 hb4
    go_enter Tryz.func25, Tryz.ntmps25
    go_wp2_with (first
      | (go_at_call 50; refine (HC1.out _ (by exact B0.out)).mono ?_; rintro e w1 ⟨rfl, hb⟩; have B1 := hide (B0.out.trans (hb.mono B0.out.size)); have I1 := hide (I0.out.below hb); have C1 := hide (C0.out.below hb); have il1 := I1.out.lt; have cl1 := C1.out.lt; have i01 := I1.out.cell 0; have k01 := C1.out.cell 0; have k11 := C1.out.cell 1; have k21 := C1.out.cell 2; have k31 := C1.out.cell 3; have k41 := C1.out.cell 4; clear hb B0 I0 C0)
      | (go_at_call 51; refine (HC2.out _ (by exact B1.out) (by exact I1.out)).mono ?_; rintro e w2 ⟨rfl, hb⟩; have B2 := hide (B1.out.trans (hb.mono B1.out.size)); have I2 := hide (I1.out.below hb); have C2 := hide (C1.out.below hb); have il2 := I2.out.lt; have cl2 := C2.out.lt; have i02 := I2.out.cell 0; have k02 := C2.out.cell 0; have k12 := C2.out.cell 1; have k22 := C2.out.cell 2; have k32 := C2.out.cell 3; have k42 := C2.out.cell 4; clear hb B1 I1 C1 il1 cl1 i01 k01 k11 k21 k31 k41))
    go_ret2
    exact ⟨_, [], rfl, World.ownsRow_nil _ _ _ _, fun h => absurd h (by decide), fun _ => rfl, B2.out⟩
  cases b3
  · obtain rfl := e3 rfl rfl rfl
    have HC1 := Lib.hid hC1; clear hC1
    have HC2 := Lib.hid hC2; clear hC2
    have HC3 := Lib.hid hC3; clear hC3
    clear hF hsm e1 e2 e3 e4 e5 eh hC4 hC5 hC6 hb1 hb2 hb3 hb4
    go_enter Tryz.func25, Tryz.ntmps25
    go_wp2_with (first
      | (go_at_call 50; refine (HC1.out _ (by exact B0.out)).mono ?_; rintro e w1 ⟨rfl, hb⟩; have B1 := hide (B0.out.trans (hb.mono B0.out.size)); have I1 := hide (I0.out.below hb); have C1 := hide (C0.out.below hb); have il1 := I1.out.lt; have cl1 := C1.out.lt; have i01 := I1.out.cell 0; have k01 := C1.out.cell 0; have k11 := C1.out.cell 1; have k21 := C1.out.cell 2; have k31 := C1.out.cell 3; have k41 := C1.out.cell 4; clear hb B0 I0 C0)
      | (go_at_call 51; refine (HC2.out _ (by exact B1.out) (by exact I1.out)).mono ?_; rintro e w2 ⟨rfl, hb⟩; have B2 := hide (B1.out.trans (hb.mono B1.out.size)); have I2 := hide (I1.out.below hb); have C2 := hide (C1.out.below hb); have il2 := I2.out.lt; have cl2 := C2.out.lt; have i02 := I2.out.cell 0; have k02 := C2.out.cell 0; have k12 := C2.out.cell 1; have k22 := C2.out.cell 2; have k32 := C2.out.cell 3; have k42 := C2.out.cell 4; clear hb B1 I1 C1 il1 cl1 i01 k01 k11 k21 k31 k41)
      | (go_at_call 53; refine (HC3.out _ (by exact B2.out)).mono ?_; rintro e w3 ⟨rfl, hb⟩; have B3 := hide (B2.out.trans (hb.mono B2.out.size)); have I3 := hide (I2.out.below hb); have C3 := hide (C2.out.below hb); have il3 := I3.out.lt; have cl3 := C3.out.lt; have i03 := I3.out.cell 0; have k03 := C3.out.cell 0; have k13 := C3.out.cell 1; have k23 := C3.out.cell 2; have k33 := C3.out.cell 3; have k43 := C3.out.cell 4; clear hb B2 I2 C2 il2 cl2 i02 k02 k12 k22 k32 k42))
    go_ret2
    exact ⟨_, [], rfl, World.ownsRow_nil _ _ _ _, fun h => absurd h (by decide), fun _ => rfl, B3.out⟩
  cases b4
  · obtain rfl := e4 rfl rfl rfl rfl
    have HC1 := Lib.hid hC1; clear hC1
    have HC2 := Lib.hid hC2; clear hC2
    have HC3 := Lib.hid hC3; clear hC3
    have HC4 := Lib.hid hC4; clear hC4
    clear hF hsm e1 e2 e3 e4 e5 eh hC5 hC6 hb1 hb2 hb3 hb4
    go_enter Tryz.func25, Tryz.ntmps25
    go_wp2_with (first
      | (go_at_call 50; refine (HC1.out _ (by exact B0.out)).mono ?_; rintro e w1 ⟨rfl, hb⟩; have B1 := hide (B0.out.trans (hb.mono B0.out.size)); have I1 := hide (I0.out.below hb); have C1 := hide (C0.out.below hb); have il1 := I1.out.lt; have cl1 := C1.out.lt; have i01 := I1.out.cell 0; have k01 := C1.out.cell 0; have k11 := C1.out.cell 1; have k21 := C1.out.cell 2; have k31 := C1.out.cell 3; have k41 := C1.out.cell 4; clear hb B0 I0 C0)
      | (go_at_call 51; refine (HC2.out _ (by exact B1.out) (by exact I1.out)).mono ?_; rintro e w2 ⟨rfl, hb⟩; have B2 := hide (B1.out.trans (hb.mono B1.out.size)); have I2 := hide (I1.out.below hb); have C2 := hide (C1.out.below hb); have il2 := I2.out.lt; have cl2 := C2.out.lt; have i02 := I2.out.cell 0; have k02 := C2.out.cell 0; have k12 := C2.out.cell 1; have k22 := C2.out.cell 2; have k32 := C2.out.cell 3; have k42 := C2.out.cell 4; clear hb B1 I1 C1 il1 cl1 i01 k01 k11 k21 k31 k41)
      | (go_at_call 53; refine (HC3.out _ (by exact B2.out)).mono ?_; rintro e w3 ⟨rfl, hb⟩; have B3 := hide (B2.out.trans (hb.mono B2.out.size)); have I3 := hide (I2.out.below hb); have C3 := hide (C2.out.below hb); have il3 := I3.out.lt; have cl3 := C3.out.lt; have i03 := I3.out.cell 0; have k03 := C3.out.cell 0; have k13 := C3.out.cell 1; have k23 := C3.out.cell 2; have k33 := C3.out.cell 3; have k43 := C3.out.cell 4; clear hb B2 I2 C2 il2 cl2 i02 k02 k12 k22 k32 k42)
      | (go_at_call 54; refine (HC4.out _ (by exact B3.out)).mono ?_; rintro e w4 ⟨rfl, hb⟩; have B4 := hide (B3.out.trans (hb.mono B3.out.size)); have I4 := hide (I3.out.below hb); have C4 := hide (C3.out.below hb); have il4 := I4.out.lt; have cl4 := C4.out.lt; have i04 := I4.out.cell 0; have k04 := C4.out.cell 0; have k14 := C4.out.cell 1; have k24 := C4.out.cell 2; have k34 := C4.out.cell 3; have k44 := C4.out.cell 4; clear hb B3 I3 C3 il3 cl3 i03 k03 k13 k23 k33 k43))
    go_ret2
    exact ⟨_, [], rfl, World.ownsRow_nil _ _ _ _, fun h => absurd h (by decide), fun _ => rfl, B4.out⟩
  have hfit := hF rfl rfl rfl
  have hsm' := hsm rfl
  have hC5' := hC5 hfit
  have hC6' := hC6 hsm'
  clear hC5 hC6 hF hsm e1 e2 e3 e4
  by_cases hbad : W.bad
  · obtain rfl := e5 rfl rfl rfl rfl hbad
    have hC5 : ∀ W', Below w.heap.size w W' → Calls Tryz.prog 55 #[.agg #[.slice (some ⟨b0, o0, none⟩) l.length c], .agg #[.int .i64 m0, .int .i64 m1, .slice A2 l2.length c2, .slice A3 I.length c3, .slice A4 R.length c4]] W' fun e w' => (∃ v, e = .returned (.tuple #[v, .bool false])) ∧ Below W'.heap.size W' w' := fun W' hW' => (hC5' W' hW').mono fun e w' ⟨v, b, hs, h1, h2, h3, h4⟩ => by
      rcases h3 with ⟨rfl, hi⟩ | ⟨rfl, _, _⟩
      · exact absurd hbad hi.good
      · exact ⟨⟨v, h1⟩, h4⟩
    have HC1 := Lib.hid hC1; clear hC1
    have HC2 := Lib.hid hC2; clear hC2
    have HC3 := Lib.hid hC3; clear hC3
    have HC4 := Lib.hid hC4; clear hC4
    have HC5 := Lib.hid hC5; clear hC5
    clear e5 eh hb1 hb2 hb3 hb4 hC5' hC6' hbad
    go_enter Tryz.func25, Tryz.ntmps25
    go_wp2_with (first
      | (go_at_call 50; refine (HC1.out _ (by exact B0.out)).mono ?_; rintro e w1 ⟨rfl, hb⟩; have B1 := hide (B0.out.trans (hb.mono B0.out.size)); have I1 := hide (I0.out.below hb); have C1 := hide (C0.out.below hb); have il1 := I1.out.lt; have cl1 := C1.out.lt; have i01 := I1.out.cell 0; have k01 := C1.out.cell 0; have k11 := C1.out.cell 1; have k21 := C1.out.cell 2; have k31 := C1.out.cell 3; have k41 := C1.out.cell 4; clear hb B0 I0 C0)
      | (go_at_call 51; refine (HC2.out _ (by exact B1.out) (by exact I1.out)).mono ?_; rintro e w2 ⟨rfl, hb⟩; have B2 := hide (B1.out.trans (hb.mono B1.out.size)); have I2 := hide (I1.out.below hb); have C2 := hide (C1.out.below hb); have il2 := I2.out.lt; have cl2 := C2.out.lt; have i02 := I2.out.cell 0; have k02 := C2.out.cell 0; have k12 := C2.out.cell 1; have k22 := C2.out.cell 2; have k32 := C2.out.cell 3; have k42 := C2.out.cell 4; clear hb B1 I1 C1 il1 cl1 i01 k01 k11 k21 k31 k41)
      | (go_at_call 53; refine (HC3.out _ (by exact B2.out)).mono ?_; rintro e w3 ⟨rfl, hb⟩; have B3 := hide (B2.out.trans (hb.mono B2.out.size)); have I3 := hide (I2.out.below hb); have C3 := hide (C2.out.below hb); have il3 := I3.out.lt; have cl3 := C3.out.lt; have i03 := I3.out.cell 0; have k03 := C3.out.cell 0; have k13 := C3.out.cell 1; have k23 := C3.out.cell 2; have k33 := C3.out.cell 3; have k43 := C3.out.cell 4; clear hb B2 I2 C2 il2 cl2 i02 k02 k12 k22 k32 k42)
      | (go_at_call 54; refine (HC4.out _ (by exact B3.out)).mono ?_; rintro e w4 ⟨rfl, hb⟩; have B4 := hide (B3.out.trans (hb.mono B3.out.size)); have I4 := hide (I3.out.below hb); have C4 := hide (C3.out.below hb); have il4 := I4.out.lt; have cl4 := C4.out.lt; have i04 := I4.out.cell 0; have k04 := C4.out.cell 0; have k14 := C4.out.cell 1; have k24 := C4.out.cell 2; have k34 := C4.out.cell 3; have k44 := C4.out.cell 4; clear hb B3 I3 C3 il3 cl3 i03 k03 k13 k23 k33 k43)
      | (go_at_call 55; refine (HC5.out _ (by exact B4.out)).mono ?_; rintro e w5 ⟨⟨v5, rfl⟩, hb⟩; have B5 := hide (B4.out.trans (hb.mono B4.out.size)); have I5 := hide (I4.out.below hb); have C5 := hide (C4.out.below hb); have il5 := I5.out.lt; have cl5 := C5.out.lt; have i05 := I5.out.cell 0; have k05 := C5.out.cell 0; have k15 := C5.out.cell 1; have k25 := C5.out.cell 2; have k35 := C5.out.cell 3; have k45 := C5.out.cell 4; clear hb B4 I4 C4 il4 cl4 i04 k04 k14 k24 k34 k44))
    go_ret2
    exact ⟨_, [], rfl, World.ownsRow_nil _ _ _ _, fun h => absurd h (by decide), fun _ => rfl, B5.out⟩
  have hC5 : ∀ W', Below w.heap.size w W' → Calls Tryz.prog 55 #[.agg #[.slice (some ⟨b0, o0, none⟩) l.length c], .agg #[.int .i64 m0, .int .i64 m1, .slice A2 l2.length c2, .slice A3 I.length c3, .slice A4 R.length c4]] W' fun e w' => (∃ v hs, e = .returned (.tuple #[v, .bool true]) ∧ w'.ownsRow W'.heap.size 3 1 v hs.length (icells .i64 hs) ∧ HInv W hs []) ∧ Below W'.heap.size W' w' := fun W' hW' => (hC5' W' hW').mono fun e w' ⟨v, b, hs, h1, h2, h3, h4⟩ => by
    rcases h3 with ⟨rfl, hi⟩ | ⟨rfl, h, _⟩
    · exact ⟨⟨v, hs, h1, h2, hi⟩, h4⟩
    · exact absurd h hbad
  have hKh := fun hs => eh hs rfl rfl rfl rfl

  have HC1 := Lib.hid hC1; clear hC1
  have HC2 := Lib.hid hC2; clear hC2
  have HC3 := Lib.hid hC3; clear hC3
  have HC4 := Lib.hid hC4; clear hC4
  have HC5 := Lib.hid hC5; clear hC5
  have HC6 := Lib.hid hC6'; have HKh := Lib.hid hKh; have Fit' := hide hfit
  clear e5 eh hb1 hb2 hb3 hb4 hC5' hC6' hbad hKh hfit hsm'
  go_enter Tryz.func25, Tryz.ntmps25
  go_wp2_with (first
    | (go_at_call 50; refine (HC1.out _ (by exact B0.out)).mono ?_; rintro e w1 ⟨rfl, hb⟩; have B1 := hide (B0.out.trans (hb.mono B0.out.size)); have I1 := hide (I0.out.below hb); have C1 := hide (C0.out.below hb); have il1 := I1.out.lt; have cl1 := C1.out.lt; have i01 := I1.out.cell 0; have k01 := C1.out.cell 0; have k11 := C1.out.cell 1; have k21 := C1.out.cell 2; have k31 := C1.out.cell 3; have k41 := C1.out.cell 4; clear hb B0 I0 C0)
    | (go_at_call 51; refine (HC2.out _ (by exact B1.out) (by exact I1.out)).mono ?_; rintro e w2 ⟨rfl, hb⟩; have B2 := hide (B1.out.trans (hb.mono B1.out.size)); have I2 := hide (I1.out.below hb); have C2 := hide (C1.out.below hb); have il2 := I2.out.lt; have cl2 := C2.out.lt; have i02 := I2.out.cell 0; have k02 := C2.out.cell 0; have k12 := C2.out.cell 1; have k22 := C2.out.cell 2; have k32 := C2.out.cell 3; have k42 := C2.out.cell 4; clear hb B1 I1 C1 il1 cl1 i01 k01 k11 k21 k31 k41)
    | (go_at_call 53; refine (HC3.out _ (by exact B2.out)).mono ?_; rintro e w3 ⟨rfl, hb⟩; have B3 := hide (B2.out.trans (hb.mono B2.out.size)); have I3 := hide (I2.out.below hb); have C3 := hide (C2.out.below hb); have il3 := I3.out.lt; have cl3 := C3.out.lt; have i03 := I3.out.cell 0; have k03 := C3.out.cell 0; have k13 := C3.out.cell 1; have k23 := C3.out.cell 2; have k33 := C3.out.cell 3; have k43 := C3.out.cell 4; clear hb B2 I2 C2 il2 cl2 i02 k02 k12 k22 k32 k42)
    | (go_at_call 54; refine (HC4.out _ (by exact B3.out)).mono ?_; rintro e w4 ⟨rfl, hb⟩; have B4 := hide (B3.out.trans (hb.mono B3.out.size)); have I4 := hide (I3.out.below hb); have C4 := hide (C3.out.below hb); have il4 := I4.out.lt; have cl4 := C4.out.lt; have i04 := I4.out.cell 0; have k04 := C4.out.cell 0; have k14 := C4.out.cell 1; have k24 := C4.out.cell 2; have k34 := C4.out.cell 3; have k44 := C4.out.cell 4; clear hb B3 I3 C3 il3 cl3 i03 k03 k13 k23 k33 k43)
    | (go_at_call 55; refine (HC5.out _ (by exact B4.out)).mono ?_; rintro e w5 ⟨⟨v5, hs, rfl, hown, hinv⟩, hb⟩; have B5 := hide (B4.out.trans (hb.mono B4.out.size)); have I5 := hide (I4.out.below hb); have C5 := hide (C4.out.below hb); have il5 := I5.out.lt; have cl5 := C5.out.lt; have i05 := I5.out.cell 0; have k05 := C5.out.cell 0; have k15 := C5.out.cell 1; have k25 := C5.out.cell 2; have k35 := C5.out.cell 3; have k45 := C5.out.cell 4; obtain ⟨Ah, ch, rfl⟩ := own_form hown; have HO5 := hide (own_base hown B4.out.size); have Hinv := hide hinv; have HK := hide (HKh.out hs hinv); have zb5 := hb.size; clear hown hinv; clear hb B4 I4 C4 il4 cl4 i04 k04 k14 k24 k34 k44))
  clear il5 cl5 i05 k05 k15 k25 k35 k45
  have hhN : hs.length = I.length := by rw [← hWN]; exact Hinv.out.1
  obtain ⟨R6, hR6⟩ : ∃ R6, R6 = anyAt (fun a v t => bad6 R a v t) 0 hs I := ⟨_, rfl⟩
  obtain ⟨R7, hR7⟩ : ∃ R7, R7 = anyAt (fun _ v t => bad7 v t) 0 hs I := ⟨_, rfl⟩
  have h6 : R6 = true → K = 6 := fun h => HK.out.trans (codeH_6 (by rw [← hR6]; exact h))
  have h7 : R6 = false → R7 = true → K = 7 := fun h h' => HK.out.trans (codeH_7 (by rw [← hR6]; exact h) (by rw [← hR7]; exact h'))
  have h0 : R6 = false → R7 = false → K = 0 := fun h h' => HK.out.trans (codeH_0 (by rw [← hR6]; exact h) (by rw [← hR7]; exact h'))
  have st6 : ∀ k (h1 : k < hs.length) (h2 : k < I.length), anyAt (fun a v t => bad6 R a v t) k (hs.drop k) (I.drop k) = (bad6 R k hs[k] I[k] || anyAt (fun a v t => bad6 R a v t) (k + 1) (hs.drop (k + 1)) (I.drop (k + 1))) := fun k h1 h2 => anyAt_step h1 h2
  have st7 : ∀ k (h1 : k < hs.length) (h2 : k < I.length), anyAt (fun _ v t => bad7 v t) k (hs.drop k) (I.drop k) = (bad7 hs[k] I[k] || anyAt (fun _ v t => bad7 v t) (k + 1) (hs.drop (k + 1)) (I.drop (k + 1))) := fun k h1 h2 => anyAt_step h1 h2
  have en6 : anyAt (fun a v t => bad6 R a v t) I.length (hs.drop I.length) (I.drop I.length) = false := anyAt_end hhN
  have en7 : anyAt (fun _ v t => bad7 v t) I.length (hs.drop I.length) (I.drop I.length) = false := anyAt_end hhN
  have HR6 := hide hR6; have HR7 := hide hR7; have H6f := Lib.hid h6; have H7f := Lib.hid h7; have H0f := Lib.hid h0; have St6 := Lib.hid st6; have St7 := Lib.hid st7; have En6 := hide en6; have En7 := hide en7; have HhN := hide hhN
  have hRaise := fun (o : Int) (w : World) => impl_mayRaise o w
  have HRaise := Lib.hid hRaise
  clear hR6 hR7 h6 h7 h0 st6 st7 en6 en7 HKh HK hhN hRaise
  go_loopw [53] (fun i wr => ∃ k : Nat, k ≤ I.length ∧ i = .int .i64 k ∧ anyAt (fun a v t => bad6 R a v t) k (hs.drop k) (I.drop k) = R6 ∧ Below w.heap.size w wr ∧ Bk wr (w.heap.size + 1) 58 #[.int .i64 m0, .int .i64 m1, .slice A2 l2.length c2, .slice A3 I.length c3, .slice A4 R.length c4] ∧ wr.ownsRow w.heap.size 3 1 (.slice Ah hs.length ch) hs.length (icells .i64 hs)) (fun i _ => I.length - (intOf i).toNat)
  case atStart => exact ⟨0, by omega, rfl, HR6.out.symm, B5.out, C5.out, HO5.out⟩
  case round =>
    obtain ⟨k, hk, rfl, hany, hb, hc, ho⟩ := hrel
    have hbs := hb.size
    have hcl := hc.lt
    by_cases hlt : k < I.length
    · have hkh : k < hs.length := by rw [HhN.out]; exact hlt
      obtain ⟨b3, o3, e3, hb3, t0, t1⟩ := Hin.out.two hlt
      subst e3
      have s0 := (hb.cell (p := ⟨b3, o3 + k * 2, none⟩) hb3).trans t0
      have s1 := (hb.cell (p := ⟨b3, o3 + k * 2 + 1, none⟩) hb3).trans t1
      have hb3w : b3 < wr.heap.size := by omega
      obtain ⟨bh, oh, eh', hbh, th⟩ := (Rd.of_own ho).at_ (j := k) (by rw [icells_length]; exact hkh)
      rw [icells_get _ _ hkh] at th
      subst eh'
      rw [St6.out k hkh hlt] at hany
      have hbd := rowIx_bd k R 0
      have k4 := hc.cell 4
      have hRo := fun W' (hW' : Below w.heap.size w W') kk (hkk : kk < R.length) => three3 (Rd.here Hro.out hW') hkk
      have hnx := fun h : bad6 R k hs[k] I[k] = false => (by rw [h, Bool.false_or] at hany; exact hany : anyAt (fun a v t => bad6 R a v t) (k + 1) (hs.drop (k + 1)) (I.drop (k + 1)) = R6)
      have hye := fun h : bad6 R k hs[k] I[k] = true => H6f.out (by rw [h, Bool.true_or] at hany; exact hany.symm)
      have HRo := Lib.hid hRo; have Hnx := Lib.hid hnx; have Hye := Lib.hid hye; have Hbd := hide hbd
      clear t0 t1 hany hRo hnx hye hbd
      generalize I[k] = t at *
      obtain ⟨to, tn⟩ := t
      generalize hs[k] = v at *
      dsimp only at *
      have HB' := hide (hb.alloc hbs (.cells #[.int .i64 to, .int .i64 tn] 84))
      have HC' := hide (hc.alloc (.cells #[.int .i64 to, .int .i64 tn] 84))
      have HO' := hide (ho.alloc (.cells #[.int .i64 to, .int .i64 tn] 84))
      have HI' := hide (Bk.new wr 84 #[.int .i64 to, .int .i64 tn])
      have Hth := hide (show (wr.alloc (.cells #[.int .i64 to, .int .i64 tn] 84)).cell? ⟨bh, oh + k, none⟩ = some (.int .i64 v) from (((Below.refl wr.heap.size wr).alloc (Nat.le_refl _) _).cell (p := ⟨bh, oh + k, none⟩) hbh).trans th)
      have Hbh := hide (show bh < (wr.alloc (.cells #[.int .i64 to, .int .i64 tn] 84)).heap.size by rw [World.size_alloc]; omega)
      have h6c := HC6.out k _ HB'.out
      have hrz := HRaise.out to
      generalize hXe : rowIx k R 0 = X at *
      have HXe := hide hXe; clear hXe
      have H6c := hide h6c
      clear hb hc ho th h6c
      by_cases hv : v < 0
      · have HN := hide (Hnx.out (bad6_neg hv))
        have hv' : ¬ 0 ≤ v := by omega
        clear hrz Hnx Hye
        go_wp2_with (go_at_call 56; refine (H6c.out).mono ?_; rintro e w7 ⟨rfl, hb7⟩; have HB7 := hide (HB'.out.trans (hb7.mono HB'.out.size)); have HC7 := hide (HC'.out.below hb7); have HO7 := hide (own_keep HO'.out hb7); have hi7 := HI'.out.below hb7; have i0 := hi7.cell 0; have i0l := hi7.lt; have th7 := (hb7.cell (p := ⟨bh, oh + k, none⟩) Hbh.out).trans Hth.out; have th7l := Nat.lt_of_lt_of_le Hbh.out hb7.size; have k47 := HC7.out.cell 4; have k47l := HC7.out.lt; clear hb7 hi7 k4)
        go_roundw
        case rel => exact ⟨k + 1, by omega, by go_num, HN.out, HB7.out, HC7.out, HO7.out⟩
        case measure => simp [intOf]; omega
      have hv0 : 0 ≤ v := by omega
      cases hra : raiseB to
      · simp only [hra] at hrz
        have HN := hide (Hnx.out (bad6_calm hra)); have Hrz := Lib.hid hrz; clear hrz Hnx Hye hra
        go_wp2_with (first
          | (go_at_call 56; refine (H6c.out).mono ?_; rintro e w7 ⟨rfl, hb7⟩; have HB7 := hide (HB'.out.trans (hb7.mono HB'.out.size)); have HC7 := hide (HC'.out.below hb7); have HO7 := hide (own_keep HO'.out hb7); have hi7 := HI'.out.below hb7; have i0 := hi7.cell 0; have i0l := hi7.lt; have th7 := (hb7.cell (p := ⟨bh, oh + k, none⟩) Hbh.out).trans Hth.out; have th7l := Nat.lt_of_lt_of_le Hbh.out hb7.size; have k47 := HC7.out.cell 4; have k47l := HC7.out.lt; clear hb7 hi7 k4)
          | (go_at_call 57; refine (Hrz.out _).mono ?_; rintro e w8 ⟨rfl, rfl⟩))
        go_roundw
        case rel => exact ⟨k + 1, by omega, by go_num, HN.out, HB7.out, HC7.out, HO7.out⟩
        case measure => simp [intOf]; omega
      simp only [hra] at hrz
      have Hrz := Lib.hid hrz; clear hrz
      by_cases hX : X < 0
      · have H6 := hide (Hye.out (bad6_out hv0 hra (by rw [HXe.out]; exact hX))); clear Hnx Hye hra
        go_wp2_with (first
          | (go_at_call 56; refine (H6c.out).mono ?_; rintro e w7 ⟨rfl, hb7⟩; have HB7 := hide (HB'.out.trans (hb7.mono HB'.out.size)); have HC7 := hide (HC'.out.below hb7); have HO7 := hide (own_keep HO'.out hb7); have hi7 := HI'.out.below hb7; have i0 := hi7.cell 0; have i0l := hi7.lt; have th7 := (hb7.cell (p := ⟨bh, oh + k, none⟩) Hbh.out).trans Hth.out; have th7l := Nat.lt_of_lt_of_le Hbh.out hb7.size; have k47 := HC7.out.cell 4; have k47l := HC7.out.lt; clear hb7 hi7 k4)
          | (go_at_call 57; refine (Hrz.out _).mono ?_; rintro e w8 ⟨rfl, rfl⟩))
        go_ret2
        exact ⟨_, [], retV H6.out.symm, World.ownsRow_nil _ _ _ _, fun h => absurd (H6.out.symm.trans h) (by decide), fun _ => rfl, HB7.out⟩
      obtain ⟨kk, rfl⟩ : ∃ kk : Nat, X = kk := ⟨X.toNat, by omega⟩
      have hkk : kk < R.length := by have := Hbd.out; omega
      have hdec := bad6_row (rows := R) (a := k) (v := v) (t := ⟨to, tn⟩) (k := kk) hv0 hra HXe.out hkk
      have hkkI : (kk : Int) < (R.length : Int) := by omega
      have hkk0 : (0 : Int) ≤ (kk : Int) := by omega
      obtain ⟨b9, o9, e9, hb9, -, -, tp⟩ := three3 Hro.out hkk
      subst e9
      have Htp := hide tp; clear tp HRo HXe Hbd
      generalize R[kk].p = pd at *
      by_cases hpd : pd ≤ (k : Int)
      · have H6 := hide (Hye.out (hdec.trans (decide_eq_true hpd))); clear Hnx Hye hra hdec
        go_wp2_with (first
          | (go_at_call 56; refine (H6c.out).mono ?_; rintro e w7 ⟨rfl, hb7⟩; have HB7 := hide (HB'.out.trans (hb7.mono HB'.out.size)); have HC7 := hide (HC'.out.below hb7); have HO7 := hide (own_keep HO'.out hb7); have hi7 := HI'.out.below hb7; have i0 := hi7.cell 0; have i0l := hi7.lt; have th7 := (hb7.cell (p := ⟨bh, oh + k, none⟩) Hbh.out).trans Hth.out; have th7l := Nat.lt_of_lt_of_le Hbh.out hb7.size; have k47 := HC7.out.cell 4; have k47l := HC7.out.lt; have p9 := (HB7.out.cell (p := ⟨b9, o9 + kk * 3 + 2, none⟩) hb9).trans Htp.out; have p9l : b9 < w7.heap.size := Nat.lt_of_lt_of_le hb9 HB7.out.size; clear hb7 hi7 k4)
          | (go_at_call 57; refine (Hrz.out _).mono ?_; rintro e w8 ⟨rfl, rfl⟩))
        go_ret2
        exact ⟨_, [], retV H6.out.symm, World.ownsRow_nil _ _ _ _, fun h => absurd (H6.out.symm.trans h) (by decide), fun _ => rfl, HB7.out⟩
      · have HN := hide (Hnx.out (hdec.trans (decide_eq_false hpd))); clear Hnx Hye hra hdec
        go_wp2_with (first
          | (go_at_call 56; refine (H6c.out).mono ?_; rintro e w7 ⟨rfl, hb7⟩; have HB7 := hide (HB'.out.trans (hb7.mono HB'.out.size)); have HC7 := hide (HC'.out.below hb7); have HO7 := hide (own_keep HO'.out hb7); have hi7 := HI'.out.below hb7; have i0 := hi7.cell 0; have i0l := hi7.lt; have th7 := (hb7.cell (p := ⟨bh, oh + k, none⟩) Hbh.out).trans Hth.out; have th7l := Nat.lt_of_lt_of_le Hbh.out hb7.size; have k47 := HC7.out.cell 4; have k47l := HC7.out.lt; have p9 := (HB7.out.cell (p := ⟨b9, o9 + kk * 3 + 2, none⟩) hb9).trans Htp.out; have p9l : b9 < w7.heap.size := Nat.lt_of_lt_of_le hb9 HB7.out.size; clear hb7 hi7 k4)
          | (go_at_call 57; refine (Hrz.out _).mono ?_; rintro e w8 ⟨rfl, rfl⟩))
        go_roundw
        case rel => exact ⟨k + 1, by omega, by go_num, HN.out, HB7.out, HC7.out, HO7.out⟩
        case measure => simp [intOf]; omega
    · obtain rfl : k = I.length := by omega
      have hR6 : R6 = false := hany.symm.trans En6.out
      have HZ6 := hide hR6
      have k3 := hc.cell 3
      have HB6 := hide hb; have HC6' := hide hc; have HO6 := hide ho
      clear hany hb hc ho hR6
      go_wp2
      clear k3
      go_loopw [90] (fun i wi => ∃ k : Nat, k ≤ I.length ∧ i = .int .i64 k ∧ anyAt (fun _ v t => bad7 v t) k (hs.drop k) (I.drop k) = R7 ∧ Below w.heap.size w wi ∧ wi.ownsRow w.heap.size 3 1 (.slice Ah hs.length ch) hs.length (icells .i64 hs)) (fun i _ => I.length - (intOf i).toNat)
      case atStart => exact ⟨0, by omega, rfl, HR7.out.symm, HB6.out, HO6.out⟩
      case round =>
        obtain ⟨k, hk, rfl, hany, hb, ho⟩ := hrel
        have hbs := hb.size
        by_cases hlt : k < I.length
        · have hkh : k < hs.length := by rw [HhN.out]; exact hlt
          obtain ⟨b3, o3, e3, hb3, t0, t1⟩ := Hin.out.two hlt
          subst e3
          have s0 := (hb.cell (p := ⟨b3, o3 + k * 2, none⟩) hb3).trans t0
          have s1 := (hb.cell (p := ⟨b3, o3 + k * 2 + 1, none⟩) hb3).trans t1
          have hb3w : b3 < wr.heap.size := by omega
          obtain ⟨bh, oh, eh', hbh, th⟩ := (Rd.of_own ho).at_ (j := k) (by rw [icells_length]; exact hkh)
          rw [icells_get _ _ hkh] at th
          subst eh'
          rw [St7.out k hkh hlt] at hany
          have hnx := fun h : bad7 hs[k] I[k] = false => (by rw [h, Bool.false_or] at hany; exact hany : anyAt (fun _ v t => bad7 v t) (k + 1) (hs.drop (k + 1)) (I.drop (k + 1)) = R7)
          have hye := fun h : bad7 hs[k] I[k] = true => H7f.out HZ6.out (by rw [h, Bool.true_or] at hany; exact hany.symm)
          have Hnx := Lib.hid hnx; have Hye := Lib.hid hye
          clear t0 t1 hany hnx hye
          generalize I[k] = t at *
          obtain ⟨to, tn⟩ := t
          generalize hs[k] = v at *
          dsimp only at *
          have HB7 := hide (hb.alloc hbs (.cells #[.int .i64 to, .int .i64 tn] 84))
          have HO7 := hide (ho.alloc (.cells #[.int .i64 to, .int .i64 tn] 84))
          clear hb ho
          cases hfl : flatB to
          · obtain ⟨n1, n2, n3, n4⟩ := flat_no hfl
            have q1 := int_ne n1; have q2 := int_ne n2; have q3 := int_ne n3; have q4 := int_ne n4
            have HN := hide (Hnx.out (bad7_no hfl)); clear Hnx Hye hfl n1 n2 n3 n4
            by_cases hv : 0 < v
            all_goals
              go_wp2
              go_roundw
              case rel => exact ⟨k + 1, by omega, by go_num, HN.out, HB7.out, HO7.out⟩
              case measure => simp [intOf]; omega
          · have hfe := bad7_flat (v := v) (t := ⟨to, tn⟩) hfl
            by_cases hv : 0 < v
            · have H6 := hide (Hye.out (hfe.trans (decide_eq_true hv))); clear Hnx Hye hfe
              rcases flat_yes hfl with rfl | rfl | rfl | rfl
              all_goals
                clear hfl
                go_wp2
                go_ret2
                exact ⟨_, [], retV H6.out.symm, World.ownsRow_nil _ _ _ _, fun h => absurd (H6.out.symm.trans h) (by decide), fun _ => rfl, HB7.out⟩
            · have HN := hide (Hnx.out (hfe.trans (decide_eq_false hv))); clear Hnx Hye hfe
              rcases flat_yes hfl with rfl | rfl | rfl | rfl
              all_goals
                clear hfl
                go_wp2
                go_roundw
                case rel => exact ⟨k + 1, by omega, by go_num, HN.out, HB7.out, HO7.out⟩
                case measure => simp [intOf]; omega
        · obtain rfl : k = I.length := by omega
          have H6 := hide (H0f.out HZ6.out (hany.symm.trans En7.out))
          have HB7 := hide hb; have HO7 := hide ho
          clear hany hb ho
          go_wp2
          go_ret2
          exact ⟨_, hs, retV H6.out.symm, HO7.out, fun _ => Hinv.out, fun h => absurd H6.out h, HB7.out⟩
end Go.Proofs.YtaebmliolpgmdaaGreat
