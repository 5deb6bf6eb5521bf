
/- What the marks of the laws leave: int, bool, Frame, Note, Vm. No condition. -/
import Derived.Test.YtaebmliolpgmdaaMk
import Derived.Test.YtaebmliolpgmdaaNdVm
set_option linter.unusedSimpArgs false
set_option linter.unusedVariables false
set_option maxRecDepth 100000
namespace Go.Proofs.Ytaebmliolpgmdaa
open Go.RowKit

theorem le_of_sub {a b c : Int} (h : a = b + c) : b ≤ a - c := by omega

set_option maxHeartbeats 1600000 in
theorem mkIntS (v : Value) (n : Nat) (k0 : Int) (w : World) (lo hi : Nat) (ho : Og w lo hi 3 1 v n) (hk : 0 ≤ k0) (hk2 : k0 + 1 * n ≤ 4000000000000000000) :
    Calls Try.prog 53 #[v, .int .i64 k0] w fun e w' => ∃ k1 : Int, e = .returned (.int .i64 k1) ∧ (k0 + 1 * n ≤ k1 ∧ k1 ≤ k0 + 1 * n) ∧ MkW lo hi w w' := by
  rcases ho.form with ⟨rfl, h0⟩ | ⟨g, cap, rfl⟩
  · subst h0
    clear ho
    go_enter Try.func53, Try.ntmps53
    go_wp2
    go_rounds 1
    go_ret
    exact ⟨_, rfl, by simp, MkW.refl _ _ _⟩
  · have hlong := ho.long
    have Ho := hide ho; clear ho
    go_enter Try.func53, Try.ntmps53
    go_wp2
    go_loopw [1, 5] (fun c i wr => ∃ j : Nat, j ≤ n ∧ i = .int .i64 j ∧ c = .int .i64 (k0 + 1 * j) ∧ MkW lo hi w wr) (fun _ i _ => n - (intOf i).toNat)
    case atStart => exact ⟨0, by omega, rfl, by simp, MkW.refl _ _ _⟩
    case round =>
      obtain ⟨j, hj, rfl, rfl, hm⟩ := hrel
      by_cases hlt : j < n
      · obtain ⟨u0, q0, s0, z0, hlo, hhi⟩ := (Ho.out.mk hm).cell (j := j) (by omega)
        have Hm := hide hm; clear hm
        go_wp2
        go_roundw
        case rel => exact ⟨j + 1, by omega, by go_num, by go_num, (Hm.out).set hlo hhi q0 s0 (by exact trivial)⟩
        case measure => simp [intOf]; omega
      · obtain rfl : j = n := by omega
        have Hm := hide hm; clear hm
        go_wp2
        go_ret
        exact ⟨_, rfl, ⟨Int.le_refl _, Int.le_refl _⟩, Hm.out⟩

set_option maxHeartbeats 1600000 in
theorem mkBoolS (v : Value) (n : Nat) (k0 : Int) (w : World) (lo hi : Nat) (ho : Og w lo hi 4 1 v n) (hk : 0 ≤ k0) (hk2 : k0 + 1 * n ≤ 4000000000000000000) :
    Calls Try.prog 86 #[v, .int .i64 k0] w fun e w' => ∃ k1 : Int, e = .returned (.int .i64 k1) ∧ (k0 + 1 * n ≤ k1 ∧ k1 ≤ k0 + 1 * n) ∧ MkW lo hi w w' := by
  rcases ho.form with ⟨rfl, h0⟩ | ⟨g, cap, rfl⟩
  · subst h0
    clear ho
    go_enter Try.func86, Try.ntmps86
    go_wp2
    go_rounds 1
    go_ret
    exact ⟨_, rfl, by simp, MkW.refl _ _ _⟩
  · have hlong := ho.long
    have Ho := hide ho; clear ho
    go_enter Try.func86, Try.ntmps86
    go_wp2
    go_loopw [1, 5] (fun c i wr => ∃ j : Nat, j ≤ n ∧ i = .int .i64 j ∧ c = .int .i64 (k0 + 1 * j) ∧ MkW lo hi w wr) (fun _ i _ => n - (intOf i).toNat)
    case atStart => exact ⟨0, by omega, rfl, by simp, MkW.refl _ _ _⟩
    case round =>
      obtain ⟨j, hj, rfl, rfl, hm⟩ := hrel
      by_cases hlt : j < n
      · obtain ⟨u0, q0, s0, z0, hlo, hhi⟩ := (Ho.out.mk hm).cell (j := j) (by omega)
        have Hm := hide hm; clear hm
        go_wp2
        go_roundw
        case rel => exact ⟨j + 1, by omega, by go_num, by go_num, (Hm.out).set hlo hhi q0 s0 (by exact trivial)⟩
        case measure => simp [intOf]; omega
      · obtain rfl : j = n := by omega
        have Hm := hide hm; clear hm
        go_wp2
        go_ret
        exact ⟨_, rfl, ⟨Int.le_refl _, Int.le_refl _⟩, Hm.out⟩

theorem OFrame_mk {w w' : World} {lo hi lo' hi' : Nat} (hm : MkW lo' hi' w w') (cs cs' : List Value) (m : FrameM) (h : OFrame w lo hi cs m) (he : ScEq cs cs') : OFrame w' lo hi cs' m := by
  obtain ⟨c0, c1, c2, c3, c4, c5, c6, c7, c8, c9, c10, rfl, s0, s1, s2, s6, s7, s8, s9, s10, h3, h4, h5⟩ := h
  obtain ⟨hl, hc⟩ := he
  obtain ⟨d0, e0, t0⟩ := (hc 0 _ rfl).1 s0
  obtain ⟨d1, e1, t1⟩ := (hc 1 _ rfl).1 s1
  obtain ⟨d2, e2, t2⟩ := (hc 2 _ rfl).1 s2
  have e3 := (hc 3 _ rfl).2 h3.nsc
  have e4 := (hc 4 _ rfl).2 h4.nsc
  have e5 := (hc 5 _ rfl).2 h5.nsc
  obtain ⟨d6, e6, t6⟩ := (hc 6 _ rfl).1 s6
  obtain ⟨d7, e7, t7⟩ := (hc 7 _ rfl).1 s7
  obtain ⟨d8, e8, t8⟩ := (hc 8 _ rfl).1 s8
  obtain ⟨d9, e9, t9⟩ := (hc 9 _ rfl).1 s9
  obtain ⟨d10, e10, t10⟩ := (hc 10 _ rfl).1 s10
  match cs', hl with
  | [b0, b1, b2, b3, b4, b5, b6, b7, b8, b9, b10], _ =>
    simp only [List.getElem?_cons_zero, List.getElem?_cons_succ, Option.some.injEq] at e0 e1 e2 e3 e4 e5 e6 e7 e8 e9 e10
    subst e0 e1 e2 e3 e4 e5 e6 e7 e8 e9 e10
    exact ⟨_, _, _, _, _, _, _, _, _, _, _, rfl, t0, t1, t2, t6, t7, t8, t9, t10, h3.mk hm, h4.mk hm, h5.mk hm⟩

set_option maxHeartbeats 3200000 in
theorem mkFrameS (v : Value) (l : List FrameM) (k0 : Int) (w : World) (lo hi : Nat) (ho : OL OFrame 74 11 w lo hi v l) (hk : 0 ≤ k0) (hk2 : k0 + 16 * szFramesN l ≤ 4000000000000000000) :
    Calls Try.prog 52 #[v, .int .i64 k0] w fun e w' => ∃ k1 : Int, e = .returned (.int .i64 k1) ∧ k0 ≤ k1 ∧ k1 ≤ k0 + 16 * szFramesN l ∧ MkW lo hi w w' := by
  have hN : szFramesN l = l.length + szFramesL l := rfl
  rcases ho.form with ⟨rfl, h0⟩ | ⟨g, cap, rfl⟩
  · obtain rfl := List.eq_nil_of_length_eq_zero h0
    clear ho
    go_enter Try.func52, Try.ntmps52
    go_wp2
    go_rounds 1
    go_ret
    exact ⟨k0, rfl, by omega, by omega, MkW.refl _ _ _⟩
  · obtain ⟨tt, ht⟩ : ∃ tt, tt = szFramesL l := ⟨_, rfl⟩
    rw [← ht] at hN
    rw [hN] at hk2 ⊢
    have Ho := hide ho; have Ht := hide ht; clear ho ht hN
    have hlong : l.length ≤ 9223372036854775807 := by omega
    go_enter Try.func52, Try.ntmps52
    go_wp2
    go_loopw [1, 5] (fun c i wr => ∃ (j s : Nat) (k1 : Int), j ≤ l.length ∧ i = .int .i64 j ∧ c = .int .i64 k1 ∧ s + szFramesL (l.drop j) = tt ∧ k0 ≤ k1 ∧ k1 ≤ k0 + 16 * (j + s) ∧ MkW lo hi w wr) (fun _ i _ => l.length - (intOf i).toNat)
    case atStart => exact ⟨0, 0, k0, by omega, rfl, rfl, by rw [Ht.out]; simp, by omega, by omega, MkW.refl _ _ _⟩
    case round =>
      obtain ⟨j, s, k1, hj, rfl, rfl, hs, hk1, hk1', hm⟩ := hrel
      by_cases hlt : j < l.length
      · have hstep := szFramesL_step hlt
        obtain ⟨g', cap', cs, e, hlo, hhi, hcl, hcell, hO⟩ := (Ho.out.mk hm (fun cs cs' m => OFrame_mk hm cs cs' m)).cell hlt (by decide)
        injection e with e1 e2 e3
        injection e1 with e1
        injection e1 with e1 _ _
        subst e1 e3
        obtain ⟨c0, c1, c2, c3, c4, c5, c6, c7, c8, c9, c10, rfl, s0, s1, s2, s6, s7, s8, s9, s10, h3, h4, h5⟩ := hO
        obtain ⟨q0, z0⟩ := hcell 0 _ rfl
        rw [Nat.add_zero] at q0 z0
        obtain ⟨q1, z1⟩ := hcell 1 _ rfl
        obtain ⟨q2, z2⟩ := hcell 2 _ rfl
        obtain ⟨q3, z3⟩ := hcell 3 _ rfl
        obtain ⟨q4, z4⟩ := hcell 4 _ rfl
        obtain ⟨q5, z5⟩ := hcell 5 _ rfl
        obtain ⟨q6, z6⟩ := hcell 6 _ rfl
        obtain ⟨q7, z7⟩ := hcell 7 _ rfl
        obtain ⟨q8, z8⟩ := hcell 8 _ rfl
        obtain ⟨q9, z9⟩ := hcell 9 _ rfl
        obtain ⟨q10, z10⟩ := hcell 10 _ rfl
        rw [hstep] at hs
        have hz : szFrameN l[j] = szFrameN l[j] := rfl
        conv at hz => rhs; unfold szFrameN
        generalize szFrameN l[j] = z at hs hz
        generalize l[j] = m at *
        obtain ⟨m0, m1, m2, m3, m4, m5, m6, m7, m8, m9, m10⟩ := m
        dsimp only at *
        generalize hy : szFramesL (l.drop (j + 1)) = y at *
        have Hy := hide hy; clear hy
        have Bd3 := h3.long
        have Bd4 := h4.long
        have Bd5 := h5.long
        generalize hz3 : m3.length = n3 at *
        have Hz3 := hide hz3; clear hz3
        generalize hz4 : m4.length = n4 at *
        have Hz4 := hide hz4; clear hz4
        generalize hz5 : m5.length = n5 at *
        have Hz5 := hide hz5; clear hz5
        have H3 := hide h3; clear h3
        have H4 := hide h4; clear h4
        have H5 := hide h5; clear h5
        have Hm := hide hm; clear hm hstep hcell hcl
        have hmW : MkW lo hi w (World.setCell (World.setCell (World.setCell wr ⟨g, j * 11, none⟩ (.int .i64 (k1))) ⟨g, j * 11 + 1, none⟩ (.int .i64 (k1 + 1))) ⟨g, j * 11 + 2, none⟩ (.int .i64 (k1 + 1 + 1))) := ((((((Hm.out).set hlo hhi q0 s0 (by exact trivial))).set hlo hhi ((World.cell?_setCell_other _ _ _ _ (by intro h; injection h with _ h _; omega)).trans q1) s1 (by exact trivial))).set hlo hhi ((World.cell?_setCell_other _ _ _ _ (by intro h; injection h with _ h _; omega)).trans ((World.cell?_setCell_other _ _ _ _ (by intro h; injection h with _ h _; omega)).trans q2)) s2 (by exact trivial))
        have HmW := hide hmW; clear hmW
        have hmX := (show MkW lo hi wr (World.setCell (World.setCell (World.setCell wr ⟨g, j * 11, none⟩ (.int .i64 (k1))) ⟨g, j * 11 + 1, none⟩ (.int .i64 (k1 + 1))) ⟨g, j * 11 + 2, none⟩ (.int .i64 (k1 + 1 + 1))) from (((((((MkW.refl lo hi _)).set hlo hhi q0 s0 (by exact trivial))).set hlo hhi ((World.cell?_setCell_other _ _ _ _ (by intro h; injection h with _ h _; omega)).trans q1) s1 (by exact trivial))).set hlo hhi ((World.cell?_setCell_other _ _ _ _ (by intro h; injection h with _ h _; omega)).trans ((World.cell?_setCell_other _ _ _ _ (by intro h; injection h with _ h _; omega)).trans q2)) s2 (by exact trivial)))
        have G3 := hide (H3.out.mk hmX)
        have G4 := hide (H4.out.mk hmX)
        have G5 := hide (H5.out.mk hmX)
        clear hmX H3 H4 H5
        have H3 := G3; clear G3
        have H4 := G4; clear G4
        have H5 := G5; clear G5
        go_wp2_with fail
        refine (mkIntS _ n3 _ _ lo hi H3.out (by omega) (by omega)).mono ?_
        rintro e w103 ⟨k103, rfl, ⟨hkka, hkkb⟩, hm2⟩
        have q4' := hm2.cells _ _ _ ((World.cell?_setCell_other _ _ _ _ (by intro h; injection h with _ h _; omega)).trans ((World.cell?_setCell_other _ _ _ _ (by intro h; injection h with _ h _; omega)).trans ((World.cell?_setCell_other _ _ _ _ (by intro h; injection h with _ h _; omega)).trans q4))) H4.out.nsc
        have q5' := hm2.cells _ _ _ ((World.cell?_setCell_other _ _ _ _ (by intro h; injection h with _ h _; omega)).trans ((World.cell?_setCell_other _ _ _ _ (by intro h; injection h with _ h _; omega)).trans ((World.cell?_setCell_other _ _ _ _ (by intro h; injection h with _ h _; omega)).trans q5))) H5.out.nsc
        have Hm2 := hide (HmW.out.trans hm2)
        have G4 := hide (H4.out.mk hm2)
        clear H4; have H4 := G4; clear G4
        have G5 := hide (H5.out.mk hm2)
        clear H5; have H5 := G5; clear G5
        have hmA := Hm2.out
        obtain ⟨g', cap', cs, e, _, _, _, hcell, hO⟩ := (Ho.out.mk hmA (fun cs cs' m => OFrame_mk hmA cs cs' m)).cell hlt (by decide)
        injection e with e1 e2 e3
        injection e1 with e1
        injection e1 with e1 _ _
        subst e1 e3
        obtain ⟨x0, x1, x2, x3, x4, x5, x6, x7, x8, x9, x10, rfl, _, _, _, sx6, sx7, sx8, sx9, sx10, _, _, _⟩ := hO
        obtain ⟨qx6, zx6⟩ := hcell 6 _ rfl
        obtain ⟨qx7, zx7⟩ := hcell 7 _ rfl
        obtain ⟨qx8, zx8⟩ := hcell 8 _ rfl
        obtain ⟨qx9, zx9⟩ := hcell 9 _ rfl
        obtain ⟨qx10, zx10⟩ := hcell 10 _ rfl
        clear hcell hmA
        clear q6 z6 s6; have q6 := qx6; have z6 := zx6; have s6 := sx6; clear qx6 zx6 sx6
        clear q7 z7 s7; have q7 := qx7; have z7 := zx7; have s7 := sx7; clear qx7 zx7 sx7
        clear q8 z8 s8; have q8 := qx8; have z8 := zx8; have s8 := sx8; clear qx8 zx8 sx8
        clear q9 z9 s9; have q9 := qx9; have z9 := zx9; have s9 := sx9; clear qx9 zx9 sx9
        clear q10 z10 s10; have q10 := qx10; have z10 := zx10; have s10 := sx10; clear qx10 zx10 sx10
        clear q4; have q4 := q4'; clear q4'
        clear q5; have q5 := q5'; clear q5'
        clear hm2 HmW q3 z3
        have Hm53 := Hm2; clear Hm2
        go_wp2_with fail
        refine (mkIntS _ n4 _ _ lo hi H4.out (by omega) (by omega)).mono ?_
        rintro e w104 ⟨k104, rfl, ⟨hkka, hkkb⟩, hm2⟩
        have q5' := hm2.cells _ _ _ q5 H5.out.nsc
        have Hm2 := hide (Hm53.out.trans hm2)
        have G5 := hide (H5.out.mk hm2)
        clear H5; have H5 := G5; clear G5
        have hmA := Hm2.out
        obtain ⟨g', cap', cs, e, _, _, _, hcell, hO⟩ := (Ho.out.mk hmA (fun cs cs' m => OFrame_mk hmA cs cs' m)).cell hlt (by decide)
        injection e with e1 e2 e3
        injection e1 with e1
        injection e1 with e1 _ _
        subst e1 e3
        obtain ⟨x0, x1, x2, x3, x4, x5, x6, x7, x8, x9, x10, rfl, _, _, _, sx6, sx7, sx8, sx9, sx10, _, _, _⟩ := hO
        obtain ⟨qx6, zx6⟩ := hcell 6 _ rfl
        obtain ⟨qx7, zx7⟩ := hcell 7 _ rfl
        obtain ⟨qx8, zx8⟩ := hcell 8 _ rfl
        obtain ⟨qx9, zx9⟩ := hcell 9 _ rfl
        obtain ⟨qx10, zx10⟩ := hcell 10 _ rfl
        clear hcell hmA
        clear q6 z6 s6; have q6 := qx6; have z6 := zx6; have s6 := sx6; clear qx6 zx6 sx6
        clear q7 z7 s7; have q7 := qx7; have z7 := zx7; have s7 := sx7; clear qx7 zx7 sx7
        clear q8 z8 s8; have q8 := qx8; have z8 := zx8; have s8 := sx8; clear qx8 zx8 sx8
        clear q9 z9 s9; have q9 := qx9; have z9 := zx9; have s9 := sx9; clear qx9 zx9 sx9
        clear q10 z10 s10; have q10 := qx10; have z10 := zx10; have s10 := sx10; clear qx10 zx10 sx10
        clear q5; have q5 := q5'; clear q5'
        clear hm2 Hm53 q4 z4
        have Hm54 := Hm2; clear Hm2
        go_wp2_with fail
        refine (mkBoolS _ n5 _ _ lo hi H5.out (by omega) (by omega)).mono ?_
        rintro e w105 ⟨k105, rfl, ⟨hkka, hkkb⟩, hm2⟩
        have Hm2 := hide (Hm54.out.trans hm2)
        have hmA := Hm2.out
        obtain ⟨g', cap', cs, e, _, _, _, hcell, hO⟩ := (Ho.out.mk hmA (fun cs cs' m => OFrame_mk hmA cs cs' m)).cell hlt (by decide)
        injection e with e1 e2 e3
        injection e1 with e1
        injection e1 with e1 _ _
        subst e1 e3
        obtain ⟨x0, x1, x2, x3, x4, x5, x6, x7, x8, x9, x10, rfl, _, _, _, sx6, sx7, sx8, sx9, sx10, _, _, _⟩ := hO
        obtain ⟨qx6, zx6⟩ := hcell 6 _ rfl
        obtain ⟨qx7, zx7⟩ := hcell 7 _ rfl
        obtain ⟨qx8, zx8⟩ := hcell 8 _ rfl
        obtain ⟨qx9, zx9⟩ := hcell 9 _ rfl
        obtain ⟨qx10, zx10⟩ := hcell 10 _ rfl
        clear hcell hmA
        clear q6 z6 s6; have q6 := qx6; have z6 := zx6; have s6 := sx6; clear qx6 zx6 sx6
        clear q7 z7 s7; have q7 := qx7; have z7 := zx7; have s7 := sx7; clear qx7 zx7 sx7
        clear q8 z8 s8; have q8 := qx8; have z8 := zx8; have s8 := sx8; clear qx8 zx8 sx8
        clear q9 z9 s9; have q9 := qx9; have z9 := zx9; have s9 := sx9; clear qx9 zx9 sx9
        clear q10 z10 s10; have q10 := qx10; have z10 := zx10; have s10 := sx10; clear qx10 zx10 sx10
        clear hm2 Hm54 q5 z5
        have Hm55 := Hm2; clear Hm2
        go_wp2
        go_roundw
        case rel => exact ⟨j + 1, s + z, _, by omega, by go_num, rfl, by rw [Hy.out]; omega, by omega, by omega, (((((Hm55.out).set hlo hhi q6 s6 (by exact trivial)).set hlo hhi ((World.cell?_setCell_other _ _ _ _ (by intro h; injection h with _ h _; omega)).trans q7) s7 (by exact trivial)).set hlo hhi ((World.cell?_setCell_other _ _ _ _ (by intro h; injection h with _ h _; omega)).trans ((World.cell?_setCell_other _ _ _ _ (by intro h; injection h with _ h _; omega)).trans q8)) s8 (by exact trivial)).set hlo hhi ((World.cell?_setCell_other _ _ _ _ (by intro h; injection h with _ h _; omega)).trans ((World.cell?_setCell_other _ _ _ _ (by intro h; injection h with _ h _; omega)).trans ((World.cell?_setCell_other _ _ _ _ (by intro h; injection h with _ h _; omega)).trans q9))) s9 (by exact trivial)).set hlo hhi ((World.cell?_setCell_other _ _ _ _ (by intro h; injection h with _ h _; omega)).trans ((World.cell?_setCell_other _ _ _ _ (by intro h; injection h with _ h _; omega)).trans ((World.cell?_setCell_other _ _ _ _ (by intro h; injection h with _ h _; omega)).trans ((World.cell?_setCell_other _ _ _ _ (by intro h; injection h with _ h _; omega)).trans q10)))) s10 (by exact trivial)⟩
        case measure => simp [intOf]; omega
      · obtain rfl : j = l.length := by omega
        rw [List.drop_length] at hs
        have hs' : s = tt := by rw [← hs]; rfl
        subst hs'
        have Hm := hide hm; clear hm hs
        go_wp2
        go_ret
        exact ⟨k1, rfl, hk1, by omega, Hm.out⟩


set_option maxHeartbeats 1600000 in
theorem mkNoteS (v : Value) (n : Nat) (k0 : Int) (w : World) (lo hi : Nat) (ho : Og w lo hi 76 3 v n) (hk : 0 ≤ k0) (hk2 : k0 + 3 * n ≤ 4000000000000000000) :
    Calls Try.prog 54 #[v, .int .i64 k0] w fun e w' => ∃ k1 : Int, e = .returned (.int .i64 k1) ∧ (k0 + 3 * n ≤ k1 ∧ k1 ≤ k0 + 3 * n) ∧ MkW lo hi w w' := by
  rcases ho.form with ⟨rfl, h0⟩ | ⟨g, cap, rfl⟩
  · subst h0
    clear ho
    go_enter Try.func54, Try.ntmps54
    go_wp2
    go_rounds 1
    go_ret
    exact ⟨_, rfl, by simp, MkW.refl _ _ _⟩
  · have hlong := ho.long
    have Ho := hide ho; clear ho
    go_enter Try.func54, Try.ntmps54
    go_wp2
    go_loopw [1, 5] (fun c i wr => ∃ j : Nat, j ≤ n ∧ i = .int .i64 j ∧ c = .int .i64 (k0 + 3 * j) ∧ MkW lo hi w wr) (fun _ i _ => n - (intOf i).toNat)
    case atStart => exact ⟨0, by omega, rfl, by simp, MkW.refl _ _ _⟩
    case round =>
      obtain ⟨j, hj, rfl, rfl, hm⟩ := hrel
      by_cases hlt : j < n
      · obtain ⟨u0, q0, s0, z0, hlo, hhi⟩ := (Ho.out.mk hm).cell (j := j * 3) (by omega)
        obtain ⟨u1, q1, s1, z1, hlo, hhi⟩ := (Ho.out.mk hm).cell (j := j * 3 + 1) (by omega)
        obtain ⟨u2, q2, s2, z2, hlo, hhi⟩ := (Ho.out.mk hm).cell (j := j * 3 + 2) (by omega)
        have Hm := hide hm; clear hm
        go_wp2
        go_roundw
        case rel => exact ⟨j + 1, by omega, by go_num, by go_num, (((Hm.out).set hlo hhi q0 s0 (by exact trivial)).set hlo hhi ((World.cell?_setCell_other _ _ _ _ (by intro h; injection h with _ h _; omega)).trans q1) s1 (by exact trivial)).set hlo hhi ((World.cell?_setCell_other _ _ _ _ (by intro h; injection h with _ h _; omega)).trans ((World.cell?_setCell_other _ _ _ _ (by intro h; injection h with _ h _; omega)).trans q2)) s2 (by exact trivial)⟩
        case measure => simp [intOf]; omega
      · obtain rfl : j = n := by omega
        have Hm := hide hm; clear hm
        go_wp2
        go_ret
        exact ⟨_, rfl, ⟨Int.le_refl _, Int.le_refl _⟩, Hm.out⟩

theorem OVm_mk {w w' : World} {lo hi lo' hi' : Nat} (hm : MkW lo' hi' w w') (cs cs' : List Value) (m : VmM) (h : OVm w lo hi cs m) (he : ScEq cs cs') : OVm w' lo hi cs' m := by
  obtain ⟨c0, c1, c2, c3, c4, c5, c6, rfl, s2, s3, s4, s5, h0, h1, h6⟩ := h
  obtain ⟨hl, hc⟩ := he
  have e0 := (hc 0 _ rfl).2 h0.nsc
  have e1 := (hc 1 _ rfl).2 h1.nsc
  obtain ⟨d2, e2, t2⟩ := (hc 2 _ rfl).1 s2
  obtain ⟨d3, e3, t3⟩ := (hc 3 _ rfl).1 s3
  obtain ⟨d4, e4, t4⟩ := (hc 4 _ rfl).1 s4
  obtain ⟨d5, e5, t5⟩ := (hc 5 _ rfl).1 s5
  have e6 := (hc 6 _ rfl).2 h6.nsc
  match cs', hl with
  | [b0, b1, b2, b3, b4, b5, b6], _ =>
    simp only [List.getElem?_cons_zero, List.getElem?_cons_succ, Option.some.injEq] at e0 e1 e2 e3 e4 e5 e6
    subst e0 e1 e2 e3 e4 e5 e6
    exact ⟨_, _, _, _, _, _, _, rfl, t2, t3, t4, t5, h0.mk hm (fun cs cs' m => OFrame_mk hm cs cs' m), h1.mk hm, h6.mk hm⟩


set_option maxHeartbeats 1600000 in
theorem mkVm (cs : List Value) (m : VmM) (k0 : Int) (w : World) (lo hi : Nat) (ho : OVm w lo hi cs m) (hl : lo ≤ w.heap.size) (hh : hi ≤ w.heap.size) (hk : 0 ≤ k0) (hk2 : k0 + 16 * szVmN m ≤ 4000000000000000000) :
    Calls Try.prog 22 #[.agg cs.toArray, .int .i64 k0] w fun e w' => ∃ k1 : Int, e = .returned (.int .i64 k1) ∧ k0 ≤ k1 ∧ k1 ≤ k0 + 16 * szVmN m ∧ Below lo w w' ∧ KeptB hi w.heap.size w w' := by
  obtain ⟨c0, c1, c2, c3, c4, c5, c6, rfl, s2, s3, s4, s5, h0, h1, h6⟩ := ho
  obtain ⟨m0, m1, m2, m3, m4, m5, m6⟩ := m
  dsimp only [szVmN] at *
  obtain ⟨TT, hT⟩ : ∃ TT, TT = szFramesN m0 + (m1.length + (m6.length)) := ⟨_, rfl⟩
  rw [← hT] at hk2 ⊢
  generalize hz0 : szFramesN m0 = n0 at *
  have Hz0 := hide hz0; clear hz0
  generalize hz1 : m1.length = n1 at *
  have Hz1 := hide hz1; clear hz1
  generalize hz6 : m6.length = n6 at *
  have Hz6 := hide hz6; clear hz6
  have kW : KeptB lo hi w (w.alloc (.cells #[c0, c1, c2, c3, c4, c5, c6] 46)) := fun i _ hi' => Below.heap_alloc w _ i (by omega)
  have kb := Bk.new w 46 #[c0, c1, c2, c3, c4, c5, c6]
  have H0 := hide (h0.keep OFrame_stable kW); clear h0
  have H1 := hide (h1.keep kW); clear h1
  have H6 := hide (h6.keep kW); clear h6
  have K0 := hide kb; clear kb kW
  go_enter Try.func22, Try.ntmps22
  have Hm0 := hide (MkW.refl lo hi (w.alloc (.cells #[c0, c1, c2, c3, c4, c5, c6] 46)))
  have q0 := K0.out.cell 0
  have q1 := K0.out.cell 1
  have q2 := K0.out.cell 2
  have q3 := K0.out.cell 3
  have q4 := K0.out.cell 4
  have q5 := K0.out.cell 5
  have q6 := K0.out.cell 6
  go_wp2_with fail
  refine (mkFrameS _ m0 k0 _ lo hi H0.out (by omega) (by rw [Hz0.out]; omega)).mono ?_
  rintro e w0 ⟨k100, rfl, hka, hkb, hm2⟩
  rw [Hz0.out] at hkb
  have Hm1 := hide (Hm0.out.trans hm2)
  have G1 := hide (H1.out.mk hm2)
  clear H1; have H1 := G1; clear G1
  have G6 := hide (H6.out.mk hm2)
  clear H6; have H6 := G6; clear G6
  have K1 : Hid (Bk w0 w.heap.size 46 #[c0, c1, c2, c3, c4, c5, c6]) := hide ((hm2.kept w.heap.size hh).trans K0.out)
  clear hm2 q0 q1 q2 q3 q4 q5 q6 Hm0 K0
  have q0 := K1.out.cell 0
  have q1 := K1.out.cell 1
  have q2 := K1.out.cell 2
  have q3 := K1.out.cell 3
  have q4 := K1.out.cell 4
  have q5 := K1.out.cell 5
  have q6 := K1.out.cell 6
  go_wp2_with fail
  refine (mkIntS _ n1 k100 _ lo hi H1.out (by omega) (by omega)).mono ?_
  rintro e w1 ⟨k101, rfl, ⟨hkka, hkkb⟩, hm2⟩
  have Hm2 := hide (Hm1.out.trans hm2)
  have G6 := hide (H6.out.mk hm2)
  clear H6; have H6 := G6; clear G6
  have K2 : Hid (Bk w1 w.heap.size 46 #[c0, c1, c2, c3, c4, c5, c6]) := hide ((hm2.kept w.heap.size hh).trans K1.out)
  clear hm2 q0 q1 q2 q3 q4 q5 q6 Hm1 K1
  have q0 := K2.out.cell 0
  have q1 := K2.out.cell 1
  have q2 := K2.out.cell 2
  have q3 := K2.out.cell 3
  have q4 := K2.out.cell 4
  have q5 := K2.out.cell 5
  have q6 := K2.out.cell 6
  go_wp2_with fail
  refine (mkNoteS _ n6 k101 _ lo hi H6.out (by omega) (by omega)).mono ?_
  rintro e w2 ⟨k106, rfl, ⟨hkka, hkkb⟩, hm2⟩
  have Hm7 := hide (Hm2.out.trans hm2)
  have K7 : Hid (Bk w2 w.heap.size 46 #[c0, c1, c2, c3, c4, c5, c6]) := hide ((hm2.kept w.heap.size hh).trans K2.out)
  clear hm2 q0 q1 q2 q3 q4 q5 q6 Hm2 K2
  go_wp2
  go_ret
  refine ⟨k106, rfl, by omega, by omega, ?_, fun i hi1 hi2 => ((Hm7.out.kept i hi1).trans (Below.heap_alloc w _ i hi2))⟩
  exact ((Below.refl lo w).alloc hl _).trans Hm7.out.below
end Go.Proofs.Ytaebmliolpgmdaa
