
/- What the marks of the laws leave: int, Ins, Row, Code, Image. No condition. -/
import Derived.Test.YtaebmliolpgmdaaGreatMk
import Derived.Test.YtaebmliolpgmdaaGreatNdImage
set_option linter.unusedSimpArgs false
set_option linter.unusedVariables false
set_option maxRecDepth 100000
namespace Go.Proofs.YtaebmliolpgmdaaGreat
open Go.RowKit

theorem le_of_sub {a b c : Int} (h : a = b + c) : b ≤ a - c := by omega

set_option maxHeartbeats 1600000 in
theorem mkIntS (v : Value) (n : Nat) (k0 : Int) (w : World) (lo hi : Nat) (ho : Og w lo hi 3 1 v n) (hk : 0 ≤ k0) (hk2 : k0 + 1 * n ≤ 4000000000000000000) :
    Calls Tryz.prog 12 #[v, .int .i64 k0] w fun e w' => ∃ k1 : Int, e = .returned (.int .i64 k1) ∧ (k0 + 1 * n ≤ k1 ∧ k1 ≤ k0 + 1 * n) ∧ MkW lo hi w w' := by
  rcases ho.form with ⟨rfl, h0⟩ | ⟨g, cap, rfl⟩
  · subst h0
    clear ho
    go_enter Tryz.func12, Tryz.ntmps12
    go_wp2
    go_rounds 1
    go_ret
    exact ⟨_, rfl, by simp, MkW.refl _ _ _⟩
  · have hlong := ho.long
    have Ho := hide ho; clear ho
    go_enter Tryz.func12, Tryz.ntmps12
    go_wp2
    go_loopw [1, 5] (fun c i wr => ∃ j : Nat, j ≤ n ∧ i = .int .i64 j ∧ c = .int .i64 (k0 + 1 * j) ∧ MkW lo hi w wr) (fun _ i _ => n - (intOf i).toNat)
    case atStart => exact ⟨0, by omega, rfl, by simp, MkW.refl _ _ _⟩
    case round =>
      obtain ⟨j, hj, rfl, rfl, hm⟩ := hrel
      by_cases hlt : j < n
      · obtain ⟨u0, q0, s0, z0, hlo, hhi⟩ := (Ho.out.mk hm).cell (j := j) (by omega)
        have Hm := hide hm; clear hm
        go_wp2
        go_roundw
        case rel => exact ⟨j + 1, by omega, by go_num, by go_num, (Hm.out).set hlo hhi q0 s0 (by exact trivial)⟩
        case measure => simp [intOf]; omega
      · obtain rfl : j = n := by omega
        have Hm := hide hm; clear hm
        go_wp2
        go_ret
        exact ⟨_, rfl, ⟨Int.le_refl _, Int.le_refl _⟩, Hm.out⟩

set_option maxHeartbeats 1600000 in
theorem mkInsS (v : Value) (n : Nat) (k0 : Int) (w : World) (lo hi : Nat) (ho : Og w lo hi 84 2 v n) (hk : 0 ≤ k0) (hk2 : k0 + 2 * n ≤ 4000000000000000000) :
    Calls Tryz.prog 59 #[v, .int .i64 k0] w fun e w' => ∃ k1 : Int, e = .returned (.int .i64 k1) ∧ (k0 + 2 * n ≤ k1 ∧ k1 ≤ k0 + 2 * n) ∧ MkW lo hi w w' := by
  rcases ho.form with ⟨rfl, h0⟩ | ⟨g, cap, rfl⟩
  · subst h0
    clear ho
    go_enter Tryz.func59, Tryz.ntmps59
    go_wp2
    go_rounds 1
    go_ret
    exact ⟨_, rfl, by simp, MkW.refl _ _ _⟩
  · have hlong := ho.long
    have Ho := hide ho; clear ho
    go_enter Tryz.func59, Tryz.ntmps59
    go_wp2
    go_loopw [1, 5] (fun c i wr => ∃ j : Nat, j ≤ n ∧ i = .int .i64 j ∧ c = .int .i64 (k0 + 2 * j) ∧ MkW lo hi w wr) (fun _ i _ => n - (intOf i).toNat)
    case atStart => exact ⟨0, by omega, rfl, by simp, MkW.refl _ _ _⟩
    case round =>
      obtain ⟨j, hj, rfl, rfl, hm⟩ := hrel
      by_cases hlt : j < n
      · obtain ⟨u0, q0, s0, z0, hlo, hhi⟩ := (Ho.out.mk hm).cell (j := j * 2) (by omega)
        obtain ⟨u1, q1, s1, z1, hlo, hhi⟩ := (Ho.out.mk hm).cell (j := j * 2 + 1) (by omega)
        have Hm := hide hm; clear hm
        go_wp2
        go_roundw
        case rel => exact ⟨j + 1, by omega, by go_num, by go_num, ((Hm.out).set hlo hhi q0 s0 (by exact trivial)).set hlo hhi ((World.cell?_setCell_other _ _ _ _ (by intro h; injection h with _ h _; omega)).trans q1) s1 (by exact trivial)⟩
        case measure => simp [intOf]; omega
      · obtain rfl : j = n := by omega
        have Hm := hide hm; clear hm
        go_wp2
        go_ret
        exact ⟨_, rfl, ⟨Int.le_refl _, Int.le_refl _⟩, Hm.out⟩

set_option maxHeartbeats 1600000 in
theorem mkRowS (v : Value) (n : Nat) (k0 : Int) (w : World) (lo hi : Nat) (ho : Og w lo hi 80 3 v n) (hk : 0 ≤ k0) (hk2 : k0 + 3 * n ≤ 4000000000000000000) :
    Calls Tryz.prog 60 #[v, .int .i64 k0] w fun e w' => ∃ k1 : Int, e = .returned (.int .i64 k1) ∧ (k0 + 3 * n ≤ k1 ∧ k1 ≤ k0 + 3 * n) ∧ MkW lo hi w w' := by
  rcases ho.form with ⟨rfl, h0⟩ | ⟨g, cap, rfl⟩
  · subst h0
    clear ho
    go_enter Tryz.func60, Tryz.ntmps60
    go_wp2
    go_rounds 1
    go_ret
    exact ⟨_, rfl, by simp, MkW.refl _ _ _⟩
  · have hlong := ho.long
    have Ho := hide ho; clear ho
    go_enter Tryz.func60, Tryz.ntmps60
    go_wp2
    go_loopw [1, 5] (fun c i wr => ∃ j : Nat, j ≤ n ∧ i = .int .i64 j ∧ c = .int .i64 (k0 + 3 * j) ∧ MkW lo hi w wr) (fun _ i _ => n - (intOf i).toNat)
    case atStart => exact ⟨0, by omega, rfl, by simp, MkW.refl _ _ _⟩
    case round =>
      obtain ⟨j, hj, rfl, rfl, hm⟩ := hrel
      by_cases hlt : j < n
      · obtain ⟨u0, q0, s0, z0, hlo, hhi⟩ := (Ho.out.mk hm).cell (j := j * 3) (by omega)
        obtain ⟨u1, q1, s1, z1, hlo, hhi⟩ := (Ho.out.mk hm).cell (j := j * 3 + 1) (by omega)
        obtain ⟨u2, q2, s2, z2, hlo, hhi⟩ := (Ho.out.mk hm).cell (j := j * 3 + 2) (by omega)
        have Hm := hide hm; clear hm
        go_wp2
        go_roundw
        case rel => exact ⟨j + 1, by omega, by go_num, by go_num, (((Hm.out).set hlo hhi q0 s0 (by exact trivial)).set hlo hhi ((World.cell?_setCell_other _ _ _ _ (by intro h; injection h with _ h _; omega)).trans q1) s1 (by exact trivial)).set hlo hhi ((World.cell?_setCell_other _ _ _ _ (by intro h; injection h with _ h _; omega)).trans ((World.cell?_setCell_other _ _ _ _ (by intro h; injection h with _ h _; omega)).trans q2)) s2 (by exact trivial)⟩
        case measure => simp [intOf]; omega
      · obtain rfl : j = n := by omega
        have Hm := hide hm; clear hm
        go_wp2
        go_ret
        exact ⟨_, rfl, ⟨Int.le_refl _, Int.le_refl _⟩, Hm.out⟩

theorem OCode_mk {w w' : World} {lo hi lo' hi' : Nat} (hm : MkW lo' hi' w w') (cs cs' : List Value) (m : CodeM) (h : OCode w lo hi cs m) (he : ScEq cs cs') : OCode w' lo hi cs' m := by
  obtain ⟨c0, c1, c2, c3, c4, rfl, s0, s1, h2, h3, h4⟩ := h
  obtain ⟨hl, hc⟩ := he
  obtain ⟨d0, e0, t0⟩ := (hc 0 _ rfl).1 s0
  obtain ⟨d1, e1, t1⟩ := (hc 1 _ rfl).1 s1
  have e2 := (hc 2 _ rfl).2 h2.nsc
  have e3 := (hc 3 _ rfl).2 h3.nsc
  have e4 := (hc 4 _ rfl).2 h4.nsc
  match cs', hl with
  | [b0, b1, b2, b3, b4], _ =>
    simp only [List.getElem?_cons_zero, List.getElem?_cons_succ, Option.some.injEq] at e0 e1 e2 e3 e4
    subst e0 e1 e2 e3 e4
    exact ⟨_, _, _, _, _, rfl, t0, t1, h2.mk hm, h3.mk hm, h4.mk hm⟩

set_option maxHeartbeats 3200000 in
theorem mkCodeS (v : Value) (l : List CodeM) (k0 : Int) (w : World) (lo hi : Nat) (ho : OL OCode 58 5 w lo hi v l) (hk : 0 ≤ k0) (hk2 : k0 + 16 * szCodesN l ≤ 4000000000000000000) :
    Calls Tryz.prog 27 #[v, .int .i64 k0] w fun e w' => ∃ k1 : Int, e = .returned (.int .i64 k1) ∧ k0 ≤ k1 ∧ k1 ≤ k0 + 16 * szCodesN l ∧ MkW lo hi w w' := by
  have hN : szCodesN l = l.length + szCodesL l := rfl
  rcases ho.form with ⟨rfl, h0⟩ | ⟨g, cap, rfl⟩
  · obtain rfl := List.eq_nil_of_length_eq_zero h0
    clear ho
    go_enter Tryz.func27, Tryz.ntmps27
    go_wp2
    go_rounds 1
    go_ret
    exact ⟨k0, rfl, by omega, by omega, MkW.refl _ _ _⟩
  · obtain ⟨tt, ht⟩ : ∃ tt, tt = szCodesL l := ⟨_, rfl⟩
    rw [← ht] at hN
    rw [hN] at hk2 ⊢
    have Ho := hide ho; have Ht := hide ht; clear ho ht hN
    have hlong : l.length ≤ 9223372036854775807 := by omega
    go_enter Tryz.func27, Tryz.ntmps27
    go_wp2
    go_loopw [1, 5] (fun c i wr => ∃ (j s : Nat) (k1 : Int), j ≤ l.length ∧ i = .int .i64 j ∧ c = .int .i64 k1 ∧ s + szCodesL (l.drop j) = tt ∧ k0 ≤ k1 ∧ k1 ≤ k0 + 16 * (j + s) ∧ MkW lo hi w wr) (fun _ i _ => l.length - (intOf i).toNat)
    case atStart => exact ⟨0, 0, k0, by omega, rfl, rfl, by rw [Ht.out]; simp, by omega, by omega, MkW.refl _ _ _⟩
    case round =>
      obtain ⟨j, s, k1, hj, rfl, rfl, hs, hk1, hk1', hm⟩ := hrel
      by_cases hlt : j < l.length
      · have hstep := szCodesL_step hlt
        obtain ⟨g', cap', cs, e, hlo, hhi, hcl, hcell, hO⟩ := (Ho.out.mk hm (fun cs cs' m => OCode_mk hm cs cs' m)).cell hlt (by decide)
        injection e with e1 e2 e3
        injection e1 with e1
        injection e1 with e1 _ _
        subst e1 e3
        obtain ⟨c0, c1, c2, c3, c4, rfl, s0, s1, h2, h3, h4⟩ := hO
        obtain ⟨q0, z0⟩ := hcell 0 _ rfl
        rw [Nat.add_zero] at q0 z0
        obtain ⟨q1, z1⟩ := hcell 1 _ rfl
        obtain ⟨q2, z2⟩ := hcell 2 _ rfl
        obtain ⟨q3, z3⟩ := hcell 3 _ rfl
        obtain ⟨q4, z4⟩ := hcell 4 _ rfl
        rw [hstep] at hs
        have hz : szCodeN l[j] = szCodeN l[j] := rfl
        conv at hz => rhs; unfold szCodeN
        generalize szCodeN l[j] = z at hs hz
        generalize l[j] = m at *
        obtain ⟨m0, m1, m2, m3, m4⟩ := m
        dsimp only at *
        generalize hy : szCodesL (l.drop (j + 1)) = y at *
        have Hy := hide hy; clear hy
        have Bd2 := h2.long
        have Bd3 := h3.long
        have Bd4 := h4.long
        generalize hz2 : m2.length = n2 at *
        have Hz2 := hide hz2; clear hz2
        generalize hz3 : m3.length = n3 at *
        have Hz3 := hide hz3; clear hz3
        generalize hz4 : m4.length = n4 at *
        have Hz4 := hide hz4; clear hz4
        have H2 := hide h2; clear h2
        have H3 := hide h3; clear h3
        have H4 := hide h4; clear h4
        have Hm := hide hm; clear hm hstep hcell hcl
        have hmW : MkW lo hi w (World.setCell (World.setCell wr ⟨g, j * 5, none⟩ (.int .i64 (k1))) ⟨g, j * 5 + 1, none⟩ (.int .i64 (k1 + 1))) := ((((Hm.out).set hlo hhi q0 s0 (by exact trivial))).set hlo hhi ((World.cell?_setCell_other _ _ _ _ (by intro h; injection h with _ h _; omega)).trans q1) s1 (by exact trivial))
        have HmW := hide hmW; clear hmW
        have hmX := (show MkW lo hi wr (World.setCell (World.setCell wr ⟨g, j * 5, none⟩ (.int .i64 (k1))) ⟨g, j * 5 + 1, none⟩ (.int .i64 (k1 + 1))) from (((((MkW.refl lo hi _)).set hlo hhi q0 s0 (by exact trivial))).set hlo hhi ((World.cell?_setCell_other _ _ _ _ (by intro h; injection h with _ h _; omega)).trans q1) s1 (by exact trivial)))
        have G2 := hide (H2.out.mk hmX)
        have G3 := hide (H3.out.mk hmX)
        have G4 := hide (H4.out.mk hmX)
        clear hmX H2 H3 H4
        have H2 := G2; clear G2
        have H3 := G3; clear G3
        have H4 := G4; clear G4
        go_wp2_with fail
        refine (mkIntS _ n2 _ _ lo hi H2.out (by omega) (by omega)).mono ?_
        rintro e w102 ⟨k102, rfl, ⟨hkka, hkkb⟩, hm2⟩
        have q3' := hm2.cells _ _ _ ((World.cell?_setCell_other _ _ _ _ (by intro h; injection h with _ h _; omega)).trans ((World.cell?_setCell_other _ _ _ _ (by intro h; injection h with _ h _; omega)).trans q3)) H3.out.nsc
        have q4' := hm2.cells _ _ _ ((World.cell?_setCell_other _ _ _ _ (by intro h; injection h with _ h _; omega)).trans ((World.cell?_setCell_other _ _ _ _ (by intro h; injection h with _ h _; omega)).trans q4)) H4.out.nsc
        have Hm2 := hide (HmW.out.trans hm2)
        have G3 := hide (H3.out.mk hm2)
        clear H3; have H3 := G3; clear G3
        have G4 := hide (H4.out.mk hm2)
        clear H4; have H4 := G4; clear G4
        clear q3; have q3 := q3'; clear q3'
        clear q4; have q4 := q4'; clear q4'
        clear hm2 HmW q2 z2
        have Hm52 := Hm2; clear Hm2
        go_wp2_with fail
        refine (mkInsS _ n3 _ _ lo hi H3.out (by omega) (by omega)).mono ?_
        rintro e w103 ⟨k103, rfl, ⟨hkka, hkkb⟩, hm2⟩
        have q4' := hm2.cells _ _ _ q4 H4.out.nsc
        have Hm2 := hide (Hm52.out.trans hm2)
        have G4 := hide (H4.out.mk hm2)
        clear H4; have H4 := G4; clear G4
        clear q4; have q4 := q4'; clear q4'
        clear hm2 Hm52 q3 z3
        have Hm53 := Hm2; clear Hm2
        go_wp2_with fail
        refine (mkRowS _ n4 _ _ lo hi H4.out (by omega) (by omega)).mono ?_
        rintro e w104 ⟨k104, rfl, ⟨hkka, hkkb⟩, hm2⟩
        have Hm2 := hide (Hm53.out.trans hm2)
        clear hm2 Hm53 q4 z4
        have Hm54 := Hm2; clear Hm2
        go_wp2
        go_roundw
        case rel => exact ⟨j + 1, s + z, _, by omega, by go_num, rfl, by rw [Hy.out]; omega, by omega, by omega, Hm54.out⟩
        case measure => simp [intOf]; omega
      · obtain rfl : j = l.length := by omega
        rw [List.drop_length] at hs
        have hs' : s = tt := by rw [← hs]; rfl
        subst hs'
        have Hm := hide hm; clear hm hs
        go_wp2
        go_ret
        exact ⟨k1, rfl, hk1, by omega, Hm.out⟩


theorem OImage_mk {w w' : World} {lo hi lo' hi' : Nat} (hm : MkW lo' hi' w w') (cs cs' : List Value) (m : ImageM) (h : OImage w lo hi cs m) (he : ScEq cs cs') : OImage w' lo hi cs' m := by
  obtain ⟨c0, rfl, h0⟩ := h
  obtain ⟨hl, hc⟩ := he
  have e0 := (hc 0 _ rfl).2 h0.nsc
  match cs', hl with
  | [b0], _ =>
    simp only [List.getElem?_cons_zero, List.getElem?_cons_succ, Option.some.injEq] at e0
    subst e0
    exact ⟨_, rfl, h0.mk hm (fun cs cs' m => OCode_mk hm cs cs' m)⟩


set_option maxHeartbeats 1600000 in
theorem mkImage (cs : List Value) (m : ImageM) (k0 : Int) (w : World) (lo hi : Nat) (ho : OImage w lo hi cs m) (hl : lo ≤ w.heap.size) (hh : hi ≤ w.heap.size) (hk : 0 ≤ k0) (hk2 : k0 + 16 * szImageN m ≤ 4000000000000000000) :
    Calls Tryz.prog 11 #[.agg cs.toArray, .int .i64 k0] w fun e w' => ∃ k1 : Int, e = .returned (.int .i64 k1) ∧ k0 ≤ k1 ∧ k1 ≤ k0 + 16 * szImageN m ∧ Below lo w w' ∧ KeptB hi w.heap.size w w' := by
  obtain ⟨c0, rfl, h0⟩ := ho
  obtain ⟨m0⟩ := m
  dsimp only [szImageN] at *
  obtain ⟨TT, hT⟩ : ∃ TT, TT = szCodesN m0 := ⟨_, rfl⟩
  rw [← hT] at hk2 ⊢
  generalize hz0 : szCodesN m0 = n0 at *
  have Hz0 := hide hz0; clear hz0
  have kW : KeptB lo hi w (w.alloc (.cells #[c0] 31)) := fun i _ hi' => Below.heap_alloc w _ i (by omega)
  have kb := Bk.new w 31 #[c0]
  have H0 := hide (h0.keep OCode_stable kW); clear h0
  have K0 := hide kb; clear kb kW
  go_enter Tryz.func11, Tryz.ntmps11
  have Hm0 := hide (MkW.refl lo hi (w.alloc (.cells #[c0] 31)))
  have q0 := K0.out.cell 0
  go_wp2_with fail
  refine (mkCodeS _ m0 k0 _ lo hi H0.out (by omega) (by rw [Hz0.out]; omega)).mono ?_
  rintro e w0 ⟨k100, rfl, hka, hkb, hm2⟩
  rw [Hz0.out] at hkb
  have Hm1 := hide (Hm0.out.trans hm2)
  have K1 : Hid (Bk w0 w.heap.size 31 #[c0]) := hide ((hm2.kept w.heap.size hh).trans K0.out)
  clear hm2 q0 Hm0 K0
  go_wp2
  go_ret
  refine ⟨k100, rfl, by omega, by omega, ?_, fun i hi1 hi2 => ((Hm1.out.kept i hi1).trans (Below.heap_alloc w _ i hi2))⟩
  exact ((Below.refl lo w).alloc hl _).trans Hm1.out.below
end Go.Proofs.YtaebmliolpgmdaaGreat
