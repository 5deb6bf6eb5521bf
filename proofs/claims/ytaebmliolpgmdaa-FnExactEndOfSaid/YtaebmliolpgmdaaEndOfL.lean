
/- FnExactEndOf: the call returns true. No condition. -/
import Derived.Test.YtaebmliolpgmdaaEnM
import Derived.Test.YtaebmliolpgmdaaOpVm
import Derived.Test.YtaebmliolpgmdaaMkVm
import Derived.Test.YtaebmliolpgmdaaSl6
import Derived.Test.YtaebmliolpgmdaaOpen2
import Derived.Test.YtaebmliolpgmdaaBlk
import Derived.Test.YtaebmliolpgmdaaMem
import Derived.Deep.RegionHeld3
import Derived.Deep.RegionWith
set_option linter.unusedSimpArgs false
set_option linter.unusedVariables false
set_option maxRecDepth 100000
namespace Go.Proofs.Ytaebmliolpgmdaa
open Go.RowKit Go.WideShapes Go.ChangeShapes

set_option maxHeartbeats 6400000 in
theorem law_FnExactEndOf (w : World) (v_aV : Value) (h_aV : IsVm w v_aV) :
    Calls Try.prog 6 #[v_aV] w fun e w' => e = .returned (.bool true) ∧ Below w.heap.size w w' := by
  obtain ⟨cs_a, m_a, rfl, R_a⟩ := h_aV
  obtain ⟨a_0, a_1, a_6, rfl, f0, f1, f6⟩ := id R_a
  obtain ⟨Aa_0, Ca_0, rfl⟩ := f0.form; clear f0
  obtain ⟨Aa_1, Ca_1, rfl⟩ := f1.form; clear f1
  obtain ⟨Aa_6, Ca_6, rfl⟩ := f6.form; clear f6
  have A0 := hide R_a; clear R_a
  have B_0 := hide (Below.refl w.heap.size w)
  have hb : Below (World.heap w).size w (World.alloc w (.cells #[.slice Aa_0 m_a.qFrames.length Ca_0, .slice Aa_1 m_a.qTrace.length Ca_1, .int .i64 m_a.qUsed, .int .i64 m_a.qCode, .int .i64 m_a.qValue, .int .i64 m_a.qMade, .slice Aa_6 m_a.qNotes.length Ca_6] 40)) := (Below.refl _ _).alloc (Nat.le_refl _) _
  have kb := Bk.new w 40 #[.slice Aa_0 m_a.qFrames.length Ca_0, .slice Aa_1 m_a.qTrace.length Ca_1, .int .i64 m_a.qUsed, .int .i64 m_a.qCode, .int .i64 m_a.qValue, .int .i64 m_a.qMade, .slice Aa_6 m_a.qNotes.length Ca_6]
  have B_1 := hide (B_0.out.trans (hb.mono B_0.out.size))
  clear B_0
  clear hb
  have Ka_0 := hide kb; clear kb
  go_enter Try.func6, Try.ntmps6
  -- the size
  have q_Ka_0 := Ka_0.out.cell 0
  have q_Ka_1 := Ka_0.out.cell 1
  have q_Ka_2 := Ka_0.out.cell 2
  have q_Ka_3 := Ka_0.out.cell 3
  have q_Ka_4 := Ka_0.out.cell 4
  have q_Ka_5 := Ka_0.out.cell 5
  have q_Ka_6 := Ka_0.out.cell 6
  go_wp2_with fail
  refine (szVm _ m_a _ _ (RVm_stable.here A0.out B_1.out) (by omega) (by omega)).mono ?_
  rintro e w100 ⟨rfl, hb⟩
  clear q_Ka_0 q_Ka_1 q_Ka_2 q_Ka_3 q_Ka_4 q_Ka_5 q_Ka_6
  have B_2 := hide (B_1.out.trans (hb.mono B_1.out.size))
  clear B_1
  have Ka_3 := hide (Ka_0.out.below hb)
  clear Ka_0
  clear hb
  by_cases hz : (szVmN m_a : Int) ≤ 1048576
  case neg => rw [subL_no hz]; go_wp2; go_ret; exact ⟨rfl, B_2.out⟩
  rw [subL_yes hz]
  have hy : szVmN m_a ≤ 1048576 := by omega
  have hlen : (eT m_a).length ≤ 1048576 := (Nat.le_trans (eT_length m_a) hy)
  have hS := fun cs w hr => spec_EndOf cs m_a w hr (Nat.le_trans (trace_length m_a) hy)
  have hI := fun cs w hr => impl_EndOf cs m_a w hr (Nat.le_trans (trace_length m_a) hy)
  generalize eT m_a = L at *
  generalize endB m_a = ok at *
  generalize eC m_a = oC at *
  generalize eV m_a = oV at *
  generalize eU m_a = oU at *
  have HS := hide hS; have HI := hide hI; clear hS hI
  -- the reference
  have q_Ka_0 := Ka_3.out.cell 0
  have q_Ka_1 := Ka_3.out.cell 1
  have q_Ka_2 := Ka_3.out.cell 2
  have q_Ka_3 := Ka_3.out.cell 3
  have q_Ka_4 := Ka_3.out.cell 4
  have q_Ka_5 := Ka_3.out.cell 5
  have q_Ka_6 := Ka_3.out.cell 6
  go_wp2_with fail
  refine (toVm _ m_a _ (RVm_stable.here A0.out B_2.out) hy).mono ?_
  rintro e w1 ⟨cs_s, rfl, hrd, ho, hb⟩
  clear q_Ka_0 q_Ka_1 q_Ka_2 q_Ka_3 q_Ka_4 q_Ka_5 q_Ka_6
  clear ho
  have hrd' := RVm_stable.more hrd (Nat.zero_le _) (Nat.le_refl _); clear hrd; have hrd := hrd'; clear hrd'
  obtain ⟨s_0, s_1, s_6, rfl, f0, f1, f6⟩ := id hrd
  obtain ⟨As_0, Cs_0, rfl⟩ := f0.form; clear f0
  obtain ⟨As_1, Cs_1, rfl⟩ := f1.form; clear f1
  obtain ⟨As_6, Cs_6, rfl⟩ := f6.form; clear f6
  have N_s := hide hrd; clear hrd
  have B_4 := hide (B_2.out.trans (hb.mono B_2.out.size))
  clear B_2
  have Ka_5 := hide (Ka_3.out.below hb)
  clear Ka_3
  clear hb
  have q_Ka_0 := Ka_5.out.cell 0
  have q_Ka_1 := Ka_5.out.cell 1
  have q_Ka_2 := Ka_5.out.cell 2
  have q_Ka_3 := Ka_5.out.cell 3
  have q_Ka_4 := Ka_5.out.cell 4
  have q_Ka_5 := Ka_5.out.cell 5
  have q_Ka_6 := Ka_5.out.cell 6
  go_wp2_with fail
  refine (HS.out _ _ N_s.out).mono ?_
  rintro e w2 ⟨u, rfl, hown, hb⟩
  clear q_Ka_0 q_Ka_1 q_Ka_2 q_Ka_3 q_Ka_4 q_Ka_5 q_Ka_6
  obtain ⟨Au, Cu, rfl⟩ := own_form hown
  have U0 := hide (Rd.of_own hown); clear hown; clear N_s
  have B_6 := hide (B_4.out.trans (hb.mono B_4.out.size))
  clear B_4
  have Ka_7 := hide (Ka_5.out.below hb)
  clear Ka_5
  clear hb
  have BU_0 := hide (Below.refl (World.heap w2).size w2)
  have hb := show Below (World.heap _).size _ _ from (Below.refl _ _).alloc (Nat.le_refl (World.heap w2).size) (.cells #[.int .i64 oC, .int .i64 oV, .slice Au L.length Cu, .int .i64 oU] 50)
  have kb := Bk.new w2 50 #[.int .i64 oC, .int .i64 oV, .slice Au L.length Cu, .int .i64 oU]
  have B_8 := hide (B_6.out.trans (hb.mono B_6.out.size))
  clear B_6
  have Ka_9 := hide (Ka_7.out.below hb)
  clear Ka_7
  have BU_10 := hide (BU_0.out.trans (hb.mono BU_0.out.size))
  clear BU_0
  clear hb
  have Ku_0 := hide kb; clear kb
  -- the copy
  have q_Ka_0 := Ka_9.out.cell 0
  have q_Ka_1 := Ka_9.out.cell 1
  have q_Ka_2 := Ka_9.out.cell 2
  have q_Ka_3 := Ka_9.out.cell 3
  have q_Ka_4 := Ka_9.out.cell 4
  have q_Ka_5 := Ka_9.out.cell 5
  have q_Ka_6 := Ka_9.out.cell 6
  go_wp2_with fail
  refine (toVm _ m_a _ (RVm_stable.here A0.out B_8.out) hy).mono ?_
  rintro e w3 ⟨cs_x, rfl, hrd, ho, hb⟩
  clear q_Ka_0 q_Ka_1 q_Ka_2 q_Ka_3 q_Ka_4 q_Ka_5 q_Ka_6
  have O_x := hide ho
  clear ho
  have hrd' := RVm_stable.more hrd (Nat.zero_le _) (Nat.le_refl _); clear hrd; have hrd := hrd'; clear hrd'
  obtain ⟨x_0, x_1, x_6, rfl, f0, f1, f6⟩ := id hrd
  obtain ⟨Ax_0, Cx_0, rfl⟩ := f0.form; clear f0
  obtain ⟨Ax_1, Cx_1, rfl⟩ := f1.form; clear f1
  obtain ⟨Ax_6, Cx_6, rfl⟩ := f6.form; clear f6
  have N_x := hide hrd; clear hrd
  have L_a := hide Ka_9.out.lt
  have L_u := hide Ku_0.out.lt
  have Z_B := hide B_8.out.size; have Z_U := hide BU_10.out.size; have Z_X := hide hb.size
  have B_11 := hide (B_8.out.trans (hb.mono B_8.out.size))
  clear B_8
  have Ka_12 := hide (Ka_9.out.below hb)
  clear Ka_9
  have BU_13 := hide (BU_10.out.trans (hb.mono BU_10.out.size))
  clear BU_10
  have Ku_14 := hide (Ku_0.out.below hb)
  clear Ku_0
  clear hb
  have hb := show Below (World.heap _).size _ _ from (Below.refl _ _).alloc (Nat.le_refl (World.heap w3).size) (.cells #[.slice Ax_0 m_a.qFrames.length Cx_0, .slice Ax_1 m_a.qTrace.length Cx_1, .int .i64 m_a.qUsed, .int .i64 m_a.qCode, .int .i64 m_a.qValue, .int .i64 m_a.qMade, .slice Ax_6 m_a.qNotes.length Cx_6] 46)
  have kb := Bk.new w3 46 #[.slice Ax_0 m_a.qFrames.length Cx_0, .slice Ax_1 m_a.qTrace.length Cx_1, .int .i64 m_a.qUsed, .int .i64 m_a.qCode, .int .i64 m_a.qValue, .int .i64 m_a.qMade, .slice Ax_6 m_a.qNotes.length Cx_6]
  have BX_0 := hide (Below.refl (World.heap w3).size w3)
  have B_15 := hide (B_11.out.trans (hb.mono B_11.out.size))
  clear B_11
  have Ka_16 := hide (Ka_12.out.below hb)
  clear Ka_12
  have BU_17 := hide (BU_13.out.trans (hb.mono BU_13.out.size))
  clear BU_13
  have Ku_18 := hide (Ku_14.out.below hb)
  clear Ku_14
  have BX_19 := hide (BX_0.out.trans (hb.mono BX_0.out.size))
  clear BX_0
  clear hb
  have Kx_0 := hide kb; clear kb
  -- the program
  have q_Kx_0 := Kx_0.out.cell 0
  have q_Kx_1 := Kx_0.out.cell 1
  have q_Kx_2 := Kx_0.out.cell 2
  have q_Kx_3 := Kx_0.out.cell 3
  have q_Kx_4 := Kx_0.out.cell 4
  have q_Kx_5 := Kx_0.out.cell 5
  have q_Kx_6 := Kx_0.out.cell 6
  go_wp2_with fail
  refine (HI.out _ _ (RVm_stable.here N_x.out BX_19.out)).mono ?_
  rintro e w4 ⟨g, rfl, hown, hb⟩
  clear q_Kx_0 q_Kx_1 q_Kx_2 q_Kx_3 q_Kx_4 q_Kx_5 q_Kx_6
  have hzG := BX_19.out.size; have hzA := Ka_16.out.lt
  have Z_G := hide hzG; have L_G := hide hzA; clear hzG hzA
  have hzA := Ku_18.out.lt; have L_UG := hide hzA; clear hzA
  have hzU := BU_17.out.size; have Z_UG := hide hzU; clear hzU; have hzU := B_15.out.size; have Z_BG := hide hzU; clear hzU
  have B_20 := hide (B_15.out.trans (hb.mono B_15.out.size))
  clear B_15
  have Ka_21 := hide (Ka_16.out.below hb)
  clear Ka_16
  have BU_22 := hide (BU_17.out.trans (hb.mono BU_17.out.size))
  clear BU_17
  have Ku_23 := hide (Ku_18.out.below hb)
  clear Ku_18
  have BX_24 := hide (BX_19.out.trans (hb.mono BX_19.out.size))
  clear BX_19
  have Kx_25 := hide (Kx_0.out.below hb)
  clear Kx_0
  clear hb
  obtain ⟨Ag, Cg, rfl⟩ := own_form hown
  have hgb := hown.lt; have HGB := Lib.hid hgb; clear hgb
  have G_0 := hide hown; clear hown
  have Z_K := hide (BX_24.out.size)
  have hb := show Below (World.heap _).size _ _ from (Below.refl _ _).alloc (Nat.le_refl (World.heap w4).size) (.cells #[.int .i64 oC, .int .i64 oV, .slice Ag L.length Cg, .int .i64 oU] 50)
  have kb := Bk.new w4 50 #[.int .i64 oC, .int .i64 oV, .slice Ag L.length Cg, .int .i64 oU]
  have B_26 := hide (B_20.out.trans (hb.mono B_20.out.size))
  clear B_20
  have Ka_27 := hide (Ka_21.out.below hb)
  clear Ka_21
  have BU_28 := hide (BU_22.out.trans (hb.mono BU_22.out.size))
  clear BU_22
  have Ku_29 := hide (Ku_23.out.below hb)
  clear Ku_23
  have BX_30 := hide (BX_24.out.trans (hb.mono BX_24.out.size))
  clear BX_24
  have Kx_31 := hide (Kx_25.out.below hb)
  clear Kx_25
  have G_32 := hide (own_keep G_0.out hb)
  clear G_0
  clear hb
  have Kg_0 := hide kb; clear kb
  have q_Kg_0 := Kg_0.out.cell 0
  have q_Kg_1 := Kg_0.out.cell 1
  have q_Kg_2 := Kg_0.out.cell 2
  have q_Kg_3 := Kg_0.out.cell 3
  have q_Ku_0 := Ku_29.out.cell 0
  have q_Ku_1 := Ku_29.out.cell 1
  have q_Ku_2 := Ku_29.out.cell 2
  have q_Ku_3 := Ku_29.out.cell 3
  go_wp2_with fail
  refine (eqOc oC oV _ _ oU L _ (Rd.of_own G_32.out) (Rd.here U0.out BU_28.out)).mono ?_
  rintro e w5 ⟨rfl, hb⟩
  clear q_Kg_0 q_Kg_1 q_Kg_2 q_Kg_3 q_Ku_0 q_Ku_1 q_Ku_2 q_Ku_3
  have B_33 := hide (B_26.out.trans (hb.mono B_26.out.size))
  clear B_26
  have Ka_34 := hide (Ka_27.out.below hb)
  clear Ka_27
  have BU_35 := hide (BU_28.out.trans (hb.mono BU_28.out.size))
  clear BU_28
  have Ku_36 := hide (Ku_29.out.below hb)
  clear Ku_29
  have BX_37 := hide (BX_30.out.trans (hb.mono BX_30.out.size))
  clear BX_30
  have Kx_38 := hide (Kx_31.out.below hb)
  clear Kx_31
  have G_39 := hide (own_keep G_32.out hb)
  clear G_32
  have Kg_40 := hide (Kg_0.out.below hb)
  clear Kg_0
  clear hb
  -- the copy is as it was
  go_wp2_with fail
  go_region_held3 (fun w' => w'.cell? ⟨w.heap.size, 0, none⟩ = some (.slice Aa_0 m_a.qFrames.length Ca_0) ∧ w'.cell? ⟨w.heap.size, 1, none⟩ = some (.slice Aa_1 m_a.qTrace.length Ca_1) ∧ w'.cell? ⟨w.heap.size, 2, none⟩ = some (.int .i64 m_a.qUsed) ∧ w'.cell? ⟨w.heap.size, 3, none⟩ = some (.int .i64 m_a.qCode) ∧ w'.cell? ⟨w.heap.size, 4, none⟩ = some (.int .i64 m_a.qValue) ∧ w'.cell? ⟨w.heap.size, 5, none⟩ = some (.int .i64 m_a.qMade) ∧ w'.cell? ⟨w.heap.size, 6, none⟩ = some (.slice Aa_6 m_a.qNotes.length Ca_6) ∧ w'.cell? ⟨(World.heap w3).size, 0, none⟩ = some (.slice Ax_0 m_a.qFrames.length Cx_0) ∧ w'.cell? ⟨(World.heap w3).size, 1, none⟩ = some (.slice Ax_1 m_a.qTrace.length Cx_1) ∧ w'.cell? ⟨(World.heap w3).size, 2, none⟩ = some (.int .i64 m_a.qUsed) ∧ w'.cell? ⟨(World.heap w3).size, 3, none⟩ = some (.int .i64 m_a.qCode) ∧ w'.cell? ⟨(World.heap w3).size, 4, none⟩ = some (.int .i64 m_a.qValue) ∧ w'.cell? ⟨(World.heap w3).size, 5, none⟩ = some (.int .i64 m_a.qMade) ∧ w'.cell? ⟨(World.heap w3).size, 6, none⟩ = some (.slice Ax_6 m_a.qNotes.length Cx_6)) (first | exact ⟨Ka_34.out.cell 0, Ka_34.out.cell 1, Ka_34.out.cell 2, Ka_34.out.cell 3, Ka_34.out.cell 4, Ka_34.out.cell 5, Ka_34.out.cell 6, Kx_38.out.cell 0, Kx_38.out.cell 1, Kx_38.out.cell 2, Kx_38.out.cell 3, Kx_38.out.cell 4, Kx_38.out.cell 5, Kx_38.out.cell 6⟩ | exact ⟨Ka_42.out.cell 0, Ka_42.out.cell 1, Ka_42.out.cell 2, Ka_42.out.cell 3, Ka_42.out.cell 4, Ka_42.out.cell 5, Ka_42.out.cell 6, Kx_46.out.cell 0, Kx_46.out.cell 1, Kx_46.out.cell 2, Kx_46.out.cell 3, Kx_46.out.cell 4, Kx_46.out.cell 5, Kx_46.out.cell 6⟩ | exact ⟨Ka_50.out.cell 0, Ka_50.out.cell 1, Ka_50.out.cell 2, Ka_50.out.cell 3, Ka_50.out.cell 4, Ka_50.out.cell 5, Ka_50.out.cell 6, Kx_54.out.cell 0, Kx_54.out.cell 1, Kx_54.out.cell 2, Kx_54.out.cell 3, Kx_54.out.cell 4, Kx_54.out.cell 5, Kx_54.out.cell 6⟩)
    (first
      | (go_at_call 16; refine (toVm _ m_a (World.drew _) (RVm_stable.here A0.out B_33.out.drew) hy).mono ?_; rintro e w6 ⟨cs_y, rfl, hrd, ho, hb⟩; clear ho; have hrd' := RVm_stable.more hrd (Nat.zero_le _) (Nat.le_refl _); clear hrd; have hrd := hrd'; clear hrd'; obtain ⟨y_0, y_1, y_6, rfl, f0, f1, f6⟩ := id hrd; obtain ⟨Ay_0, Cy_0, rfl⟩ := f0.form; clear f0; obtain ⟨Ay_1, Cy_1, rfl⟩ := f1.form; clear f1; obtain ⟨Ay_6, Cy_6, rfl⟩ := f6.form; clear f6; have N_y := hide hrd; clear hrd; have B_41 := hide (B_33.out.drew.trans (hb.mono B_33.out.size)); clear B_33; have Ka_42 := hide (Bk.below (w := World.drew _) (by exact Ka_34.out) hb); clear Ka_34; have BU_43 := hide (BU_35.out.drew.trans (hb.mono BU_35.out.size)); clear BU_35; have Ku_44 := hide (Bk.below (w := World.drew _) (by exact Ku_36.out) hb); clear Ku_36; have BX_45 := hide (BX_37.out.drew.trans (hb.mono BX_37.out.size)); clear BX_37; have Kx_46 := hide (Bk.below (w := World.drew _) (by exact Kx_38.out) hb); clear Kx_38; have G_47 := hide (own_keep (W := World.drew _) (by exact G_39.out) hb); clear G_39; have Kg_48 := hide (Bk.below (w := World.drew _) (by exact Kg_40.out) hb); clear Kg_40; clear hb)
      | (go_at_call 18; refine (eqVm _ _ m_a _ (RVm_stable.here N_x.out BX_45.out) N_y.out).mono ?_; rintro e w7 ⟨rfl, hb⟩; clear N_y; have B_49 := hide (B_41.out.trans (hb.mono B_41.out.size)); clear B_41; have Ka_50 := hide (Ka_42.out.below hb); clear Ka_42; have BU_51 := hide (BU_43.out.trans (hb.mono BU_43.out.size)); clear BU_43; have Ku_52 := hide (Ku_44.out.below hb); clear Ku_44; have BX_53 := hide (BX_45.out.trans (hb.mono BX_45.out.size)); clear BX_45; have Kx_54 := hide (Kx_46.out.below hb); clear Kx_46; have G_55 := hide (own_keep G_47.out hb); clear G_47; have Kg_56 := hide (Kg_48.out.below hb); clear Kg_48; clear hb))
  -- the mark of the copy
  have q_Kx_0 := Kx_54.out.cell 0
  have q_Kx_1 := Kx_54.out.cell 1
  have q_Kx_2 := Kx_54.out.cell 2
  have q_Kx_3 := Kx_54.out.cell 3
  have q_Kx_4 := Kx_54.out.cell 4
  have q_Kx_5 := Kx_54.out.cell 5
  have q_Kx_6 := Kx_54.out.cell 6
  go_wp2_with fail
  refine (mkVm _ m_a 1 _ _ _ (OVm_stable.keep O_x.out ((KeptB.refl _ _ _).below BX_53.out (Nat.le_refl _))) (Nat.le_trans Z_X.out BX_53.out.size) BX_53.out.size (by omega) (by omega)).mono ?_
  rintro e w8 ⟨k8, rfl, hk8, hk8', hbl, hkp⟩
  clear q_Kx_0 q_Kx_1 q_Kx_2 q_Kx_3 q_Kx_4 q_Kx_5 q_Kx_6
  have B_57 := hide (B_49.out.trans (hbl.mono Z_B.out))
  clear B_49
  have Ka_58 := hide (show Bk _ _ _ _ from (hbl.block _ L_a.out).trans Ka_50.out)
  clear Ka_50
  have BU_59 := hide (BU_51.out.trans (hbl.mono Z_U.out))
  clear BU_51
  have Ku_60 := hide (show Bk _ _ _ _ from (hbl.block _ L_u.out).trans Ku_52.out)
  clear Ku_52
  have G_61 := hide (own_keptB G_55.out (fun k hk => (G_55.out.lt k hk).2) (KeptB.mono hkp Z_G.out (Nat.le_refl _)))
  clear G_55
  have Kg_62 := hide (show Bk _ _ _ _ from (hkp _ Z_K.out Kg_56.out.lt).trans Kg_56.out)
  clear Kg_56
  clear BX_53
  clear Kx_54
  clear hbl hkp N_x
  clear O_x
  have q_Kg_0 := Kg_62.out.cell 0
  have q_Kg_1 := Kg_62.out.cell 1
  have q_Kg_2 := Kg_62.out.cell 2
  have q_Kg_3 := Kg_62.out.cell 3
  have q_Ku_0 := Ku_60.out.cell 0
  have q_Ku_1 := Ku_60.out.cell 1
  have q_Ku_2 := Ku_60.out.cell 2
  have q_Ku_3 := Ku_60.out.cell 3
  go_wp2_with fail
  refine (eqOc oC oV _ _ oU L _ (Rd.of_own G_61.out) (Rd.here U0.out BU_59.out)).mono ?_
  rintro e w9 ⟨rfl, hb⟩
  clear q_Kg_0 q_Kg_1 q_Kg_2 q_Kg_3 q_Ku_0 q_Ku_1 q_Ku_2 q_Ku_3
  have B_63 := hide (B_57.out.trans (hb.mono B_57.out.size))
  clear B_57
  have Ka_64 := hide (Ka_58.out.below hb)
  clear Ka_58
  have BU_65 := hide (BU_59.out.trans (hb.mono BU_59.out.size))
  clear BU_59
  have Ku_66 := hide (Ku_60.out.below hb)
  clear Ku_60
  have G_67 := hide (own_keep G_61.out hb)
  clear G_61
  have Kg_68 := hide (Kg_62.out.below hb)
  clear Kg_62
  clear hb
  -- the mark of the result
  have hgl := G_67.out.lt
  have q_Kg_0 := Kg_68.out.cell 0
  have q_Kg_1 := Kg_68.out.cell 1
  have q_Kg_2 := Kg_68.out.cell 2
  have q_Kg_3 := Kg_68.out.cell 3
  go_wp2_with fail
  refine (markOc oC oV _ oU L 1 _ _ G_67.out (by omega) (by omega)).mono ?_
  rintro e w10 ⟨rfl, hown, w0, hb0, hg⟩
  clear q_Kg_0 q_Kg_1 q_Kg_2 q_Kg_3
  have B_69 := hide (B_63.out.trans (hb0.mono B_63.out.size))
  clear B_63
  have Ka_70 := hide (Ka_64.out.below hb0)
  clear Ka_64
  have BU_71 := hide (BU_65.out.trans (hb0.mono BU_65.out.size))
  clear BU_65
  have Ku_72 := hide (Ku_66.out.below hb0)
  clear Ku_66
  have Kg_73 := hide (Kg_68.out.below hb0)
  clear Kg_68
  clear hb0
  have B_74 := hide (B_69.out.grown hg (Nat.le_trans B_69.out.size (Nat.le_refl _)) (fun k hk => Nat.le_trans Z_BG.out (hgl k hk).1))
  clear B_69
  have Ka_75 := hide (show Bk _ _ _ _ from (hg.block _ Ka_70.out.lt (fun e => by have := (hgl _ e.symm).1; have := L_G.out; omega)).trans Ka_70.out)
  clear Ka_70
  have BU_76 := hide (BU_71.out.grown hg (Nat.le_trans BU_71.out.size (Nat.le_refl _)) (fun k hk => Nat.le_trans Z_UG.out (hgl k hk).1))
  clear BU_71
  have Ku_77 := hide (show Bk _ _ _ _ from (hg.block _ Ku_72.out.lt (fun e => by have := (hgl _ e.symm).1; have := L_UG.out; omega)).trans Ku_72.out)
  clear Ku_72
  have Kg_78 := hide (show Bk _ _ _ _ from (hg.block _ Kg_73.out.lt (fun e => by have := (HGB.out _ e.symm).2; omega)).trans Kg_73.out)
  clear Kg_73
  clear G_67 hg hgl
  have GM_0 := hide hown; clear hown
  have q_Kg_0 := Kg_78.out.cell 0
  have q_Kg_1 := Kg_78.out.cell 1
  have q_Kg_2 := Kg_78.out.cell 2
  have q_Kg_3 := Kg_78.out.cell 3
  go_wp2_with fail
  refine (heldOc oC oV _ oU L.length 1 _ (Rd.of_own GM_0.out) (by omega) (by omega)).mono ?_
  rintro e w11 ⟨rfl, hb⟩
  clear q_Kg_0 q_Kg_1 q_Kg_2 q_Kg_3
  have B_79 := hide (B_74.out.trans (hb.mono B_74.out.size))
  clear B_74
  have Ka_80 := hide (Ka_75.out.below hb)
  clear Ka_75
  have BU_81 := hide (BU_76.out.trans (hb.mono BU_76.out.size))
  clear BU_76
  have Ku_82 := hide (Ku_77.out.below hb)
  clear Ku_77
  have Kg_83 := hide (Kg_78.out.below hb)
  clear Kg_78
  have G_84 := hide (own_keep GM_0.out hb)
  clear GM_0
  clear hb
  -- once more
  have q_Ka_0 := Ka_80.out.cell 0
  have q_Ka_1 := Ka_80.out.cell 1
  have q_Ka_2 := Ka_80.out.cell 2
  have q_Ka_3 := Ka_80.out.cell 3
  have q_Ka_4 := Ka_80.out.cell 4
  have q_Ka_5 := Ka_80.out.cell 5
  have q_Ka_6 := Ka_80.out.cell 6
  go_wp2_with fail
  refine (toVm _ m_a _ (RVm_stable.here A0.out B_79.out) hy).mono ?_
  rintro e w12 ⟨cs_z, rfl, hrd, ho, hb⟩
  clear q_Ka_0 q_Ka_1 q_Ka_2 q_Ka_3 q_Ka_4 q_Ka_5 q_Ka_6
  clear ho
  have hrd' := RVm_stable.more hrd (Nat.zero_le _) (Nat.le_refl _); clear hrd; have hrd := hrd'; clear hrd'
  obtain ⟨z_0, z_1, z_6, rfl, f0, f1, f6⟩ := id hrd
  obtain ⟨Az_0, Cz_0, rfl⟩ := f0.form; clear f0
  obtain ⟨Az_1, Cz_1, rfl⟩ := f1.form; clear f1
  obtain ⟨Az_6, Cz_6, rfl⟩ := f6.form; clear f6
  have N_z := hide hrd; clear hrd
  have B_85 := hide (B_79.out.trans (hb.mono B_79.out.size))
  clear B_79
  have Ka_86 := hide (Ka_80.out.below hb)
  clear Ka_80
  have BU_87 := hide (BU_81.out.trans (hb.mono BU_81.out.size))
  clear BU_81
  have Ku_88 := hide (Ku_82.out.below hb)
  clear Ku_82
  have Kg_89 := hide (Kg_83.out.below hb)
  clear Kg_83
  have G_90 := hide (own_keep G_84.out hb)
  clear G_84
  clear hb
  have q_Ka_0 := Ka_86.out.cell 0
  have q_Ka_1 := Ka_86.out.cell 1
  have q_Ka_2 := Ka_86.out.cell 2
  have q_Ka_3 := Ka_86.out.cell 3
  have q_Ka_4 := Ka_86.out.cell 4
  have q_Ka_5 := Ka_86.out.cell 5
  have q_Ka_6 := Ka_86.out.cell 6
  go_wp2_with fail
  refine (HI.out _ _ N_z.out).mono ?_
  rintro e w13 ⟨h0, rfl, hown, hb⟩
  clear q_Ka_0 q_Ka_1 q_Ka_2 q_Ka_3 q_Ka_4 q_Ka_5 q_Ka_6
  clear N_z
  have B_91 := hide (B_85.out.trans (hb.mono B_85.out.size))
  clear B_85
  have Ka_92 := hide (Ka_86.out.below hb)
  clear Ka_86
  have BU_93 := hide (BU_87.out.trans (hb.mono BU_87.out.size))
  clear BU_87
  have Ku_94 := hide (Ku_88.out.below hb)
  clear Ku_88
  have Kg_95 := hide (Kg_89.out.below hb)
  clear Kg_89
  have G_96 := hide (own_keep G_90.out hb)
  clear G_90
  clear hb
  obtain ⟨Ah, Ch, rfl⟩ := own_form hown
  have GH_0 := hide hown; clear hown
  have hb := show Below (World.heap _).size _ _ from (Below.refl _ _).alloc (Nat.le_refl (World.heap w13).size) (.cells #[.int .i64 oC, .int .i64 oV, .slice Ah L.length Ch, .int .i64 oU] 50)
  have kb := Bk.new w13 50 #[.int .i64 oC, .int .i64 oV, .slice Ah L.length Ch, .int .i64 oU]
  have B_97 := hide (B_91.out.trans (hb.mono B_91.out.size))
  clear B_91
  have Ka_98 := hide (Ka_92.out.below hb)
  clear Ka_92
  have BU_99 := hide (BU_93.out.trans (hb.mono BU_93.out.size))
  clear BU_93
  have Ku_100 := hide (Ku_94.out.below hb)
  clear Ku_94
  have Kg_101 := hide (Kg_95.out.below hb)
  clear Kg_95
  have G_102 := hide (own_keep G_96.out hb)
  clear G_96
  have GH_103 := hide (own_keep GH_0.out hb)
  clear GH_0
  clear hb
  have Kh_0 := hide kb; clear kb
  have q_Kh_0 := Kh_0.out.cell 0
  have q_Kh_1 := Kh_0.out.cell 1
  have q_Kh_2 := Kh_0.out.cell 2
  have q_Kh_3 := Kh_0.out.cell 3
  have q_Ku_0 := Ku_100.out.cell 0
  have q_Ku_1 := Ku_100.out.cell 1
  have q_Ku_2 := Ku_100.out.cell 2
  have q_Ku_3 := Ku_100.out.cell 3
  go_wp2_with fail
  refine (eqOc oC oV _ _ oU L _ (Rd.of_own GH_103.out) (Rd.here U0.out BU_99.out)).mono ?_
  rintro e w14 ⟨rfl, hb⟩
  clear q_Kh_0 q_Kh_1 q_Kh_2 q_Kh_3 q_Ku_0 q_Ku_1 q_Ku_2 q_Ku_3
  have B_104 := hide (B_97.out.trans (hb.mono B_97.out.size))
  clear B_97
  have Ka_105 := hide (Ka_98.out.below hb)
  clear Ka_98
  have BU_106 := hide (BU_99.out.trans (hb.mono BU_99.out.size))
  clear BU_99
  have Ku_107 := hide (Ku_100.out.below hb)
  clear Ku_100
  have Kg_108 := hide (Kg_101.out.below hb)
  clear Kg_101
  have G_109 := hide (own_keep G_102.out hb)
  clear G_102
  have GH_110 := hide (own_keep GH_103.out hb)
  clear GH_103
  have Kh_111 := hide (Kh_0.out.below hb)
  clear Kh_0
  clear hb
  have q_Kg_0 := Kg_108.out.cell 0
  have q_Kg_1 := Kg_108.out.cell 1
  have q_Kg_2 := Kg_108.out.cell 2
  have q_Kg_3 := Kg_108.out.cell 3
  go_wp2_with fail
  refine (heldOc oC oV _ oU L.length 1 _ (Rd.of_own G_109.out) (by omega) (by omega)).mono ?_
  rintro e w15 ⟨rfl, hb⟩
  clear q_Kg_0 q_Kg_1 q_Kg_2 q_Kg_3
  have B_112 := hide (B_104.out.trans (hb.mono B_104.out.size))
  clear B_104
  have Ka_113 := hide (Ka_105.out.below hb)
  clear Ka_105
  have BU_114 := hide (BU_106.out.trans (hb.mono BU_106.out.size))
  clear BU_106
  have Ku_115 := hide (Ku_107.out.below hb)
  clear Ku_107
  have Kg_116 := hide (Kg_108.out.below hb)
  clear Kg_108
  have G_117 := hide (own_keep G_109.out hb)
  clear G_109
  have GH_118 := hide (own_keep GH_110.out hb)
  clear GH_110
  have Kh_119 := hide (Kh_111.out.below hb)
  clear Kh_111
  clear hb
  go_wp2_with fail
  go_ret
  exact ⟨rfl, B_112.out⟩
end Go.Proofs.Ytaebmliolpgmdaa
