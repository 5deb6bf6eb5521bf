
/- FnExactGoodVm: the call returns true. No condition. -/
import Derived.Test.YtaebmliolpgmdaaGreatGv7
import Derived.Test.YtaebmliolpgmdaaGreatOpImage
import Derived.Test.YtaebmliolpgmdaaGreatOpVm
import Derived.Test.YtaebmliolpgmdaaGreatOpen2
import Derived.Test.YtaebmliolpgmdaaGreatBlk
import Derived.Test.YtaebmliolpgmdaaGreatMem
import Derived.Test.YtaebmliolpgmdaaGreatNdFrame
import Derived.Deep.RegionHeld3
import Derived.Deep.RegionWith
set_option linter.unusedSimpArgs false
set_option linter.unusedVariables false
set_option maxRecDepth 100000
namespace Go.Proofs.YtaebmliolpgmdaaGreat
open Go.RowKit Go.WideShapes Go.ChangeShapes

set_option maxHeartbeats 3200000 in
theorem law_FnExactGoodVm (w : World) (v_aX : Value) (h_aX : IsImage w v_aX) (v_aV : Value) (h_aV : IsVm w v_aV) :
    Calls Tryz.prog 4 #[v_aX, v_aV] w fun e w' => e = .returned (.bool true) ∧ Below w.heap.size w w' := by
  obtain ⟨cs_aX, m_aX, rfl, R_aX⟩ := h_aX
  obtain ⟨a_aX_0, rfl, f0⟩ := id R_aX
  obtain ⟨Aa_aX_0, Ca_aX_0, rfl⟩ := f0.form; clear f0
  obtain ⟨cs_aV, m_aV, rfl, R_aV⟩ := h_aV
  obtain ⟨a_aV_0, a_aV_1, a_aV_6, rfl, f0, f1, f6⟩ := id R_aV
  obtain ⟨Aa_aV_0, Ca_aV_0, rfl⟩ := f0.form; clear f0
  obtain ⟨Aa_aV_1, Ca_aV_1, rfl⟩ := f1.form; clear f1
  obtain ⟨Aa_aV_6, Ca_aV_6, rfl⟩ := f6.form; clear f6
  have H_aX := hide R_aX; clear R_aX
  have H_aV := hide R_aV; clear R_aV
  have Hb_0 := hide (Below.refl w.heap.size w)
  have hb : Below (World.heap w).size w (World.alloc w (.cells #[.slice Aa_aX_0 m_aX.qCodes.length Ca_aX_0] 24)) := (Below.refl _ _).alloc (Nat.le_refl _) _
  have kb := Bk.new w 24 #[.slice Aa_aX_0 m_aX.qCodes.length Ca_aX_0]
  have R_aX_1 := hide (RImage_stable.here H_aX.out hb)
  clear H_aX
  have R_aV_2 := hide (RVm_stable.here H_aV.out hb)
  clear H_aV
  have B_3 := hide (Hb_0.out.trans (hb.mono Hb_0.out.size))
  clear Hb_0
  clear hb
  have K_aX := hide kb; clear kb
  have hb : Below (World.heap (World.alloc w (.cells #[.slice Aa_aX_0 m_aX.qCodes.length Ca_aX_0] 24))).size (World.alloc w (.cells #[.slice Aa_aX_0 m_aX.qCodes.length Ca_aX_0] 24)) (World.alloc (World.alloc w (.cells #[.slice Aa_aX_0 m_aX.qCodes.length Ca_aX_0] 24)) (.cells #[.slice Aa_aV_0 m_aV.qFrames.length Ca_aV_0, .slice Aa_aV_1 m_aV.qTrace.length Ca_aV_1, .int .i64 m_aV.qUsed, .int .i64 m_aV.qCode, .int .i64 m_aV.qValue, .int .i64 m_aV.qMade, .slice Aa_aV_6 m_aV.qNotes.length Ca_aV_6] 41)) := (Below.refl _ _).alloc (Nat.le_refl _) _
  have kb := Bk.new (World.alloc w (.cells #[.slice Aa_aX_0 m_aX.qCodes.length Ca_aX_0] 24)) 41 #[.slice Aa_aV_0 m_aV.qFrames.length Ca_aV_0, .slice Aa_aV_1 m_aV.qTrace.length Ca_aV_1, .int .i64 m_aV.qUsed, .int .i64 m_aV.qCode, .int .i64 m_aV.qValue, .int .i64 m_aV.qMade, .slice Aa_aV_6 m_aV.qNotes.length Ca_aV_6]
  simp only [World.size_alloc] at kb
  have R_aX_4 := hide (RImage_stable.here R_aX_1.out hb)
  clear R_aX_1
  have R_aV_5 := hide (RVm_stable.here R_aV_2.out hb)
  clear R_aV_2
  have B_6 := hide (B_3.out.trans (hb.mono B_3.out.size))
  clear B_3
  have K_aX_7 := hide (K_aX.out.below hb)
  clear K_aX
  clear hb
  have K_aV := hide kb; clear kb
  -- enter
  go_enter Tryz.func4, Tryz.ntmps4
  -- the size of aX
  have q_aX_0 := K_aX_7.out.cell 0
  go_wp2_with fail
  refine (szImage _ m_aX _ _ R_aX_4.out (by omega) (by omega)).mono ?_
  rintro e w100 ⟨rfl, hb⟩
  clear q_aX_0
  have R_aX_8 := hide (RImage_stable.here R_aX_4.out hb)
  clear R_aX_4
  have R_aV_9 := hide (RVm_stable.here R_aV_5.out hb)
  clear R_aV_5
  have B_10 := hide (B_6.out.trans (hb.mono B_6.out.size))
  clear B_6
  have K_aX_11 := hide (K_aX_7.out.below hb)
  clear K_aX_7
  have K_aV_12 := hide (K_aV.out.below hb)
  clear K_aV
  clear hb
  by_cases hz_aX : (szImageN m_aX : Int) ≤ 1048576
  case neg => rw [subL_no hz_aX]; go_wp2; go_ret; exact ⟨rfl, B_10.out⟩
  rw [subL_yes hz_aX]
  -- the size of aV
  have q_aV_0 := K_aV_12.out.cell 0
  have q_aV_1 := K_aV_12.out.cell 1
  have q_aV_2 := K_aV_12.out.cell 2
  have q_aV_3 := K_aV_12.out.cell 3
  have q_aV_4 := K_aV_12.out.cell 4
  have q_aV_5 := K_aV_12.out.cell 5
  have q_aV_6 := K_aV_12.out.cell 6
  go_wp2_with fail
  refine (szVm _ m_aV _ _ R_aV_9.out (by omega) (by omega)).mono ?_
  rintro e w101 ⟨rfl, hb⟩
  clear q_aV_0 q_aV_1 q_aV_2 q_aV_3 q_aV_4 q_aV_5 q_aV_6
  have R_aX_13 := hide (RImage_stable.here R_aX_8.out hb)
  clear R_aX_8
  have R_aV_14 := hide (RVm_stable.here R_aV_9.out hb)
  clear R_aV_9
  have B_15 := hide (B_10.out.trans (hb.mono B_10.out.size))
  clear B_10
  have K_aX_16 := hide (K_aX_11.out.below hb)
  clear K_aX_11
  have K_aV_17 := hide (K_aV_12.out.below hb)
  clear K_aV_12
  clear hb
  by_cases hz_aV : (szVmN m_aV : Int) ≤ 1048576 - szImageN m_aX
  case neg => rw [subL_no hz_aV]; go_wp2; go_ret; exact ⟨rfl, B_15.out⟩
  rw [subL_yes hz_aV]
  have hy_aX : szImageN m_aX ≤ 1048576 := by omega
  have hy_aV : szVmN m_aV ≤ 1048576 := by omega
  -- the reference
  go_wp2_with fail
  go_region_held3 (fun w' => w'.cell? ⟨w.heap.size, 0, none⟩ = some (.slice Aa_aX_0 m_aX.qCodes.length Ca_aX_0) ∧ w'.cell? ⟨w.heap.size + 1, 0, none⟩ = some (.slice Aa_aV_0 m_aV.qFrames.length Ca_aV_0) ∧ w'.cell? ⟨w.heap.size + 1, 1, none⟩ = some (.slice Aa_aV_1 m_aV.qTrace.length Ca_aV_1) ∧ w'.cell? ⟨w.heap.size + 1, 2, none⟩ = some (.int .i64 m_aV.qUsed) ∧ w'.cell? ⟨w.heap.size + 1, 3, none⟩ = some (.int .i64 m_aV.qCode) ∧ w'.cell? ⟨w.heap.size + 1, 4, none⟩ = some (.int .i64 m_aV.qValue) ∧ w'.cell? ⟨w.heap.size + 1, 5, none⟩ = some (.int .i64 m_aV.qMade) ∧ w'.cell? ⟨w.heap.size + 1, 6, none⟩ = some (.slice Aa_aV_6 m_aV.qNotes.length Ca_aV_6)) (first | exact ⟨K_aX_16.out.cell 0, K_aV_17.out.cell 0, K_aV_17.out.cell 1, K_aV_17.out.cell 2, K_aV_17.out.cell 3, K_aV_17.out.cell 4, K_aV_17.out.cell 5, K_aV_17.out.cell 6⟩ | exact ⟨K_aX_21.out.cell 0, K_aV_22.out.cell 0, K_aV_22.out.cell 1, K_aV_22.out.cell 2, K_aV_22.out.cell 3, K_aV_22.out.cell 4, K_aV_22.out.cell 5, K_aV_22.out.cell 6⟩ | exact ⟨K_aX_26.out.cell 0, K_aV_27.out.cell 0, K_aV_27.out.cell 1, K_aV_27.out.cell 2, K_aV_27.out.cell 3, K_aV_27.out.cell 4, K_aV_27.out.cell 5, K_aV_27.out.cell 6⟩ | exact ⟨K_aX_32.out.cell 0, K_aV_33.out.cell 0, K_aV_33.out.cell 1, K_aV_33.out.cell 2, K_aV_33.out.cell 3, K_aV_33.out.cell 4, K_aV_33.out.cell 5, K_aV_33.out.cell 6⟩)
    (first
      | (go_at_call 7; refine (toImage _ m_aX (World.drew _) R_aX_13.out hy_aX).mono ?_; rintro e w2 ⟨cs_s_aX, rfl, hrd, ho, hb⟩; have hrd := RImage_stable.more hrd (Nat.zero_le _) (Nat.le_refl _); obtain ⟨s_aX_0, rfl, f0⟩ := id hrd; obtain ⟨As_aX_0, Cs_aX_0, rfl⟩ := f0.form; clear f0; have N_s_aX := hide hrd; clear hrd; clear ho; have R_aX_18 := hide (RImage_stable.here (w := World.drew _) (by exact R_aX_13.out) hb); clear R_aX_13; have R_aV_19 := hide (RVm_stable.here (w := World.drew _) (by exact R_aV_14.out) hb); clear R_aV_14; have B_20 := hide (B_15.out.drew.trans (hb.mono B_15.out.size)); clear B_15; have K_aX_21 := hide (Bk.below (w := World.drew _) (by exact K_aX_16.out) hb); clear K_aX_16; have K_aV_22 := hide (Bk.below (w := World.drew _) (by exact K_aV_17.out) hb); clear K_aV_17; clear hb)
      | (go_at_call 16; refine (toVm _ m_aV _ R_aV_19.out hy_aV).mono ?_; rintro e w3 ⟨cs_s_aV, rfl, hrd, ho, hb⟩; have hrd := RVm_stable.more hrd (Nat.zero_le _) (Nat.le_refl _); obtain ⟨s_aV_0, s_aV_1, s_aV_6, rfl, f0, f1, f6⟩ := id hrd; obtain ⟨As_aV_0, Cs_aV_0, rfl⟩ := f0.form; clear f0; obtain ⟨As_aV_1, Cs_aV_1, rfl⟩ := f1.form; clear f1; obtain ⟨As_aV_6, Cs_aV_6, rfl⟩ := f6.form; clear f6; have N_s_aV := hide hrd; clear hrd; clear ho; have R_aX_23 := hide (RImage_stable.here R_aX_18.out hb); clear R_aX_18; have R_aV_24 := hide (RVm_stable.here R_aV_19.out hb); clear R_aV_19; have B_25 := hide (B_20.out.trans (hb.mono B_20.out.size)); clear B_20; have K_aX_26 := hide (K_aX_21.out.below hb); clear K_aX_21; have K_aV_27 := hide (K_aV_22.out.below hb); clear K_aV_22; have R_s_aX_28 := hide (RImage_stable.here N_s_aX.out hb); clear N_s_aX; clear hb)
      | (go_at_call 15; refine (spec_GoodVm _ _ m_aX m_aV _ R_s_aX_28.out N_s_aV.out).mono ?_; rintro e w900 ⟨rfl, hb⟩; have R_aX_29 := hide (RImage_stable.here R_aX_23.out hb); clear R_aX_23; have R_aV_30 := hide (RVm_stable.here R_aV_24.out hb); clear R_aV_24; have B_31 := hide (B_25.out.trans (hb.mono B_25.out.size)); clear B_25; have K_aX_32 := hide (K_aX_26.out.below hb); clear K_aX_26; have K_aV_33 := hide (K_aV_27.out.below hb); clear K_aV_27; have R_s_aX_34 := hide (RImage_stable.here R_s_aX_28.out hb); clear R_s_aX_28; have R_s_aV_35 := hide (RVm_stable.here N_s_aV.out hb); clear N_s_aV; clear hb))
  clear R_s_aX_34
  clear R_s_aV_35
  -- the copies
  have q_aX_0 := K_aX_32.out.cell 0
  go_wp2_with fail
  refine (toImage _ m_aX _ R_aX_29.out hy_aX).mono ?_
  rintro e w4 ⟨cs_x_aX, rfl, hrd, ho, hb⟩
  clear q_aX_0
  have hrd := RImage_stable.more hrd (Nat.zero_le _) (Nat.le_refl _)
  obtain ⟨x_aX_0, rfl, f0⟩ := id hrd
  obtain ⟨Ax_aX_0, Cx_aX_0, rfl⟩ := f0.form; clear f0
  have N_x_aX := hide hrd; clear hrd
  clear ho
  have R_aX_36 := hide (RImage_stable.here R_aX_29.out hb)
  clear R_aX_29
  have R_aV_37 := hide (RVm_stable.here R_aV_30.out hb)
  clear R_aV_30
  have B_38 := hide (B_31.out.trans (hb.mono B_31.out.size))
  clear B_31
  have K_aX_39 := hide (K_aX_32.out.below hb)
  clear K_aX_32
  have K_aV_40 := hide (K_aV_33.out.below hb)
  clear K_aV_33
  clear hb
  have hb := show Below (World.heap _).size _ _ from (Below.refl _ _).alloc (Nat.le_refl (World.heap w4).size) (.cells #[.slice Ax_aX_0 m_aX.qCodes.length Cx_aX_0] 31)
  have kb := Bk.new w4 31 #[.slice Ax_aX_0 m_aX.qCodes.length Cx_aX_0]
  have R_aX_41 := hide (RImage_stable.here R_aX_36.out hb)
  clear R_aX_36
  have R_aV_42 := hide (RVm_stable.here R_aV_37.out hb)
  clear R_aV_37
  have B_43 := hide (B_38.out.trans (hb.mono B_38.out.size))
  clear B_38
  have K_aX_44 := hide (K_aX_39.out.below hb)
  clear K_aX_39
  have K_aV_45 := hide (K_aV_40.out.below hb)
  clear K_aV_40
  have R_x_aX_46 := hide (RImage_stable.here N_x_aX.out hb)
  clear N_x_aX
  clear hb
  have K_x_aX := hide kb; clear kb
  have q_aV_0 := K_aV_45.out.cell 0
  have q_aV_1 := K_aV_45.out.cell 1
  have q_aV_2 := K_aV_45.out.cell 2
  have q_aV_3 := K_aV_45.out.cell 3
  have q_aV_4 := K_aV_45.out.cell 4
  have q_aV_5 := K_aV_45.out.cell 5
  have q_aV_6 := K_aV_45.out.cell 6
  go_wp2_with fail
  refine (toVm _ m_aV _ R_aV_42.out hy_aV).mono ?_
  rintro e w5 ⟨cs_x_aV, rfl, hrd, ho, hb⟩
  clear q_aV_0 q_aV_1 q_aV_2 q_aV_3 q_aV_4 q_aV_5 q_aV_6
  have hrd := RVm_stable.more hrd (Nat.zero_le _) (Nat.le_refl _)
  obtain ⟨x_aV_0, x_aV_1, x_aV_6, rfl, f0, f1, f6⟩ := id hrd
  obtain ⟨Ax_aV_0, Cx_aV_0, rfl⟩ := f0.form; clear f0
  obtain ⟨Ax_aV_1, Cx_aV_1, rfl⟩ := f1.form; clear f1
  obtain ⟨Ax_aV_6, Cx_aV_6, rfl⟩ := f6.form; clear f6
  have N_x_aV := hide hrd; clear hrd
  clear ho
  have R_aX_47 := hide (RImage_stable.here R_aX_41.out hb)
  clear R_aX_41
  have R_aV_48 := hide (RVm_stable.here R_aV_42.out hb)
  clear R_aV_42
  have B_49 := hide (B_43.out.trans (hb.mono B_43.out.size))
  clear B_43
  have K_aX_50 := hide (K_aX_44.out.below hb)
  clear K_aX_44
  have K_aV_51 := hide (K_aV_45.out.below hb)
  clear K_aV_45
  have R_x_aX_52 := hide (RImage_stable.here R_x_aX_46.out hb)
  clear R_x_aX_46
  have K_x_aX_53 := hide (K_x_aX.out.below hb)
  clear K_x_aX
  clear hb
  have hb := show Below (World.heap _).size _ _ from (Below.refl _ _).alloc (Nat.le_refl (World.heap w5).size) (.cells #[.slice Ax_aV_0 m_aV.qFrames.length Cx_aV_0, .slice Ax_aV_1 m_aV.qTrace.length Cx_aV_1, .int .i64 m_aV.qUsed, .int .i64 m_aV.qCode, .int .i64 m_aV.qValue, .int .i64 m_aV.qMade, .slice Ax_aV_6 m_aV.qNotes.length Cx_aV_6] 47)
  have kb := Bk.new w5 47 #[.slice Ax_aV_0 m_aV.qFrames.length Cx_aV_0, .slice Ax_aV_1 m_aV.qTrace.length Cx_aV_1, .int .i64 m_aV.qUsed, .int .i64 m_aV.qCode, .int .i64 m_aV.qValue, .int .i64 m_aV.qMade, .slice Ax_aV_6 m_aV.qNotes.length Cx_aV_6]
  have R_aX_54 := hide (RImage_stable.here R_aX_47.out hb)
  clear R_aX_47
  have R_aV_55 := hide (RVm_stable.here R_aV_48.out hb)
  clear R_aV_48
  have B_56 := hide (B_49.out.trans (hb.mono B_49.out.size))
  clear B_49
  have K_aX_57 := hide (K_aX_50.out.below hb)
  clear K_aX_50
  have K_aV_58 := hide (K_aV_51.out.below hb)
  clear K_aV_51
  have R_x_aX_59 := hide (RImage_stable.here R_x_aX_52.out hb)
  clear R_x_aX_52
  have K_x_aX_60 := hide (K_x_aX_53.out.below hb)
  clear K_x_aX_53
  have R_x_aV_61 := hide (RVm_stable.here N_x_aV.out hb)
  clear N_x_aV
  clear hb
  have K_x_aV := hide kb; clear kb
  -- the program
  have q_x_aX_0 := K_x_aX_60.out.cell 0
  have q_x_aV_0 := K_x_aV.out.cell 0
  have q_x_aV_1 := K_x_aV.out.cell 1
  have q_x_aV_2 := K_x_aV.out.cell 2
  have q_x_aV_3 := K_x_aV.out.cell 3
  have q_x_aV_4 := K_x_aV.out.cell 4
  have q_x_aV_5 := K_x_aV.out.cell 5
  have q_x_aV_6 := K_x_aV.out.cell 6
  go_wp2_with fail
  refine (impl_GoodVm _ _ m_aX m_aV _ R_x_aX_59.out R_x_aV_61.out).mono ?_
  rintro e w901 ⟨rfl, hb⟩
  clear q_x_aX_0 q_x_aV_0 q_x_aV_1 q_x_aV_2 q_x_aV_3 q_x_aV_4 q_x_aV_5 q_x_aV_6
  have R_aX_62 := hide (RImage_stable.here R_aX_54.out hb)
  clear R_aX_54
  have R_aV_63 := hide (RVm_stable.here R_aV_55.out hb)
  clear R_aV_55
  have B_64 := hide (B_56.out.trans (hb.mono B_56.out.size))
  clear B_56
  have K_aX_65 := hide (K_aX_57.out.below hb)
  clear K_aX_57
  have K_aV_66 := hide (K_aV_58.out.below hb)
  clear K_aV_58
  have R_x_aX_67 := hide (RImage_stable.here R_x_aX_59.out hb)
  clear R_x_aX_59
  have K_x_aX_68 := hide (K_x_aX_60.out.below hb)
  clear K_x_aX_60
  have R_x_aV_69 := hide (RVm_stable.here R_x_aV_61.out hb)
  clear R_x_aV_61
  have K_x_aV_70 := hide (K_x_aV.out.below hb)
  clear K_x_aV
  clear hb
  -- the copies again
  go_wp2_with fail
  go_region_held3 (fun w' => w'.cell? ⟨w.heap.size, 0, none⟩ = some (.slice Aa_aX_0 m_aX.qCodes.length Ca_aX_0) ∧ w'.cell? ⟨(World.heap w4).size, 0, none⟩ = some (.slice Ax_aX_0 m_aX.qCodes.length Cx_aX_0)) (first | exact ⟨K_aX_65.out.cell 0, K_x_aX_68.out.cell 0⟩ | exact ⟨K_aX_74.out.cell 0, K_x_aX_77.out.cell 0⟩ | exact ⟨K_aX_83.out.cell 0, K_x_aX_86.out.cell 0⟩)
    (first
      | (go_at_call 7; refine (toImage _ m_aX (World.drew _) R_aX_62.out hy_aX).mono ?_; rintro e w7 ⟨cs_y_aX, rfl, hrd, ho, hb⟩; have hrd := RImage_stable.more hrd (Nat.zero_le _) (Nat.le_refl _); obtain ⟨y_aX_0, rfl, f0⟩ := id hrd; obtain ⟨Ay_aX_0, Cy_aX_0, rfl⟩ := f0.form; clear f0; have N_y_aX := hide hrd; clear hrd; clear ho; have R_aX_71 := hide (RImage_stable.here (w := World.drew _) (by exact R_aX_62.out) hb); clear R_aX_62; have R_aV_72 := hide (RVm_stable.here (w := World.drew _) (by exact R_aV_63.out) hb); clear R_aV_63; have B_73 := hide (B_64.out.drew.trans (hb.mono B_64.out.size)); clear B_64; have K_aX_74 := hide (Bk.below (w := World.drew _) (by exact K_aX_65.out) hb); clear K_aX_65; have K_aV_75 := hide (Bk.below (w := World.drew _) (by exact K_aV_66.out) hb); clear K_aV_66; have R_x_aX_76 := hide (RImage_stable.here (w := World.drew _) (by exact R_x_aX_67.out) hb); clear R_x_aX_67; have K_x_aX_77 := hide (Bk.below (w := World.drew _) (by exact K_x_aX_68.out) hb); clear K_x_aX_68; have R_x_aV_78 := hide (RVm_stable.here (w := World.drew _) (by exact R_x_aV_69.out) hb); clear R_x_aV_69; have K_x_aV_79 := hide (Bk.below (w := World.drew _) (by exact K_x_aV_70.out) hb); clear K_x_aV_70; clear hb)
      | (go_at_call 10; refine (eqImage _ _ m_aX _ R_x_aX_76.out N_y_aX.out).mono ?_; rintro e w917 ⟨rfl, hb⟩; have R_aX_80 := hide (RImage_stable.here R_aX_71.out hb); clear R_aX_71; have R_aV_81 := hide (RVm_stable.here R_aV_72.out hb); clear R_aV_72; have B_82 := hide (B_73.out.trans (hb.mono B_73.out.size)); clear B_73; have K_aX_83 := hide (K_aX_74.out.below hb); clear K_aX_74; have K_aV_84 := hide (K_aV_75.out.below hb); clear K_aV_75; have R_x_aX_85 := hide (RImage_stable.here R_x_aX_76.out hb); clear R_x_aX_76; have K_x_aX_86 := hide (K_x_aX_77.out.below hb); clear K_x_aX_77; have R_x_aV_87 := hide (RVm_stable.here R_x_aV_78.out hb); clear R_x_aV_78; have K_x_aV_88 := hide (K_x_aV_79.out.below hb); clear K_x_aV_79; have R_y_aX_89 := hide (RImage_stable.here N_y_aX.out hb); clear N_y_aX; clear hb))
  go_wp2_with fail
  go_region_held3 (fun w' => w'.cell? ⟨w.heap.size + 1, 0, none⟩ = some (.slice Aa_aV_0 m_aV.qFrames.length Ca_aV_0) ∧ w'.cell? ⟨w.heap.size + 1, 1, none⟩ = some (.slice Aa_aV_1 m_aV.qTrace.length Ca_aV_1) ∧ w'.cell? ⟨w.heap.size + 1, 2, none⟩ = some (.int .i64 m_aV.qUsed) ∧ w'.cell? ⟨w.heap.size + 1, 3, none⟩ = some (.int .i64 m_aV.qCode) ∧ w'.cell? ⟨w.heap.size + 1, 4, none⟩ = some (.int .i64 m_aV.qValue) ∧ w'.cell? ⟨w.heap.size + 1, 5, none⟩ = some (.int .i64 m_aV.qMade) ∧ w'.cell? ⟨w.heap.size + 1, 6, none⟩ = some (.slice Aa_aV_6 m_aV.qNotes.length Ca_aV_6) ∧ w'.cell? ⟨(World.heap w5).size, 0, none⟩ = some (.slice Ax_aV_0 m_aV.qFrames.length Cx_aV_0) ∧ w'.cell? ⟨(World.heap w5).size, 1, none⟩ = some (.slice Ax_aV_1 m_aV.qTrace.length Cx_aV_1) ∧ w'.cell? ⟨(World.heap w5).size, 2, none⟩ = some (.int .i64 m_aV.qUsed) ∧ w'.cell? ⟨(World.heap w5).size, 3, none⟩ = some (.int .i64 m_aV.qCode) ∧ w'.cell? ⟨(World.heap w5).size, 4, none⟩ = some (.int .i64 m_aV.qValue) ∧ w'.cell? ⟨(World.heap w5).size, 5, none⟩ = some (.int .i64 m_aV.qMade) ∧ w'.cell? ⟨(World.heap w5).size, 6, none⟩ = some (.slice Ax_aV_6 m_aV.qNotes.length Cx_aV_6)) (first | exact ⟨K_aV_84.out.cell 0, K_aV_84.out.cell 1, K_aV_84.out.cell 2, K_aV_84.out.cell 3, K_aV_84.out.cell 4, K_aV_84.out.cell 5, K_aV_84.out.cell 6, K_x_aV_88.out.cell 0, K_x_aV_88.out.cell 1, K_x_aV_88.out.cell 2, K_x_aV_88.out.cell 3, K_x_aV_88.out.cell 4, K_x_aV_88.out.cell 5, K_x_aV_88.out.cell 6⟩ | exact ⟨K_aV_94.out.cell 0, K_aV_94.out.cell 1, K_aV_94.out.cell 2, K_aV_94.out.cell 3, K_aV_94.out.cell 4, K_aV_94.out.cell 5, K_aV_94.out.cell 6, K_x_aV_98.out.cell 0, K_x_aV_98.out.cell 1, K_x_aV_98.out.cell 2, K_x_aV_98.out.cell 3, K_x_aV_98.out.cell 4, K_x_aV_98.out.cell 5, K_x_aV_98.out.cell 6⟩ | exact ⟨K_aV_104.out.cell 0, K_aV_104.out.cell 1, K_aV_104.out.cell 2, K_aV_104.out.cell 3, K_aV_104.out.cell 4, K_aV_104.out.cell 5, K_aV_104.out.cell 6, K_x_aV_108.out.cell 0, K_x_aV_108.out.cell 1, K_x_aV_108.out.cell 2, K_x_aV_108.out.cell 3, K_x_aV_108.out.cell 4, K_x_aV_108.out.cell 5, K_x_aV_108.out.cell 6⟩)
    (first
      | (go_at_call 16; refine (toVm _ m_aV (World.drew _) R_aV_81.out hy_aV).mono ?_; rintro e w8 ⟨cs_y_aV, rfl, hrd, ho, hb⟩; have hrd := RVm_stable.more hrd (Nat.zero_le _) (Nat.le_refl _); obtain ⟨y_aV_0, y_aV_1, y_aV_6, rfl, f0, f1, f6⟩ := id hrd; obtain ⟨Ay_aV_0, Cy_aV_0, rfl⟩ := f0.form; clear f0; obtain ⟨Ay_aV_1, Cy_aV_1, rfl⟩ := f1.form; clear f1; obtain ⟨Ay_aV_6, Cy_aV_6, rfl⟩ := f6.form; clear f6; have N_y_aV := hide hrd; clear hrd; clear ho; have R_aX_90 := hide (RImage_stable.here (w := World.drew _) (by exact R_aX_80.out) hb); clear R_aX_80; have R_aV_91 := hide (RVm_stable.here (w := World.drew _) (by exact R_aV_81.out) hb); clear R_aV_81; have B_92 := hide (B_82.out.drew.trans (hb.mono B_82.out.size)); clear B_82; have K_aX_93 := hide (Bk.below (w := World.drew _) (by exact K_aX_83.out) hb); clear K_aX_83; have K_aV_94 := hide (Bk.below (w := World.drew _) (by exact K_aV_84.out) hb); clear K_aV_84; have R_x_aX_95 := hide (RImage_stable.here (w := World.drew _) (by exact R_x_aX_85.out) hb); clear R_x_aX_85; have K_x_aX_96 := hide (Bk.below (w := World.drew _) (by exact K_x_aX_86.out) hb); clear K_x_aX_86; have R_x_aV_97 := hide (RVm_stable.here (w := World.drew _) (by exact R_x_aV_87.out) hb); clear R_x_aV_87; have K_x_aV_98 := hide (Bk.below (w := World.drew _) (by exact K_x_aV_88.out) hb); clear K_x_aV_88; have R_y_aX_99 := hide (RImage_stable.here (w := World.drew _) (by exact R_y_aX_89.out) hb); clear R_y_aX_89; clear hb)
      | (go_at_call 18; refine (eqVm _ _ m_aV _ R_x_aV_97.out N_y_aV.out).mono ?_; rintro e w918 ⟨rfl, hb⟩; have R_aX_100 := hide (RImage_stable.here R_aX_90.out hb); clear R_aX_90; have R_aV_101 := hide (RVm_stable.here R_aV_91.out hb); clear R_aV_91; have B_102 := hide (B_92.out.trans (hb.mono B_92.out.size)); clear B_92; have K_aX_103 := hide (K_aX_93.out.below hb); clear K_aX_93; have K_aV_104 := hide (K_aV_94.out.below hb); clear K_aV_94; have R_x_aX_105 := hide (RImage_stable.here R_x_aX_95.out hb); clear R_x_aX_95; have K_x_aX_106 := hide (K_x_aX_96.out.below hb); clear K_x_aX_96; have R_x_aV_107 := hide (RVm_stable.here R_x_aV_97.out hb); clear R_x_aV_97; have K_x_aV_108 := hide (K_x_aV_98.out.below hb); clear K_x_aV_98; have R_y_aX_109 := hide (RImage_stable.here R_y_aX_99.out hb); clear R_y_aX_99; have R_y_aV_110 := hide (RVm_stable.here N_y_aV.out hb); clear N_y_aV; clear hb))
  go_wp2_with fail
  go_ret
  exact ⟨rfl, B_102.out⟩
end Go.Proofs.YtaebmliolpgmdaaGreat
