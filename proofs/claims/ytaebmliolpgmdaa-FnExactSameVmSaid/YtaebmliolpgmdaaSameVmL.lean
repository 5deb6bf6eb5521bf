
/- FnExactSameVm: the call returns true. No condition. -/
import Derived.Test.YtaebmliolpgmdaaSv4
import Derived.Test.YtaebmliolpgmdaaOpVm
import Derived.Test.YtaebmliolpgmdaaOpen3
import Derived.Test.YtaebmliolpgmdaaBlk
import Derived.Test.YtaebmliolpgmdaaHere
import Derived.Deep.RegionHeld3
import Derived.Deep.RegionWith
set_option linter.unusedSimpArgs false
set_option linter.unusedVariables false
set_option maxRecDepth 100000
namespace Go.Proofs.Ytaebmliolpgmdaa
open Go.RowKit Go.WideShapes Go.ChangeShapes

set_option maxHeartbeats 3200000 in
theorem law_FnExactSameVm (w : World) (v_aA : Value) (h_aA : IsVm w v_aA) (v_aB : Value) (h_aB : IsVm w v_aB) :
    Calls Try.prog 5 #[v_aA, v_aB] w fun e w' => e = .returned (.bool true) ∧ Below w.heap.size w w' := by
  obtain ⟨cs_aA, m_aA, rfl, R_aA⟩ := h_aA
  obtain ⟨a_aA_0, a_aA_1, a_aA_6, rfl, f0, f1, f6⟩ := id R_aA
  obtain ⟨Aa_aA_0, Ca_aA_0, rfl⟩ := f0.form; clear f0
  obtain ⟨Aa_aA_1, Ca_aA_1, rfl⟩ := f1.form; clear f1
  obtain ⟨Aa_aA_6, Ca_aA_6, rfl⟩ := f6.form; clear f6
  obtain ⟨cs_aB, m_aB, rfl, R_aB⟩ := h_aB
  obtain ⟨a_aB_0, a_aB_1, a_aB_6, rfl, f0, f1, f6⟩ := id R_aB
  obtain ⟨Aa_aB_0, Ca_aB_0, rfl⟩ := f0.form; clear f0
  obtain ⟨Aa_aB_1, Ca_aB_1, rfl⟩ := f1.form; clear f1
  obtain ⟨Aa_aB_6, Ca_aB_6, rfl⟩ := f6.form; clear f6
  have H_aA := hide R_aA; clear R_aA
  have H_aB := hide R_aB; clear R_aB
  have Hb_0 := hide (Below.refl w.heap.size w)
  have hb : Below (World.heap w).size w (World.alloc w (.cells #[.slice Aa_aA_0 m_aA.qFrames.length Ca_aA_0, .slice Aa_aA_1 m_aA.qTrace.length Ca_aA_1, .int .i64 m_aA.qUsed, .int .i64 m_aA.qCode, .int .i64 m_aA.qValue, .int .i64 m_aA.qMade, .slice Aa_aA_6 m_aA.qNotes.length Ca_aA_6] 40)) := (Below.refl _ _).alloc (Nat.le_refl _) _
  have kb := Bk.new w 40 #[.slice Aa_aA_0 m_aA.qFrames.length Ca_aA_0, .slice Aa_aA_1 m_aA.qTrace.length Ca_aA_1, .int .i64 m_aA.qUsed, .int .i64 m_aA.qCode, .int .i64 m_aA.qValue, .int .i64 m_aA.qMade, .slice Aa_aA_6 m_aA.qNotes.length Ca_aA_6]
  have R_aA_1 := hide (RVm_stable.here H_aA.out hb)
  clear H_aA
  have R_aB_2 := hide (RVm_stable.here H_aB.out hb)
  clear H_aB
  have B_3 := hide (Hb_0.out.trans (hb.mono Hb_0.out.size))
  clear Hb_0
  clear hb
  have K_aA := hide kb; clear kb
  have hb : Below (World.heap (World.alloc w (.cells #[.slice Aa_aA_0 m_aA.qFrames.length Ca_aA_0, .slice Aa_aA_1 m_aA.qTrace.length Ca_aA_1, .int .i64 m_aA.qUsed, .int .i64 m_aA.qCode, .int .i64 m_aA.qValue, .int .i64 m_aA.qMade, .slice Aa_aA_6 m_aA.qNotes.length Ca_aA_6] 40))).size (World.alloc w (.cells #[.slice Aa_aA_0 m_aA.qFrames.length Ca_aA_0, .slice Aa_aA_1 m_aA.qTrace.length Ca_aA_1, .int .i64 m_aA.qUsed, .int .i64 m_aA.qCode, .int .i64 m_aA.qValue, .int .i64 m_aA.qMade, .slice Aa_aA_6 m_aA.qNotes.length Ca_aA_6] 40)) (World.alloc (World.alloc w (.cells #[.slice Aa_aA_0 m_aA.qFrames.length Ca_aA_0, .slice Aa_aA_1 m_aA.qTrace.length Ca_aA_1, .int .i64 m_aA.qUsed, .int .i64 m_aA.qCode, .int .i64 m_aA.qValue, .int .i64 m_aA.qMade, .slice Aa_aA_6 m_aA.qNotes.length Ca_aA_6] 40)) (.cells #[.slice Aa_aB_0 m_aB.qFrames.length Ca_aB_0, .slice Aa_aB_1 m_aB.qTrace.length Ca_aB_1, .int .i64 m_aB.qUsed, .int .i64 m_aB.qCode, .int .i64 m_aB.qValue, .int .i64 m_aB.qMade, .slice Aa_aB_6 m_aB.qNotes.length Ca_aB_6] 40)) := (Below.refl _ _).alloc (Nat.le_refl _) _
  have kb := Bk.new (World.alloc w (.cells #[.slice Aa_aA_0 m_aA.qFrames.length Ca_aA_0, .slice Aa_aA_1 m_aA.qTrace.length Ca_aA_1, .int .i64 m_aA.qUsed, .int .i64 m_aA.qCode, .int .i64 m_aA.qValue, .int .i64 m_aA.qMade, .slice Aa_aA_6 m_aA.qNotes.length Ca_aA_6] 40)) 40 #[.slice Aa_aB_0 m_aB.qFrames.length Ca_aB_0, .slice Aa_aB_1 m_aB.qTrace.length Ca_aB_1, .int .i64 m_aB.qUsed, .int .i64 m_aB.qCode, .int .i64 m_aB.qValue, .int .i64 m_aB.qMade, .slice Aa_aB_6 m_aB.qNotes.length Ca_aB_6]
  simp only [World.size_alloc] at kb
  have R_aA_4 := hide (RVm_stable.here R_aA_1.out hb)
  clear R_aA_1
  have R_aB_5 := hide (RVm_stable.here R_aB_2.out hb)
  clear R_aB_2
  have B_6 := hide (B_3.out.trans (hb.mono B_3.out.size))
  clear B_3
  have K_aA_7 := hide (K_aA.out.below hb)
  clear K_aA
  clear hb
  have K_aB := hide kb; clear kb
  -- enter
  go_enter Try.func5, Try.ntmps5
  -- the size of aA
  have q_aA_0 := K_aA_7.out.cell 0
  have q_aA_1 := K_aA_7.out.cell 1
  have q_aA_2 := K_aA_7.out.cell 2
  have q_aA_3 := K_aA_7.out.cell 3
  have q_aA_4 := K_aA_7.out.cell 4
  have q_aA_5 := K_aA_7.out.cell 5
  have q_aA_6 := K_aA_7.out.cell 6
  go_wp2_with fail
  refine (szVm _ m_aA _ _ R_aA_4.out (by omega) (by omega)).mono ?_
  rintro e w100 ⟨rfl, hb⟩
  clear q_aA_0 q_aA_1 q_aA_2 q_aA_3 q_aA_4 q_aA_5 q_aA_6
  have R_aA_8 := hide (RVm_stable.here R_aA_4.out hb)
  clear R_aA_4
  have R_aB_9 := hide (RVm_stable.here R_aB_5.out hb)
  clear R_aB_5
  have B_10 := hide (B_6.out.trans (hb.mono B_6.out.size))
  clear B_6
  have K_aA_11 := hide (K_aA_7.out.below hb)
  clear K_aA_7
  have K_aB_12 := hide (K_aB.out.below hb)
  clear K_aB
  clear hb
  by_cases hz_aA : (szVmN m_aA : Int) ≤ 1048576
  case neg => rw [subL_no hz_aA]; go_wp2; go_ret; exact ⟨rfl, B_10.out⟩
  rw [subL_yes hz_aA]
  -- the size of aB
  have q_aB_0 := K_aB_12.out.cell 0
  have q_aB_1 := K_aB_12.out.cell 1
  have q_aB_2 := K_aB_12.out.cell 2
  have q_aB_3 := K_aB_12.out.cell 3
  have q_aB_4 := K_aB_12.out.cell 4
  have q_aB_5 := K_aB_12.out.cell 5
  have q_aB_6 := K_aB_12.out.cell 6
  go_wp2_with fail
  refine (szVm _ m_aB _ _ R_aB_9.out (by omega) (by omega)).mono ?_
  rintro e w101 ⟨rfl, hb⟩
  clear q_aB_0 q_aB_1 q_aB_2 q_aB_3 q_aB_4 q_aB_5 q_aB_6
  have R_aA_13 := hide (RVm_stable.here R_aA_8.out hb)
  clear R_aA_8
  have R_aB_14 := hide (RVm_stable.here R_aB_9.out hb)
  clear R_aB_9
  have B_15 := hide (B_10.out.trans (hb.mono B_10.out.size))
  clear B_10
  have K_aA_16 := hide (K_aA_11.out.below hb)
  clear K_aA_11
  have K_aB_17 := hide (K_aB_12.out.below hb)
  clear K_aB_12
  clear hb
  by_cases hz_aB : (szVmN m_aB : Int) ≤ 1048576 - szVmN m_aA
  case neg => rw [subL_no hz_aB]; go_wp2; go_ret; exact ⟨rfl, B_15.out⟩
  rw [subL_yes hz_aB]
  have hy_aA : szVmN m_aA ≤ 1048576 := by omega
  have hy_aB : szVmN m_aB ≤ 1048576 := by omega
  -- the reference
  go_wp2_with fail
  go_region_held3 (fun w' => w'.cell? ⟨w.heap.size, 0, none⟩ = some (.slice Aa_aA_0 m_aA.qFrames.length Ca_aA_0) ∧ w'.cell? ⟨w.heap.size, 1, none⟩ = some (.slice Aa_aA_1 m_aA.qTrace.length Ca_aA_1) ∧ w'.cell? ⟨w.heap.size, 2, none⟩ = some (.int .i64 m_aA.qUsed) ∧ w'.cell? ⟨w.heap.size, 3, none⟩ = some (.int .i64 m_aA.qCode) ∧ w'.cell? ⟨w.heap.size, 4, none⟩ = some (.int .i64 m_aA.qValue) ∧ w'.cell? ⟨w.heap.size, 5, none⟩ = some (.int .i64 m_aA.qMade) ∧ w'.cell? ⟨w.heap.size, 6, none⟩ = some (.slice Aa_aA_6 m_aA.qNotes.length Ca_aA_6) ∧ w'.cell? ⟨w.heap.size + 1, 0, none⟩ = some (.slice Aa_aB_0 m_aB.qFrames.length Ca_aB_0) ∧ w'.cell? ⟨w.heap.size + 1, 1, none⟩ = some (.slice Aa_aB_1 m_aB.qTrace.length Ca_aB_1) ∧ w'.cell? ⟨w.heap.size + 1, 2, none⟩ = some (.int .i64 m_aB.qUsed) ∧ w'.cell? ⟨w.heap.size + 1, 3, none⟩ = some (.int .i64 m_aB.qCode) ∧ w'.cell? ⟨w.heap.size + 1, 4, none⟩ = some (.int .i64 m_aB.qValue) ∧ w'.cell? ⟨w.heap.size + 1, 5, none⟩ = some (.int .i64 m_aB.qMade) ∧ w'.cell? ⟨w.heap.size + 1, 6, none⟩ = some (.slice Aa_aB_6 m_aB.qNotes.length Ca_aB_6)) (first | exact ⟨K_aA_16.out.cell 0, K_aA_16.out.cell 1, K_aA_16.out.cell 2, K_aA_16.out.cell 3, K_aA_16.out.cell 4, K_aA_16.out.cell 5, K_aA_16.out.cell 6, K_aB_17.out.cell 0, K_aB_17.out.cell 1, K_aB_17.out.cell 2, K_aB_17.out.cell 3, K_aB_17.out.cell 4, K_aB_17.out.cell 5, K_aB_17.out.cell 6⟩ | exact ⟨K_aA_21.out.cell 0, K_aA_21.out.cell 1, K_aA_21.out.cell 2, K_aA_21.out.cell 3, K_aA_21.out.cell 4, K_aA_21.out.cell 5, K_aA_21.out.cell 6, K_aB_22.out.cell 0, K_aB_22.out.cell 1, K_aB_22.out.cell 2, K_aB_22.out.cell 3, K_aB_22.out.cell 4, K_aB_22.out.cell 5, K_aB_22.out.cell 6⟩ | exact ⟨K_aA_26.out.cell 0, K_aA_26.out.cell 1, K_aA_26.out.cell 2, K_aA_26.out.cell 3, K_aA_26.out.cell 4, K_aA_26.out.cell 5, K_aA_26.out.cell 6, K_aB_27.out.cell 0, K_aB_27.out.cell 1, K_aB_27.out.cell 2, K_aB_27.out.cell 3, K_aB_27.out.cell 4, K_aB_27.out.cell 5, K_aB_27.out.cell 6⟩ | exact ⟨K_aA_32.out.cell 0, K_aA_32.out.cell 1, K_aA_32.out.cell 2, K_aA_32.out.cell 3, K_aA_32.out.cell 4, K_aA_32.out.cell 5, K_aA_32.out.cell 6, K_aB_33.out.cell 0, K_aB_33.out.cell 1, K_aB_33.out.cell 2, K_aB_33.out.cell 3, K_aB_33.out.cell 4, K_aB_33.out.cell 5, K_aB_33.out.cell 6⟩)
    (first
      | (go_at_call 16; refine (toVm _ m_aA (World.drew _) R_aA_13.out hy_aA).mono ?_; rintro e w2 ⟨cs_s_aA, rfl, hrd, ho, hb⟩; have hrd := RVm_stable.more hrd (Nat.zero_le _) (Nat.le_refl _); obtain ⟨s_aA_0, s_aA_1, s_aA_6, rfl, f0, f1, f6⟩ := id hrd; obtain ⟨As_aA_0, Cs_aA_0, rfl⟩ := f0.form; clear f0; obtain ⟨As_aA_1, Cs_aA_1, rfl⟩ := f1.form; clear f1; obtain ⟨As_aA_6, Cs_aA_6, rfl⟩ := f6.form; clear f6; have N_s_aA := hide hrd; clear hrd; clear ho; have R_aA_18 := hide (RVm_stable.here (w := World.drew _) (by exact R_aA_13.out) hb); clear R_aA_13; have R_aB_19 := hide (RVm_stable.here (w := World.drew _) (by exact R_aB_14.out) hb); clear R_aB_14; have B_20 := hide (B_15.out.drew.trans (hb.mono B_15.out.size)); clear B_15; have K_aA_21 := hide (Bk.below (w := World.drew _) (by exact K_aA_16.out) hb); clear K_aA_16; have K_aB_22 := hide (Bk.below (w := World.drew _) (by exact K_aB_17.out) hb); clear K_aB_17; clear hb)
      | (go_at_call 16; refine (toVm _ m_aB _ R_aB_19.out hy_aB).mono ?_; rintro e w3 ⟨cs_s_aB, rfl, hrd, ho, hb⟩; have hrd := RVm_stable.more hrd (Nat.zero_le _) (Nat.le_refl _); obtain ⟨s_aB_0, s_aB_1, s_aB_6, rfl, f0, f1, f6⟩ := id hrd; obtain ⟨As_aB_0, Cs_aB_0, rfl⟩ := f0.form; clear f0; obtain ⟨As_aB_1, Cs_aB_1, rfl⟩ := f1.form; clear f1; obtain ⟨As_aB_6, Cs_aB_6, rfl⟩ := f6.form; clear f6; have N_s_aB := hide hrd; clear hrd; clear ho; have R_aA_23 := hide (RVm_stable.here R_aA_18.out hb); clear R_aA_18; have R_aB_24 := hide (RVm_stable.here R_aB_19.out hb); clear R_aB_19; have B_25 := hide (B_20.out.trans (hb.mono B_20.out.size)); clear B_20; have K_aA_26 := hide (K_aA_21.out.below hb); clear K_aA_21; have K_aB_27 := hide (K_aB_22.out.below hb); clear K_aB_22; have R_s_aA_28 := hide (RVm_stable.here N_s_aA.out hb); clear N_s_aA; clear hb)
      | (go_at_call 15; refine (spec_SameVm _ _ m_aA m_aB _ R_s_aA_28.out N_s_aB.out).mono ?_; rintro e w900 ⟨rfl, hb⟩; have R_aA_29 := hide (RVm_stable.here R_aA_23.out hb); clear R_aA_23; have R_aB_30 := hide (RVm_stable.here R_aB_24.out hb); clear R_aB_24; have B_31 := hide (B_25.out.trans (hb.mono B_25.out.size)); clear B_25; have K_aA_32 := hide (K_aA_26.out.below hb); clear K_aA_26; have K_aB_33 := hide (K_aB_27.out.below hb); clear K_aB_27; have R_s_aA_34 := hide (RVm_stable.here R_s_aA_28.out hb); clear R_s_aA_28; have R_s_aB_35 := hide (RVm_stable.here N_s_aB.out hb); clear N_s_aB; clear hb))
  clear R_s_aA_34
  clear R_s_aB_35
  -- the copies
  have q_aA_0 := K_aA_32.out.cell 0
  have q_aA_1 := K_aA_32.out.cell 1
  have q_aA_2 := K_aA_32.out.cell 2
  have q_aA_3 := K_aA_32.out.cell 3
  have q_aA_4 := K_aA_32.out.cell 4
  have q_aA_5 := K_aA_32.out.cell 5
  have q_aA_6 := K_aA_32.out.cell 6
  go_wp2_with fail
  refine (toVm _ m_aA _ R_aA_29.out hy_aA).mono ?_
  rintro e w4 ⟨cs_x_aA, rfl, hrd, ho, hb⟩
  clear q_aA_0 q_aA_1 q_aA_2 q_aA_3 q_aA_4 q_aA_5 q_aA_6
  have hrd := RVm_stable.more hrd (Nat.zero_le _) (Nat.le_refl _)
  obtain ⟨x_aA_0, x_aA_1, x_aA_6, rfl, f0, f1, f6⟩ := id hrd
  obtain ⟨Ax_aA_0, Cx_aA_0, rfl⟩ := f0.form; clear f0
  obtain ⟨Ax_aA_1, Cx_aA_1, rfl⟩ := f1.form; clear f1
  obtain ⟨Ax_aA_6, Cx_aA_6, rfl⟩ := f6.form; clear f6
  have N_x_aA := hide hrd; clear hrd
  clear ho
  have R_aA_36 := hide (RVm_stable.here R_aA_29.out hb)
  clear R_aA_29
  have R_aB_37 := hide (RVm_stable.here R_aB_30.out hb)
  clear R_aB_30
  have B_38 := hide (B_31.out.trans (hb.mono B_31.out.size))
  clear B_31
  have K_aA_39 := hide (K_aA_32.out.below hb)
  clear K_aA_32
  have K_aB_40 := hide (K_aB_33.out.below hb)
  clear K_aB_33
  clear hb
  have hb := show Below (World.heap _).size _ _ from (Below.refl _ _).alloc (Nat.le_refl (World.heap w4).size) (.cells #[.slice Ax_aA_0 m_aA.qFrames.length Cx_aA_0, .slice Ax_aA_1 m_aA.qTrace.length Cx_aA_1, .int .i64 m_aA.qUsed, .int .i64 m_aA.qCode, .int .i64 m_aA.qValue, .int .i64 m_aA.qMade, .slice Ax_aA_6 m_aA.qNotes.length Cx_aA_6] 46)
  have kb := Bk.new w4 46 #[.slice Ax_aA_0 m_aA.qFrames.length Cx_aA_0, .slice Ax_aA_1 m_aA.qTrace.length Cx_aA_1, .int .i64 m_aA.qUsed, .int .i64 m_aA.qCode, .int .i64 m_aA.qValue, .int .i64 m_aA.qMade, .slice Ax_aA_6 m_aA.qNotes.length Cx_aA_6]
  have R_aA_41 := hide (RVm_stable.here R_aA_36.out hb)
  clear R_aA_36
  have R_aB_42 := hide (RVm_stable.here R_aB_37.out hb)
  clear R_aB_37
  have B_43 := hide (B_38.out.trans (hb.mono B_38.out.size))
  clear B_38
  have K_aA_44 := hide (K_aA_39.out.below hb)
  clear K_aA_39
  have K_aB_45 := hide (K_aB_40.out.below hb)
  clear K_aB_40
  have R_x_aA_46 := hide (RVm_stable.here N_x_aA.out hb)
  clear N_x_aA
  clear hb
  have K_x_aA := hide kb; clear kb
  have q_aB_0 := K_aB_45.out.cell 0
  have q_aB_1 := K_aB_45.out.cell 1
  have q_aB_2 := K_aB_45.out.cell 2
  have q_aB_3 := K_aB_45.out.cell 3
  have q_aB_4 := K_aB_45.out.cell 4
  have q_aB_5 := K_aB_45.out.cell 5
  have q_aB_6 := K_aB_45.out.cell 6
  go_wp2_with fail
  refine (toVm _ m_aB _ R_aB_42.out hy_aB).mono ?_
  rintro e w5 ⟨cs_x_aB, rfl, hrd, ho, hb⟩
  clear q_aB_0 q_aB_1 q_aB_2 q_aB_3 q_aB_4 q_aB_5 q_aB_6
  have hrd := RVm_stable.more hrd (Nat.zero_le _) (Nat.le_refl _)
  obtain ⟨x_aB_0, x_aB_1, x_aB_6, rfl, f0, f1, f6⟩ := id hrd
  obtain ⟨Ax_aB_0, Cx_aB_0, rfl⟩ := f0.form; clear f0
  obtain ⟨Ax_aB_1, Cx_aB_1, rfl⟩ := f1.form; clear f1
  obtain ⟨Ax_aB_6, Cx_aB_6, rfl⟩ := f6.form; clear f6
  have N_x_aB := hide hrd; clear hrd
  clear ho
  have R_aA_47 := hide (RVm_stable.here R_aA_41.out hb)
  clear R_aA_41
  have R_aB_48 := hide (RVm_stable.here R_aB_42.out hb)
  clear R_aB_42
  have B_49 := hide (B_43.out.trans (hb.mono B_43.out.size))
  clear B_43
  have K_aA_50 := hide (K_aA_44.out.below hb)
  clear K_aA_44
  have K_aB_51 := hide (K_aB_45.out.below hb)
  clear K_aB_45
  have R_x_aA_52 := hide (RVm_stable.here R_x_aA_46.out hb)
  clear R_x_aA_46
  have K_x_aA_53 := hide (K_x_aA.out.below hb)
  clear K_x_aA
  clear hb
  have hb := show Below (World.heap _).size _ _ from (Below.refl _ _).alloc (Nat.le_refl (World.heap w5).size) (.cells #[.slice Ax_aB_0 m_aB.qFrames.length Cx_aB_0, .slice Ax_aB_1 m_aB.qTrace.length Cx_aB_1, .int .i64 m_aB.qUsed, .int .i64 m_aB.qCode, .int .i64 m_aB.qValue, .int .i64 m_aB.qMade, .slice Ax_aB_6 m_aB.qNotes.length Cx_aB_6] 46)
  have kb := Bk.new w5 46 #[.slice Ax_aB_0 m_aB.qFrames.length Cx_aB_0, .slice Ax_aB_1 m_aB.qTrace.length Cx_aB_1, .int .i64 m_aB.qUsed, .int .i64 m_aB.qCode, .int .i64 m_aB.qValue, .int .i64 m_aB.qMade, .slice Ax_aB_6 m_aB.qNotes.length Cx_aB_6]
  have R_aA_54 := hide (RVm_stable.here R_aA_47.out hb)
  clear R_aA_47
  have R_aB_55 := hide (RVm_stable.here R_aB_48.out hb)
  clear R_aB_48
  have B_56 := hide (B_49.out.trans (hb.mono B_49.out.size))
  clear B_49
  have K_aA_57 := hide (K_aA_50.out.below hb)
  clear K_aA_50
  have K_aB_58 := hide (K_aB_51.out.below hb)
  clear K_aB_51
  have R_x_aA_59 := hide (RVm_stable.here R_x_aA_52.out hb)
  clear R_x_aA_52
  have K_x_aA_60 := hide (K_x_aA_53.out.below hb)
  clear K_x_aA_53
  have R_x_aB_61 := hide (RVm_stable.here N_x_aB.out hb)
  clear N_x_aB
  clear hb
  have K_x_aB := hide kb; clear kb
  -- the program
  have q_x_aA_0 := K_x_aA_60.out.cell 0
  have q_x_aA_1 := K_x_aA_60.out.cell 1
  have q_x_aA_2 := K_x_aA_60.out.cell 2
  have q_x_aA_3 := K_x_aA_60.out.cell 3
  have q_x_aA_4 := K_x_aA_60.out.cell 4
  have q_x_aA_5 := K_x_aA_60.out.cell 5
  have q_x_aA_6 := K_x_aA_60.out.cell 6
  have q_x_aB_0 := K_x_aB.out.cell 0
  have q_x_aB_1 := K_x_aB.out.cell 1
  have q_x_aB_2 := K_x_aB.out.cell 2
  have q_x_aB_3 := K_x_aB.out.cell 3
  have q_x_aB_4 := K_x_aB.out.cell 4
  have q_x_aB_5 := K_x_aB.out.cell 5
  have q_x_aB_6 := K_x_aB.out.cell 6
  go_wp2_with fail
  refine (impl_SameVm _ _ m_aA m_aB _ R_x_aA_59.out R_x_aB_61.out).mono ?_
  rintro e w901 ⟨rfl, hb⟩
  clear q_x_aA_0 q_x_aA_1 q_x_aA_2 q_x_aA_3 q_x_aA_4 q_x_aA_5 q_x_aA_6 q_x_aB_0 q_x_aB_1 q_x_aB_2 q_x_aB_3 q_x_aB_4 q_x_aB_5 q_x_aB_6
  have R_aA_62 := hide (RVm_stable.here R_aA_54.out hb)
  clear R_aA_54
  have R_aB_63 := hide (RVm_stable.here R_aB_55.out hb)
  clear R_aB_55
  have B_64 := hide (B_56.out.trans (hb.mono B_56.out.size))
  clear B_56
  have K_aA_65 := hide (K_aA_57.out.below hb)
  clear K_aA_57
  have K_aB_66 := hide (K_aB_58.out.below hb)
  clear K_aB_58
  have R_x_aA_67 := hide (RVm_stable.here R_x_aA_59.out hb)
  clear R_x_aA_59
  have K_x_aA_68 := hide (K_x_aA_60.out.below hb)
  clear K_x_aA_60
  have R_x_aB_69 := hide (RVm_stable.here R_x_aB_61.out hb)
  clear R_x_aB_61
  have K_x_aB_70 := hide (K_x_aB.out.below hb)
  clear K_x_aB
  clear hb
  -- the copies again
  go_wp2_with fail
  go_region_held3 (fun w' => w'.cell? ⟨w.heap.size, 0, none⟩ = some (.slice Aa_aA_0 m_aA.qFrames.length Ca_aA_0) ∧ w'.cell? ⟨w.heap.size, 1, none⟩ = some (.slice Aa_aA_1 m_aA.qTrace.length Ca_aA_1) ∧ w'.cell? ⟨w.heap.size, 2, none⟩ = some (.int .i64 m_aA.qUsed) ∧ w'.cell? ⟨w.heap.size, 3, none⟩ = some (.int .i64 m_aA.qCode) ∧ w'.cell? ⟨w.heap.size, 4, none⟩ = some (.int .i64 m_aA.qValue) ∧ w'.cell? ⟨w.heap.size, 5, none⟩ = some (.int .i64 m_aA.qMade) ∧ w'.cell? ⟨w.heap.size, 6, none⟩ = some (.slice Aa_aA_6 m_aA.qNotes.length Ca_aA_6) ∧ w'.cell? ⟨(World.heap w4).size, 0, none⟩ = some (.slice Ax_aA_0 m_aA.qFrames.length Cx_aA_0) ∧ w'.cell? ⟨(World.heap w4).size, 1, none⟩ = some (.slice Ax_aA_1 m_aA.qTrace.length Cx_aA_1) ∧ w'.cell? ⟨(World.heap w4).size, 2, none⟩ = some (.int .i64 m_aA.qUsed) ∧ w'.cell? ⟨(World.heap w4).size, 3, none⟩ = some (.int .i64 m_aA.qCode) ∧ w'.cell? ⟨(World.heap w4).size, 4, none⟩ = some (.int .i64 m_aA.qValue) ∧ w'.cell? ⟨(World.heap w4).size, 5, none⟩ = some (.int .i64 m_aA.qMade) ∧ w'.cell? ⟨(World.heap w4).size, 6, none⟩ = some (.slice Ax_aA_6 m_aA.qNotes.length Cx_aA_6)) (first | exact ⟨K_aA_65.out.cell 0, K_aA_65.out.cell 1, K_aA_65.out.cell 2, K_aA_65.out.cell 3, K_aA_65.out.cell 4, K_aA_65.out.cell 5, K_aA_65.out.cell 6, K_x_aA_68.out.cell 0, K_x_aA_68.out.cell 1, K_x_aA_68.out.cell 2, K_x_aA_68.out.cell 3, K_x_aA_68.out.cell 4, K_x_aA_68.out.cell 5, K_x_aA_68.out.cell 6⟩ | exact ⟨K_aA_74.out.cell 0, K_aA_74.out.cell 1, K_aA_74.out.cell 2, K_aA_74.out.cell 3, K_aA_74.out.cell 4, K_aA_74.out.cell 5, K_aA_74.out.cell 6, K_x_aA_77.out.cell 0, K_x_aA_77.out.cell 1, K_x_aA_77.out.cell 2, K_x_aA_77.out.cell 3, K_x_aA_77.out.cell 4, K_x_aA_77.out.cell 5, K_x_aA_77.out.cell 6⟩ | exact ⟨K_aA_83.out.cell 0, K_aA_83.out.cell 1, K_aA_83.out.cell 2, K_aA_83.out.cell 3, K_aA_83.out.cell 4, K_aA_83.out.cell 5, K_aA_83.out.cell 6, K_x_aA_86.out.cell 0, K_x_aA_86.out.cell 1, K_x_aA_86.out.cell 2, K_x_aA_86.out.cell 3, K_x_aA_86.out.cell 4, K_x_aA_86.out.cell 5, K_x_aA_86.out.cell 6⟩)
    (first
      | (go_at_call 16; refine (toVm _ m_aA (World.drew _) R_aA_62.out hy_aA).mono ?_; rintro e w7 ⟨cs_y_aA, rfl, hrd, ho, hb⟩; have hrd := RVm_stable.more hrd (Nat.zero_le _) (Nat.le_refl _); obtain ⟨y_aA_0, y_aA_1, y_aA_6, rfl, f0, f1, f6⟩ := id hrd; obtain ⟨Ay_aA_0, Cy_aA_0, rfl⟩ := f0.form; clear f0; obtain ⟨Ay_aA_1, Cy_aA_1, rfl⟩ := f1.form; clear f1; obtain ⟨Ay_aA_6, Cy_aA_6, rfl⟩ := f6.form; clear f6; have N_y_aA := hide hrd; clear hrd; clear ho; have R_aA_71 := hide (RVm_stable.here (w := World.drew _) (by exact R_aA_62.out) hb); clear R_aA_62; have R_aB_72 := hide (RVm_stable.here (w := World.drew _) (by exact R_aB_63.out) hb); clear R_aB_63; have B_73 := hide (B_64.out.drew.trans (hb.mono B_64.out.size)); clear B_64; have K_aA_74 := hide (Bk.below (w := World.drew _) (by exact K_aA_65.out) hb); clear K_aA_65; have K_aB_75 := hide (Bk.below (w := World.drew _) (by exact K_aB_66.out) hb); clear K_aB_66; have R_x_aA_76 := hide (RVm_stable.here (w := World.drew _) (by exact R_x_aA_67.out) hb); clear R_x_aA_67; have K_x_aA_77 := hide (Bk.below (w := World.drew _) (by exact K_x_aA_68.out) hb); clear K_x_aA_68; have R_x_aB_78 := hide (RVm_stable.here (w := World.drew _) (by exact R_x_aB_69.out) hb); clear R_x_aB_69; have K_x_aB_79 := hide (Bk.below (w := World.drew _) (by exact K_x_aB_70.out) hb); clear K_x_aB_70; clear hb)
      | (go_at_call 18; refine (eqVm _ _ m_aA _ R_x_aA_76.out N_y_aA.out).mono ?_; rintro e w917 ⟨rfl, hb⟩; have R_aA_80 := hide (RVm_stable.here R_aA_71.out hb); clear R_aA_71; have R_aB_81 := hide (RVm_stable.here R_aB_72.out hb); clear R_aB_72; have B_82 := hide (B_73.out.trans (hb.mono B_73.out.size)); clear B_73; have K_aA_83 := hide (K_aA_74.out.below hb); clear K_aA_74; have K_aB_84 := hide (K_aB_75.out.below hb); clear K_aB_75; have R_x_aA_85 := hide (RVm_stable.here R_x_aA_76.out hb); clear R_x_aA_76; have K_x_aA_86 := hide (K_x_aA_77.out.below hb); clear K_x_aA_77; have R_x_aB_87 := hide (RVm_stable.here R_x_aB_78.out hb); clear R_x_aB_78; have K_x_aB_88 := hide (K_x_aB_79.out.below hb); clear K_x_aB_79; have R_y_aA_89 := hide (RVm_stable.here N_y_aA.out hb); clear N_y_aA; clear hb))
  go_wp2_with fail
  go_region_held3 (fun w' => w'.cell? ⟨w.heap.size + 1, 0, none⟩ = some (.slice Aa_aB_0 m_aB.qFrames.length Ca_aB_0) ∧ w'.cell? ⟨w.heap.size + 1, 1, none⟩ = some (.slice Aa_aB_1 m_aB.qTrace.length Ca_aB_1) ∧ w'.cell? ⟨w.heap.size + 1, 2, none⟩ = some (.int .i64 m_aB.qUsed) ∧ w'.cell? ⟨w.heap.size + 1, 3, none⟩ = some (.int .i64 m_aB.qCode) ∧ w'.cell? ⟨w.heap.size + 1, 4, none⟩ = some (.int .i64 m_aB.qValue) ∧ w'.cell? ⟨w.heap.size + 1, 5, none⟩ = some (.int .i64 m_aB.qMade) ∧ w'.cell? ⟨w.heap.size + 1, 6, none⟩ = some (.slice Aa_aB_6 m_aB.qNotes.length Ca_aB_6) ∧ w'.cell? ⟨(World.heap w5).size, 0, none⟩ = some (.slice Ax_aB_0 m_aB.qFrames.length Cx_aB_0) ∧ w'.cell? ⟨(World.heap w5).size, 1, none⟩ = some (.slice Ax_aB_1 m_aB.qTrace.length Cx_aB_1) ∧ w'.cell? ⟨(World.heap w5).size, 2, none⟩ = some (.int .i64 m_aB.qUsed) ∧ w'.cell? ⟨(World.heap w5).size, 3, none⟩ = some (.int .i64 m_aB.qCode) ∧ w'.cell? ⟨(World.heap w5).size, 4, none⟩ = some (.int .i64 m_aB.qValue) ∧ w'.cell? ⟨(World.heap w5).size, 5, none⟩ = some (.int .i64 m_aB.qMade) ∧ w'.cell? ⟨(World.heap w5).size, 6, none⟩ = some (.slice Ax_aB_6 m_aB.qNotes.length Cx_aB_6)) (first | exact ⟨K_aB_84.out.cell 0, K_aB_84.out.cell 1, K_aB_84.out.cell 2, K_aB_84.out.cell 3, K_aB_84.out.cell 4, K_aB_84.out.cell 5, K_aB_84.out.cell 6, K_x_aB_88.out.cell 0, K_x_aB_88.out.cell 1, K_x_aB_88.out.cell 2, K_x_aB_88.out.cell 3, K_x_aB_88.out.cell 4, K_x_aB_88.out.cell 5, K_x_aB_88.out.cell 6⟩ | exact ⟨K_aB_94.out.cell 0, K_aB_94.out.cell 1, K_aB_94.out.cell 2, K_aB_94.out.cell 3, K_aB_94.out.cell 4, K_aB_94.out.cell 5, K_aB_94.out.cell 6, K_x_aB_98.out.cell 0, K_x_aB_98.out.cell 1, K_x_aB_98.out.cell 2, K_x_aB_98.out.cell 3, K_x_aB_98.out.cell 4, K_x_aB_98.out.cell 5, K_x_aB_98.out.cell 6⟩ | exact ⟨K_aB_104.out.cell 0, K_aB_104.out.cell 1, K_aB_104.out.cell 2, K_aB_104.out.cell 3, K_aB_104.out.cell 4, K_aB_104.out.cell 5, K_aB_104.out.cell 6, K_x_aB_108.out.cell 0, K_x_aB_108.out.cell 1, K_x_aB_108.out.cell 2, K_x_aB_108.out.cell 3, K_x_aB_108.out.cell 4, K_x_aB_108.out.cell 5, K_x_aB_108.out.cell 6⟩)
    (first
      | (go_at_call 16; refine (toVm _ m_aB (World.drew _) R_aB_81.out hy_aB).mono ?_; rintro e w8 ⟨cs_y_aB, rfl, hrd, ho, hb⟩; have hrd := RVm_stable.more hrd (Nat.zero_le _) (Nat.le_refl _); obtain ⟨y_aB_0, y_aB_1, y_aB_6, rfl, f0, f1, f6⟩ := id hrd; obtain ⟨Ay_aB_0, Cy_aB_0, rfl⟩ := f0.form; clear f0; obtain ⟨Ay_aB_1, Cy_aB_1, rfl⟩ := f1.form; clear f1; obtain ⟨Ay_aB_6, Cy_aB_6, rfl⟩ := f6.form; clear f6; have N_y_aB := hide hrd; clear hrd; clear ho; have R_aA_90 := hide (RVm_stable.here (w := World.drew _) (by exact R_aA_80.out) hb); clear R_aA_80; have R_aB_91 := hide (RVm_stable.here (w := World.drew _) (by exact R_aB_81.out) hb); clear R_aB_81; have B_92 := hide (B_82.out.drew.trans (hb.mono B_82.out.size)); clear B_82; have K_aA_93 := hide (Bk.below (w := World.drew _) (by exact K_aA_83.out) hb); clear K_aA_83; have K_aB_94 := hide (Bk.below (w := World.drew _) (by exact K_aB_84.out) hb); clear K_aB_84; have R_x_aA_95 := hide (RVm_stable.here (w := World.drew _) (by exact R_x_aA_85.out) hb); clear R_x_aA_85; have K_x_aA_96 := hide (Bk.below (w := World.drew _) (by exact K_x_aA_86.out) hb); clear K_x_aA_86; have R_x_aB_97 := hide (RVm_stable.here (w := World.drew _) (by exact R_x_aB_87.out) hb); clear R_x_aB_87; have K_x_aB_98 := hide (Bk.below (w := World.drew _) (by exact K_x_aB_88.out) hb); clear K_x_aB_88; have R_y_aA_99 := hide (RVm_stable.here (w := World.drew _) (by exact R_y_aA_89.out) hb); clear R_y_aA_89; clear hb)
      | (go_at_call 18; refine (eqVm _ _ m_aB _ R_x_aB_97.out N_y_aB.out).mono ?_; rintro e w918 ⟨rfl, hb⟩; have R_aA_100 := hide (RVm_stable.here R_aA_90.out hb); clear R_aA_90; have R_aB_101 := hide (RVm_stable.here R_aB_91.out hb); clear R_aB_91; have B_102 := hide (B_92.out.trans (hb.mono B_92.out.size)); clear B_92; have K_aA_103 := hide (K_aA_93.out.below hb); clear K_aA_93; have K_aB_104 := hide (K_aB_94.out.below hb); clear K_aB_94; have R_x_aA_105 := hide (RVm_stable.here R_x_aA_95.out hb); clear R_x_aA_95; have K_x_aA_106 := hide (K_x_aA_96.out.below hb); clear K_x_aA_96; have R_x_aB_107 := hide (RVm_stable.here R_x_aB_97.out hb); clear R_x_aB_97; have K_x_aB_108 := hide (K_x_aB_98.out.below hb); clear K_x_aB_98; have R_y_aA_109 := hide (RVm_stable.here R_y_aA_99.out hb); clear R_y_aA_99; have R_y_aB_110 := hide (RVm_stable.here N_y_aB.out hb); clear N_y_aB; clear hb))
  go_wp2_with fail
  go_ret
  exact ⟨rfl, B_102.out⟩
end Go.Proofs.Ytaebmliolpgmdaa
