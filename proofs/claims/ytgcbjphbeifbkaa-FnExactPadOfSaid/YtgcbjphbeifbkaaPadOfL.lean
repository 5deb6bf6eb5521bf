
/- FnExactPadOf: the call returns true. No condition. -/
import Derived.Test.YtgcbjphbeifbkaaPd
import Derived.Test.YtgcbjphbeifbkaaOpCode
import Derived.Test.YtgcbjphbeifbkaaBlk
import Derived.Test.YtgcbjphbeifbkaaHere
import Derived.Deep.RegionHeld3
import Derived.Deep.RegionWith
set_option linter.unusedSimpArgs false
set_option linter.unusedVariables false
set_option maxRecDepth 100000
namespace Go.Proofs.Ytgcbjphbeifbkaa
open Go.RowKit Go.WideShapes Go.ChangeShapes

set_option maxHeartbeats 3200000 in
theorem law_FnExactPadOf (w : World) (v_aC : Value) (h_aC : IsCode w v_aC) :
    Calls Try.prog 8 #[v_aC] w fun e w' => e = .returned (.bool true) ∧ Below w.heap.size w w' := by
  obtain ⟨cs_aC, m_aC, rfl, R_aC⟩ := h_aC
  obtain ⟨a_aC_2, a_aC_3, a_aC_4, rfl, f2, f3, f4⟩ := id R_aC
  obtain ⟨Aa_aC_2, Ca_aC_2, rfl⟩ := f2.form; clear f2
  obtain ⟨Aa_aC_3, Ca_aC_3, rfl⟩ := f3.form; clear f3
  obtain ⟨Aa_aC_4, Ca_aC_4, rfl⟩ := f4.form; clear f4
  have H_aC := hide R_aC; clear R_aC
  have Hb_0 := hide (Below.refl w.heap.size w)
  have hb : Below (World.heap w).size w (World.alloc w (.cells #[.int .i64 m_aC.qParams, .int .i64 m_aC.qVars, .slice Aa_aC_2 m_aC.qSites.length Ca_aC_2, .slice Aa_aC_3 m_aC.qIns.length Ca_aC_3, .slice Aa_aC_4 m_aC.qRows.length Ca_aC_4] 53)) := (Below.refl _ _).alloc (Nat.le_refl _) _
  have kb := Bk.new w 53 #[.int .i64 m_aC.qParams, .int .i64 m_aC.qVars, .slice Aa_aC_2 m_aC.qSites.length Ca_aC_2, .slice Aa_aC_3 m_aC.qIns.length Ca_aC_3, .slice Aa_aC_4 m_aC.qRows.length Ca_aC_4]
  have R_aC_1 := hide (RCode_stable.here H_aC.out hb)
  clear H_aC
  have B_2 := hide (Hb_0.out.trans (hb.mono Hb_0.out.size))
  clear Hb_0
  clear hb
  have K_aC := hide kb; clear kb
  -- enter
  go_enter Try.func8, Try.ntmps8
  -- the size of aC
  have q_aC_0 := K_aC.out.cell 0
  have q_aC_1 := K_aC.out.cell 1
  have q_aC_2 := K_aC.out.cell 2
  have q_aC_3 := K_aC.out.cell 3
  have q_aC_4 := K_aC.out.cell 4
  go_wp2_with fail
  refine (szCode _ m_aC _ _ R_aC_1.out (by omega) (by omega)).mono ?_
  rintro e w100 ⟨rfl, hb⟩
  clear q_aC_0 q_aC_1 q_aC_2 q_aC_3 q_aC_4
  have R_aC_3 := hide (RCode_stable.here R_aC_1.out hb)
  clear R_aC_1
  have B_4 := hide (B_2.out.trans (hb.mono B_2.out.size))
  clear B_2
  have K_aC_5 := hide (K_aC.out.below hb)
  clear K_aC
  clear hb
  by_cases hz_aC : (szCodeN m_aC : Int) ≤ 1048576
  case neg => rw [subL_no hz_aC]; go_wp2; go_ret; exact ⟨rfl, B_4.out⟩
  rw [subL_yes hz_aC]
  have hy_aC : szCodeN m_aC ≤ 1048576 := by omega
  -- the reference
  have q_aC_0 := K_aC_5.out.cell 0
  have q_aC_1 := K_aC_5.out.cell 1
  have q_aC_2 := K_aC_5.out.cell 2
  have q_aC_3 := K_aC_5.out.cell 3
  have q_aC_4 := K_aC_5.out.cell 4
  go_wp2_with fail
  refine (toCode _ m_aC _ R_aC_3.out hy_aC).mono ?_
  rintro e w2 ⟨cs_s_aC, rfl, hrd, ho, hb⟩
  clear q_aC_0 q_aC_1 q_aC_2 q_aC_3 q_aC_4
  have hrd := RCode_stable.more hrd (Nat.zero_le _) (Nat.le_refl _)
  obtain ⟨s_aC_2, s_aC_3, s_aC_4, rfl, f2, f3, f4⟩ := id hrd
  obtain ⟨As_aC_2, Cs_aC_2, rfl⟩ := f2.form; clear f2
  obtain ⟨As_aC_3, Cs_aC_3, rfl⟩ := f3.form; clear f3
  obtain ⟨As_aC_4, Cs_aC_4, rfl⟩ := f4.form; clear f4
  have N_s_aC := hide hrd; clear hrd
  clear ho
  have R_aC_6 := hide (RCode_stable.here R_aC_3.out hb)
  clear R_aC_3
  have B_7 := hide (B_4.out.trans (hb.mono B_4.out.size))
  clear B_4
  have K_aC_8 := hide (K_aC_5.out.below hb)
  clear K_aC_5
  clear hb
  have q_aC_0 := K_aC_8.out.cell 0
  have q_aC_1 := K_aC_8.out.cell 1
  have q_aC_2 := K_aC_8.out.cell 2
  have q_aC_3 := K_aC_8.out.cell 3
  have q_aC_4 := K_aC_8.out.cell 4
  go_wp2_with fail
  refine (spec_PadOf _ m_aC _ N_s_aC.out).mono ?_
  rintro e w900 ⟨rfl, hb⟩
  clear q_aC_0 q_aC_1 q_aC_2 q_aC_3 q_aC_4
  have R_aC_9 := hide (RCode_stable.here R_aC_6.out hb)
  clear R_aC_6
  have B_10 := hide (B_7.out.trans (hb.mono B_7.out.size))
  clear B_7
  have K_aC_11 := hide (K_aC_8.out.below hb)
  clear K_aC_8
  have R_s_aC_12 := hide (RCode_stable.here N_s_aC.out hb)
  clear N_s_aC
  clear hb
  clear R_s_aC_12
  -- the copies
  have q_aC_0 := K_aC_11.out.cell 0
  have q_aC_1 := K_aC_11.out.cell 1
  have q_aC_2 := K_aC_11.out.cell 2
  have q_aC_3 := K_aC_11.out.cell 3
  have q_aC_4 := K_aC_11.out.cell 4
  go_wp2_with fail
  refine (toCode _ m_aC _ R_aC_9.out hy_aC).mono ?_
  rintro e w3 ⟨cs_x_aC, rfl, hrd, ho, hb⟩
  clear q_aC_0 q_aC_1 q_aC_2 q_aC_3 q_aC_4
  have hrd := RCode_stable.more hrd (Nat.zero_le _) (Nat.le_refl _)
  obtain ⟨x_aC_2, x_aC_3, x_aC_4, rfl, f2, f3, f4⟩ := id hrd
  obtain ⟨Ax_aC_2, Cx_aC_2, rfl⟩ := f2.form; clear f2
  obtain ⟨Ax_aC_3, Cx_aC_3, rfl⟩ := f3.form; clear f3
  obtain ⟨Ax_aC_4, Cx_aC_4, rfl⟩ := f4.form; clear f4
  have N_x_aC := hide hrd; clear hrd
  clear ho
  have R_aC_13 := hide (RCode_stable.here R_aC_9.out hb)
  clear R_aC_9
  have B_14 := hide (B_10.out.trans (hb.mono B_10.out.size))
  clear B_10
  have K_aC_15 := hide (K_aC_11.out.below hb)
  clear K_aC_11
  clear hb
  have hb := show Below (World.heap _).size _ _ from (Below.refl _ _).alloc (Nat.le_refl (World.heap w3).size) (.cells #[.int .i64 m_aC.qParams, .int .i64 m_aC.qVars, .slice Ax_aC_2 m_aC.qSites.length Cx_aC_2, .slice Ax_aC_3 m_aC.qIns.length Cx_aC_3, .slice Ax_aC_4 m_aC.qRows.length Cx_aC_4] 58)
  have kb := Bk.new w3 58 #[.int .i64 m_aC.qParams, .int .i64 m_aC.qVars, .slice Ax_aC_2 m_aC.qSites.length Cx_aC_2, .slice Ax_aC_3 m_aC.qIns.length Cx_aC_3, .slice Ax_aC_4 m_aC.qRows.length Cx_aC_4]
  have R_aC_16 := hide (RCode_stable.here R_aC_13.out hb)
  clear R_aC_13
  have B_17 := hide (B_14.out.trans (hb.mono B_14.out.size))
  clear B_14
  have K_aC_18 := hide (K_aC_15.out.below hb)
  clear K_aC_15
  have R_x_aC_19 := hide (RCode_stable.here N_x_aC.out hb)
  clear N_x_aC
  clear hb
  have K_x_aC := hide kb; clear kb
  -- the program
  have q_x_aC_0 := K_x_aC.out.cell 0
  have q_x_aC_1 := K_x_aC.out.cell 1
  have q_x_aC_2 := K_x_aC.out.cell 2
  have q_x_aC_3 := K_x_aC.out.cell 3
  have q_x_aC_4 := K_x_aC.out.cell 4
  go_wp2_with fail
  refine (impl_PadOf _ m_aC _ R_x_aC_19.out).mono ?_
  rintro e w901 ⟨rfl, hb⟩
  clear q_x_aC_0 q_x_aC_1 q_x_aC_2 q_x_aC_3 q_x_aC_4
  have R_aC_20 := hide (RCode_stable.here R_aC_16.out hb)
  clear R_aC_16
  have B_21 := hide (B_17.out.trans (hb.mono B_17.out.size))
  clear B_17
  have K_aC_22 := hide (K_aC_18.out.below hb)
  clear K_aC_18
  have R_x_aC_23 := hide (RCode_stable.here R_x_aC_19.out hb)
  clear R_x_aC_19
  have K_x_aC_24 := hide (K_x_aC.out.below hb)
  clear K_x_aC
  clear hb
  -- the copies again
  go_wp2_with fail
  go_region_held3 (fun w' => w'.cell? ⟨w.heap.size, 0, none⟩ = some (.int .i64 m_aC.qParams) ∧ w'.cell? ⟨w.heap.size, 1, none⟩ = some (.int .i64 m_aC.qVars) ∧ w'.cell? ⟨w.heap.size, 2, none⟩ = some (.slice Aa_aC_2 m_aC.qSites.length Ca_aC_2) ∧ w'.cell? ⟨w.heap.size, 3, none⟩ = some (.slice Aa_aC_3 m_aC.qIns.length Ca_aC_3) ∧ w'.cell? ⟨w.heap.size, 4, none⟩ = some (.slice Aa_aC_4 m_aC.qRows.length Ca_aC_4) ∧ w'.cell? ⟨(World.heap w3).size, 0, none⟩ = some (.int .i64 m_aC.qParams) ∧ w'.cell? ⟨(World.heap w3).size, 1, none⟩ = some (.int .i64 m_aC.qVars) ∧ w'.cell? ⟨(World.heap w3).size, 2, none⟩ = some (.slice Ax_aC_2 m_aC.qSites.length Cx_aC_2) ∧ w'.cell? ⟨(World.heap w3).size, 3, none⟩ = some (.slice Ax_aC_3 m_aC.qIns.length Cx_aC_3) ∧ w'.cell? ⟨(World.heap w3).size, 4, none⟩ = some (.slice Ax_aC_4 m_aC.qRows.length Cx_aC_4)) (first | exact ⟨K_aC_22.out.cell 0, K_aC_22.out.cell 1, K_aC_22.out.cell 2, K_aC_22.out.cell 3, K_aC_22.out.cell 4, K_x_aC_24.out.cell 0, K_x_aC_24.out.cell 1, K_x_aC_24.out.cell 2, K_x_aC_24.out.cell 3, K_x_aC_24.out.cell 4⟩ | exact ⟨K_aC_27.out.cell 0, K_aC_27.out.cell 1, K_aC_27.out.cell 2, K_aC_27.out.cell 3, K_aC_27.out.cell 4, K_x_aC_29.out.cell 0, K_x_aC_29.out.cell 1, K_x_aC_29.out.cell 2, K_x_aC_29.out.cell 3, K_x_aC_29.out.cell 4⟩ | exact ⟨K_aC_32.out.cell 0, K_aC_32.out.cell 1, K_aC_32.out.cell 2, K_aC_32.out.cell 3, K_aC_32.out.cell 4, K_x_aC_34.out.cell 0, K_x_aC_34.out.cell 1, K_x_aC_34.out.cell 2, K_x_aC_34.out.cell 3, K_x_aC_34.out.cell 4⟩)
    (first
      | (go_at_call 33; refine (toCode _ m_aC (World.drew _) R_aC_20.out hy_aC).mono ?_; rintro e w5 ⟨cs_y_aC, rfl, hrd, ho, hb⟩; have hrd := RCode_stable.more hrd (Nat.zero_le _) (Nat.le_refl _); obtain ⟨y_aC_2, y_aC_3, y_aC_4, rfl, f2, f3, f4⟩ := id hrd; obtain ⟨Ay_aC_2, Cy_aC_2, rfl⟩ := f2.form; clear f2; obtain ⟨Ay_aC_3, Cy_aC_3, rfl⟩ := f3.form; clear f3; obtain ⟨Ay_aC_4, Cy_aC_4, rfl⟩ := f4.form; clear f4; have N_y_aC := hide hrd; clear hrd; clear ho; have R_aC_25 := hide (RCode_stable.here (w := World.drew _) R_aC_20.out hb); clear R_aC_20; have B_26 := hide (B_21.out.drew.trans (hb.mono B_21.out.size)); clear B_21; have K_aC_27 := hide (K_aC_22.out.below (w := World.drew _) hb); clear K_aC_22; have R_x_aC_28 := hide (RCode_stable.here (w := World.drew _) R_x_aC_23.out hb); clear R_x_aC_23; have K_x_aC_29 := hide (K_x_aC_24.out.below (w := World.drew _) hb); clear K_x_aC_24; clear hb)
      | (go_at_call 35; refine (eqCode _ _ m_aC _ R_x_aC_28.out N_y_aC.out).mono ?_; rintro e w915 ⟨rfl, hb⟩; have R_aC_30 := hide (RCode_stable.here R_aC_25.out hb); clear R_aC_25; have B_31 := hide (B_26.out.trans (hb.mono B_26.out.size)); clear B_26; have K_aC_32 := hide (K_aC_27.out.below hb); clear K_aC_27; have R_x_aC_33 := hide (RCode_stable.here R_x_aC_28.out hb); clear R_x_aC_28; have K_x_aC_34 := hide (K_x_aC_29.out.below hb); clear K_x_aC_29; have R_y_aC_35 := hide (RCode_stable.here N_y_aC.out hb); clear N_y_aC; clear hb))
  go_wp2_with fail
  go_ret
  exact ⟨rfl, B_31.out⟩
end Go.Proofs.Ytgcbjphbeifbkaa
