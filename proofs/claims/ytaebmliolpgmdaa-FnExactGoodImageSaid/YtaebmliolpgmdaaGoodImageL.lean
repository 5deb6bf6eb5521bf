
/- FnExactGoodImage: the call returns true. No condition. -/
import Derived.Test.YtaebmliolpgmdaaGc8
import Derived.Test.YtaebmliolpgmdaaOpImage
import Derived.Test.YtaebmliolpgmdaaOpen3
import Derived.Test.YtaebmliolpgmdaaBlk
import Derived.Test.YtaebmliolpgmdaaMem
import Derived.Deep.RegionHeld3
import Derived.Deep.RegionWith
set_option linter.unusedSimpArgs false
set_option linter.unusedVariables false
set_option maxRecDepth 100000
namespace Go.Proofs.Ytaebmliolpgmdaa
open Go.RowKit Go.WideShapes Go.ChangeShapes

set_option maxHeartbeats 3200000 in
theorem law_FnExactGoodImage (w : World) (v_aX : Value) (h_aX : IsImage w v_aX) :
    Calls Try.prog 4 #[v_aX] w fun e w' => e = .returned (.bool true) ∧ Below w.heap.size w w' := by
  obtain ⟨cs_aX, m_aX, rfl, R_aX⟩ := h_aX
  obtain ⟨a_aX_0, rfl, f0⟩ := id R_aX
  obtain ⟨Aa_aX_0, Ca_aX_0, rfl⟩ := f0.form; clear f0
  have H_aX := hide R_aX; clear R_aX
  have Hb_0 := hide (Below.refl w.heap.size w)
  have hb : Below (World.heap w).size w (World.alloc w (.cells #[.slice Aa_aX_0 m_aX.qCodes.length Ca_aX_0] 24)) := (Below.refl _ _).alloc (Nat.le_refl _) _
  have kb := Bk.new w 24 #[.slice Aa_aX_0 m_aX.qCodes.length Ca_aX_0]
  have R_aX_1 := hide (RImage_stable.here H_aX.out hb)
  clear H_aX
  have B_2 := hide (Hb_0.out.trans (hb.mono Hb_0.out.size))
  clear Hb_0
  clear hb
  have K_aX := hide kb; clear kb
  -- enter
  go_enter Try.func4, Try.ntmps4
  -- the size of aX
  have q_aX_0 := K_aX.out.cell 0
  go_wp2_with fail
  refine (szImage _ m_aX _ _ R_aX_1.out (by omega) (by omega)).mono ?_
  rintro e w100 ⟨rfl, hb⟩
  clear q_aX_0
  have R_aX_3 := hide (RImage_stable.here R_aX_1.out hb)
  clear R_aX_1
  have B_4 := hide (B_2.out.trans (hb.mono B_2.out.size))
  clear B_2
  have K_aX_5 := hide (K_aX.out.below hb)
  clear K_aX
  clear hb
  by_cases hz_aX : (szImageN m_aX : Int) ≤ 1048576
  case neg => rw [subL_no hz_aX]; go_wp2; go_ret; exact ⟨rfl, B_4.out⟩
  rw [subL_yes hz_aX]
  have hy_aX : szImageN m_aX ≤ 1048576 := by omega
  -- the reference
  have q_aX_0 := K_aX_5.out.cell 0
  go_wp2_with fail
  refine (toImage _ m_aX _ R_aX_3.out hy_aX).mono ?_
  rintro e w2 ⟨cs_s_aX, rfl, hrd, ho, hb⟩
  clear q_aX_0
  have hrd := RImage_stable.more hrd (Nat.zero_le _) (Nat.le_refl _)
  obtain ⟨s_aX_0, rfl, f0⟩ := id hrd
  obtain ⟨As_aX_0, Cs_aX_0, rfl⟩ := f0.form; clear f0
  have N_s_aX := hide hrd; clear hrd
  clear ho
  have R_aX_6 := hide (RImage_stable.here R_aX_3.out hb)
  clear R_aX_3
  have B_7 := hide (B_4.out.trans (hb.mono B_4.out.size))
  clear B_4
  have K_aX_8 := hide (K_aX_5.out.below hb)
  clear K_aX_5
  clear hb
  have q_aX_0 := K_aX_8.out.cell 0
  go_wp2_with fail
  refine (spec_GoodImage _ m_aX _ N_s_aX.out).mono ?_
  rintro e w900 ⟨rfl, hb⟩
  clear q_aX_0
  have R_aX_9 := hide (RImage_stable.here R_aX_6.out hb)
  clear R_aX_6
  have B_10 := hide (B_7.out.trans (hb.mono B_7.out.size))
  clear B_7
  have K_aX_11 := hide (K_aX_8.out.below hb)
  clear K_aX_8
  have R_s_aX_12 := hide (RImage_stable.here N_s_aX.out hb)
  clear N_s_aX
  clear hb
  clear R_s_aX_12
  -- the copies
  have q_aX_0 := K_aX_11.out.cell 0
  go_wp2_with fail
  refine (toImage _ m_aX _ R_aX_9.out hy_aX).mono ?_
  rintro e w3 ⟨cs_x_aX, rfl, hrd, ho, hb⟩
  clear q_aX_0
  have hrd := RImage_stable.more hrd (Nat.zero_le _) (Nat.le_refl _)
  obtain ⟨x_aX_0, rfl, f0⟩ := id hrd
  obtain ⟨Ax_aX_0, Cx_aX_0, rfl⟩ := f0.form; clear f0
  have N_x_aX := hide hrd; clear hrd
  clear ho
  have R_aX_13 := hide (RImage_stable.here R_aX_9.out hb)
  clear R_aX_9
  have B_14 := hide (B_10.out.trans (hb.mono B_10.out.size))
  clear B_10
  have K_aX_15 := hide (K_aX_11.out.below hb)
  clear K_aX_11
  clear hb
  have hb := show Below (World.heap _).size _ _ from (Below.refl _ _).alloc (Nat.le_refl (World.heap w3).size) (.cells #[.slice Ax_aX_0 m_aX.qCodes.length Cx_aX_0] 30)
  have kb := Bk.new w3 30 #[.slice Ax_aX_0 m_aX.qCodes.length Cx_aX_0]
  have R_aX_16 := hide (RImage_stable.here R_aX_13.out hb)
  clear R_aX_13
  have B_17 := hide (B_14.out.trans (hb.mono B_14.out.size))
  clear B_14
  have K_aX_18 := hide (K_aX_15.out.below hb)
  clear K_aX_15
  have R_x_aX_19 := hide (RImage_stable.here N_x_aX.out hb)
  clear N_x_aX
  clear hb
  have K_x_aX := hide kb; clear kb
  -- the program
  have q_x_aX_0 := K_x_aX.out.cell 0
  go_wp2_with fail
  refine (impl_GoodImage _ m_aX _ R_x_aX_19.out).mono ?_
  rintro e w901 ⟨rfl, hb⟩
  clear q_x_aX_0
  have R_aX_20 := hide (RImage_stable.here R_aX_16.out hb)
  clear R_aX_16
  have B_21 := hide (B_17.out.trans (hb.mono B_17.out.size))
  clear B_17
  have K_aX_22 := hide (K_aX_18.out.below hb)
  clear K_aX_18
  have R_x_aX_23 := hide (RImage_stable.here R_x_aX_19.out hb)
  clear R_x_aX_19
  have K_x_aX_24 := hide (K_x_aX.out.below hb)
  clear K_x_aX
  clear hb
  -- the copies again
  go_wp2_with fail
  go_region_held3 (fun w' => w'.cell? ⟨w.heap.size, 0, none⟩ = some (.slice Aa_aX_0 m_aX.qCodes.length Ca_aX_0) ∧ w'.cell? ⟨(World.heap w3).size, 0, none⟩ = some (.slice Ax_aX_0 m_aX.qCodes.length Cx_aX_0)) (first | exact ⟨K_aX_22.out.cell 0, K_x_aX_24.out.cell 0⟩ | exact ⟨K_aX_27.out.cell 0, K_x_aX_29.out.cell 0⟩ | exact ⟨K_aX_32.out.cell 0, K_x_aX_34.out.cell 0⟩)
    (first
      | (go_at_call 9; refine (toImage _ m_aX (World.drew _) R_aX_20.out hy_aX).mono ?_; rintro e w5 ⟨cs_y_aX, rfl, hrd, ho, hb⟩; have hrd := RImage_stable.more hrd (Nat.zero_le _) (Nat.le_refl _); obtain ⟨y_aX_0, rfl, f0⟩ := id hrd; obtain ⟨Ay_aX_0, Cy_aX_0, rfl⟩ := f0.form; clear f0; have N_y_aX := hide hrd; clear hrd; clear ho; have R_aX_25 := hide (RImage_stable.here (w := World.drew _) (by exact R_aX_20.out) hb); clear R_aX_20; have B_26 := hide (B_21.out.drew.trans (hb.mono B_21.out.size)); clear B_21; have K_aX_27 := hide (Bk.below (w := World.drew _) (by exact K_aX_22.out) hb); clear K_aX_22; have R_x_aX_28 := hide (RImage_stable.here (w := World.drew _) (by exact R_x_aX_23.out) hb); clear R_x_aX_23; have K_x_aX_29 := hide (Bk.below (w := World.drew _) (by exact K_x_aX_24.out) hb); clear K_x_aX_24; clear hb)
      | (go_at_call 11; refine (eqImage _ _ m_aX _ R_x_aX_28.out N_y_aX.out).mono ?_; rintro e w915 ⟨rfl, hb⟩; have R_aX_30 := hide (RImage_stable.here R_aX_25.out hb); clear R_aX_25; have B_31 := hide (B_26.out.trans (hb.mono B_26.out.size)); clear B_26; have K_aX_32 := hide (K_aX_27.out.below hb); clear K_aX_27; have R_x_aX_33 := hide (RImage_stable.here R_x_aX_28.out hb); clear R_x_aX_28; have K_x_aX_34 := hide (K_x_aX_29.out.below hb); clear K_x_aX_29; have R_y_aX_35 := hide (RImage_stable.here N_y_aX.out hb); clear N_y_aX; clear hb))
  go_wp2_with fail
  go_ret
  exact ⟨rfl, B_31.out⟩
end Go.Proofs.Ytaebmliolpgmdaa
