
/- FnExactTakesPuts: the call returns true. No condition. -/
import Derived.Test.YtgcbjphbeifbkaaTp2
import Derived.Test.YtgcbjphbeifbkaaOpImage
import Derived.Test.YtgcbjphbeifbkaaOpen3
import Derived.Test.YtgcbjphbeifbkaaBlk
import Derived.Test.YtgcbjphbeifbkaaHere
import Derived.Deep.RegionHeld3
import Derived.Deep.RegionWith
set_option linter.unusedSimpArgs false
set_option linter.unusedVariables false
set_option maxRecDepth 100000
namespace Go.Proofs.Ytgcbjphbeifbkaa
open Go.RowKit Go.WideShapes Go.ChangeShapes

set_option maxHeartbeats 3200000 in
theorem law_FnExactTakesPuts (w : World) (v_aX : Value) (h_aX : IsImage w v_aX) (v_aI : Value) (h_aI : IsPair w v_aI) :
    Calls Try.prog 9 #[v_aX, v_aI] w fun e w' => e = .returned (.bool true) ∧ Below w.heap.size w w' := by
  obtain ⟨cs_aX, m_aX, rfl, R_aX⟩ := h_aX
  obtain ⟨a_aX_0, rfl, f0⟩ := id R_aX
  obtain ⟨Aa_aX_0, Ca_aX_0, rfl⟩ := f0.form; clear f0
  obtain ⟨⟨o_aI, n_aI⟩, rfl, hk_aI⟩ := h_aI
  have H_aX := hide R_aX; clear R_aX
  have Hb_0 := hide (Below.refl w.heap.size w)
  try dsimp only
  have hb : Below (World.heap w).size w (World.alloc w (.cells #[.slice Aa_aX_0 m_aX.qCodes.length Ca_aX_0] 64)) := (Below.refl _ _).alloc (Nat.le_refl _) _
  have kb := Bk.new w 64 #[.slice Aa_aX_0 m_aX.qCodes.length Ca_aX_0]
  have R_aX_1 := hide (RImage_stable.here H_aX.out hb)
  clear H_aX
  have B_2 := hide (Hb_0.out.trans (hb.mono Hb_0.out.size))
  clear Hb_0
  clear hb
  have K_aX := hide kb; clear kb
  have hb : Below (World.heap (World.alloc w (.cells #[.slice Aa_aX_0 m_aX.qCodes.length Ca_aX_0] 64))).size (World.alloc w (.cells #[.slice Aa_aX_0 m_aX.qCodes.length Ca_aX_0] 64)) (World.alloc (World.alloc w (.cells #[.slice Aa_aX_0 m_aX.qCodes.length Ca_aX_0] 64)) (.cells #[.int .i64 o_aI, .int .i64 n_aI] 65)) := (Below.refl _ _).alloc (Nat.le_refl _) _
  have kb := Bk.new (World.alloc w (.cells #[.slice Aa_aX_0 m_aX.qCodes.length Ca_aX_0] 64)) 65 #[.int .i64 o_aI, .int .i64 n_aI]
  simp only [World.size_alloc] at kb
  have R_aX_3 := hide (RImage_stable.here R_aX_1.out hb)
  clear R_aX_1
  have B_4 := hide (B_2.out.trans (hb.mono B_2.out.size))
  clear B_2
  have K_aX_5 := hide (K_aX.out.below hb)
  clear K_aX
  clear hb
  have K_aI := hide kb; clear kb
  -- enter
  go_enter Try.func9, Try.ntmps9
  -- the size of aX
  have q_aX_0 := K_aX_5.out.cell 0
  go_wp2_with fail
  refine (szImage _ m_aX _ _ R_aX_3.out (by omega) (by omega)).mono ?_
  rintro e w100 ⟨rfl, hb⟩
  clear q_aX_0
  have R_aX_6 := hide (RImage_stable.here R_aX_3.out hb)
  clear R_aX_3
  have B_7 := hide (B_4.out.trans (hb.mono B_4.out.size))
  clear B_4
  have K_aX_8 := hide (K_aX_5.out.below hb)
  clear K_aX_5
  have K_aI_9 := hide (K_aI.out.below hb)
  clear K_aI
  clear hb
  by_cases hz_aX : (szImageN m_aX : Int) ≤ 1048576
  case neg => rw [subL_no hz_aX]; go_wp2; go_ret; exact ⟨rfl, B_7.out⟩
  rw [subL_yes hz_aX]
  have hy_aX : szImageN m_aX ≤ 1048576 := by omega
  -- the reference
  go_wp2_with fail
  go_region_held3 (fun w' => w'.cell? ⟨w.heap.size, 0, none⟩ = some (.slice Aa_aX_0 m_aX.qCodes.length Ca_aX_0) ∧ w'.cell? ⟨w.heap.size + 1, 0, none⟩ = some (.int .i64 o_aI) ∧ w'.cell? ⟨w.heap.size + 1, 1, none⟩ = some (.int .i64 n_aI)) (first | exact ⟨K_aX_8.out.cell 0, K_aI_9.out.cell 0, K_aI_9.out.cell 1⟩ | exact ⟨K_aX_12.out.cell 0, K_aI_13.out.cell 0, K_aI_13.out.cell 1⟩ | exact ⟨K_aX_16.out.cell 0, K_aI_17.out.cell 0, K_aI_17.out.cell 1⟩ | exact ⟨K_aX_21.out.cell 0, K_aI_22.out.cell 0, K_aI_22.out.cell 1⟩)
    (first
      | (go_at_call 38; refine (toImage _ m_aX (World.drew _) R_aX_6.out hy_aX).mono ?_; rintro e w2 ⟨cs_s_aX, rfl, hrd, ho, hb⟩; have hrd := RImage_stable.more hrd (Nat.zero_le _) (Nat.le_refl _); obtain ⟨s_aX_0, rfl, f0⟩ := id hrd; obtain ⟨As_aX_0, Cs_aX_0, rfl⟩ := f0.form; clear f0; have N_s_aX := hide hrd; clear hrd; clear ho; have R_aX_10 := hide (RImage_stable.here (w := World.drew _) (by exact R_aX_6.out) hb); clear R_aX_6; have B_11 := hide (B_7.out.drew.trans (hb.mono B_7.out.size)); clear B_7; have K_aX_12 := hide (Bk.below (w := World.drew _) (by exact K_aX_8.out) hb); clear K_aX_8; have K_aI_13 := hide (Bk.below (w := World.drew _) (by exact K_aI_9.out) hb); clear K_aI_9; clear hb)
      | (go_at_call 39; refine (toIns o_aI n_aI _).mono ?_; rintro e w3 ⟨rfl, hb⟩; have R_aX_14 := hide (RImage_stable.here R_aX_10.out hb); clear R_aX_10; have B_15 := hide (B_11.out.trans (hb.mono B_11.out.size)); clear B_11; have K_aX_16 := hide (K_aX_12.out.below hb); clear K_aX_12; have K_aI_17 := hide (K_aI_13.out.below hb); clear K_aI_13; have R_s_aX_18 := hide (RImage_stable.here N_s_aX.out hb); clear N_s_aX; clear hb)
      | (go_at_call 37; refine (spec_TakesPuts _ m_aX o_aI n_aI _ R_s_aX_18.out).mono ?_; rintro e w900 ⟨rfl, hb⟩; have R_aX_19 := hide (RImage_stable.here R_aX_14.out hb); clear R_aX_14; have B_20 := hide (B_15.out.trans (hb.mono B_15.out.size)); clear B_15; have K_aX_21 := hide (K_aX_16.out.below hb); clear K_aX_16; have K_aI_22 := hide (K_aI_17.out.below hb); clear K_aI_17; have R_s_aX_23 := hide (RImage_stable.here R_s_aX_18.out hb); clear R_s_aX_18; clear hb))
  clear R_s_aX_23
  -- the copies
  have q_aX_0 := K_aX_21.out.cell 0
  go_wp2_with fail
  refine (toImage _ m_aX _ R_aX_19.out hy_aX).mono ?_
  rintro e w4 ⟨cs_x_aX, rfl, hrd, ho, hb⟩
  clear q_aX_0
  have hrd := RImage_stable.more hrd (Nat.zero_le _) (Nat.le_refl _)
  obtain ⟨x_aX_0, rfl, f0⟩ := id hrd
  obtain ⟨Ax_aX_0, Cx_aX_0, rfl⟩ := f0.form; clear f0
  have N_x_aX := hide hrd; clear hrd
  clear ho
  have R_aX_24 := hide (RImage_stable.here R_aX_19.out hb)
  clear R_aX_19
  have B_25 := hide (B_20.out.trans (hb.mono B_20.out.size))
  clear B_20
  have K_aX_26 := hide (K_aX_21.out.below hb)
  clear K_aX_21
  have K_aI_27 := hide (K_aI_22.out.below hb)
  clear K_aI_22
  clear hb
  have hb := show Below (World.heap _).size _ _ from (Below.refl _ _).alloc (Nat.le_refl (World.heap w4).size) (.cells #[.slice Ax_aX_0 m_aX.qCodes.length Cx_aX_0] 71)
  have kb := Bk.new w4 71 #[.slice Ax_aX_0 m_aX.qCodes.length Cx_aX_0]
  have R_aX_28 := hide (RImage_stable.here R_aX_24.out hb)
  clear R_aX_24
  have B_29 := hide (B_25.out.trans (hb.mono B_25.out.size))
  clear B_25
  have K_aX_30 := hide (K_aX_26.out.below hb)
  clear K_aX_26
  have K_aI_31 := hide (K_aI_27.out.below hb)
  clear K_aI_27
  have R_x_aX_32 := hide (RImage_stable.here N_x_aX.out hb)
  clear N_x_aX
  clear hb
  have K_x_aX := hide kb; clear kb
  -- the program
  go_wp2_with fail
  go_region_held3 (fun w' => w'.cell? ⟨(World.heap w4).size, 0, none⟩ = some (.slice Ax_aX_0 m_aX.qCodes.length Cx_aX_0) ∧ w'.cell? ⟨w.heap.size + 1, 0, none⟩ = some (.int .i64 o_aI) ∧ w'.cell? ⟨w.heap.size + 1, 1, none⟩ = some (.int .i64 n_aI)) (first | exact ⟨K_x_aX.out.cell 0, K_aI_31.out.cell 0, K_aI_31.out.cell 1⟩ | exact ⟨K_x_aX_38.out.cell 0, K_aI_36.out.cell 0, K_aI_36.out.cell 1⟩ | exact ⟨K_x_aX_44.out.cell 0, K_aI_42.out.cell 0, K_aI_42.out.cell 1⟩)
    (first
      | (go_at_call 39; refine (toIns o_aI n_aI _).mono ?_; rintro e w6 ⟨rfl, hb⟩; have R_aX_33 := hide (RImage_stable.here (w := World.drew _) (by exact R_aX_28.out) hb); clear R_aX_28; have B_34 := hide (B_29.out.drew.trans (hb.mono B_29.out.size)); clear B_29; have K_aX_35 := hide (Bk.below (w := World.drew _) (by exact K_aX_30.out) hb); clear K_aX_30; have K_aI_36 := hide (Bk.below (w := World.drew _) (by exact K_aI_31.out) hb); clear K_aI_31; have R_x_aX_37 := hide (RImage_stable.here (w := World.drew _) (by exact R_x_aX_32.out) hb); clear R_x_aX_32; have K_x_aX_38 := hide (Bk.below (w := World.drew _) (by exact K_x_aX.out) hb); clear K_x_aX; clear hb)
      | (go_at_call 40; refine (impl_TakesPuts _ m_aX o_aI n_aI _ R_x_aX_37.out).mono ?_; rintro e w901 ⟨rfl, hb⟩; have R_aX_39 := hide (RImage_stable.here R_aX_33.out hb); clear R_aX_33; have B_40 := hide (B_34.out.trans (hb.mono B_34.out.size)); clear B_34; have K_aX_41 := hide (K_aX_35.out.below hb); clear K_aX_35; have K_aI_42 := hide (K_aI_36.out.below hb); clear K_aI_36; have R_x_aX_43 := hide (RImage_stable.here R_x_aX_37.out hb); clear R_x_aX_37; have K_x_aX_44 := hide (K_x_aX_38.out.below hb); clear K_x_aX_38; clear hb))
  -- the copies again
  go_wp2_with fail
  go_region_held3 (fun w' => w'.cell? ⟨w.heap.size, 0, none⟩ = some (.slice Aa_aX_0 m_aX.qCodes.length Ca_aX_0) ∧ w'.cell? ⟨(World.heap w4).size, 0, none⟩ = some (.slice Ax_aX_0 m_aX.qCodes.length Cx_aX_0)) (first | exact ⟨K_aX_41.out.cell 0, K_x_aX_44.out.cell 0⟩ | exact ⟨K_aX_47.out.cell 0, K_x_aX_50.out.cell 0⟩ | exact ⟨K_aX_53.out.cell 0, K_x_aX_56.out.cell 0⟩)
    (first
      | (go_at_call 38; refine (toImage _ m_aX (World.drew _) R_aX_39.out hy_aX).mono ?_; rintro e w7 ⟨cs_y_aX, rfl, hrd, ho, hb⟩; have hrd := RImage_stable.more hrd (Nat.zero_le _) (Nat.le_refl _); obtain ⟨y_aX_0, rfl, f0⟩ := id hrd; obtain ⟨Ay_aX_0, Cy_aX_0, rfl⟩ := f0.form; clear f0; have N_y_aX := hide hrd; clear hrd; clear ho; have R_aX_45 := hide (RImage_stable.here (w := World.drew _) (by exact R_aX_39.out) hb); clear R_aX_39; have B_46 := hide (B_40.out.drew.trans (hb.mono B_40.out.size)); clear B_40; have K_aX_47 := hide (Bk.below (w := World.drew _) (by exact K_aX_41.out) hb); clear K_aX_41; have K_aI_48 := hide (Bk.below (w := World.drew _) (by exact K_aI_42.out) hb); clear K_aI_42; have R_x_aX_49 := hide (RImage_stable.here (w := World.drew _) (by exact R_x_aX_43.out) hb); clear R_x_aX_43; have K_x_aX_50 := hide (Bk.below (w := World.drew _) (by exact K_x_aX_44.out) hb); clear K_x_aX_44; clear hb)
      | (go_at_call 41; refine (eqImage _ _ m_aX _ R_x_aX_49.out N_y_aX.out).mono ?_; rintro e w917 ⟨rfl, hb⟩; have R_aX_51 := hide (RImage_stable.here R_aX_45.out hb); clear R_aX_45; have B_52 := hide (B_46.out.trans (hb.mono B_46.out.size)); clear B_46; have K_aX_53 := hide (K_aX_47.out.below hb); clear K_aX_47; have K_aI_54 := hide (K_aI_48.out.below hb); clear K_aI_48; have R_x_aX_55 := hide (RImage_stable.here R_x_aX_49.out hb); clear R_x_aX_49; have K_x_aX_56 := hide (K_x_aX_50.out.below hb); clear K_x_aX_50; have R_y_aX_57 := hide (RImage_stable.here N_y_aX.out hb); clear N_y_aX; clear hb))
  go_wp2_with fail
  go_ret
  exact ⟨rfl, B_52.out⟩
end Go.Proofs.Ytgcbjphbeifbkaa
