
/- FnExactHeightsOf: the call returns true. No condition. -/
import Derived.Test.YtaebmliolpgmdaaGreatGc9
import Derived.Test.YtaebmliolpgmdaaGreatOpImage
import Derived.Test.YtaebmliolpgmdaaGreatMkImage
import Derived.Test.YtaebmliolpgmdaaGreatSl6
import Derived.Test.YtaebmliolpgmdaaGreatOpen3
import Derived.Test.YtaebmliolpgmdaaGreatBlk
import Derived.Test.YtaebmliolpgmdaaGreatMem
import Derived.Deep.RegionHeld3
import Derived.Deep.RegionWith
set_option linter.unusedSimpArgs false
set_option linter.unusedVariables false
set_option maxRecDepth 100000
namespace Go.Proofs.YtaebmliolpgmdaaGreat
open Go.RowKit Go.WideShapes Go.ChangeShapes

set_option maxHeartbeats 6400000 in
theorem law_FnExactHeightsOf (w : World) (v_aX : Value) (h_aX : IsImage w v_aX) (aFn : Int) (w_aFn : (Lit.int .i64 aFn).wf = true) :
    Calls Tryz.prog 3 #[v_aX, .int .i64 aFn] w fun e w' => e = .returned (.bool true) ∧ Below w.heap.size w w' := by
  obtain ⟨cs_a, m_a, rfl, R_a⟩ := h_aX
  obtain ⟨a_0, rfl, f0⟩ := id R_a
  obtain ⟨Aa_0, Ca_0, rfl⟩ := f0.form; clear f0
  obtain ⟨b1_aFn, b2_aFn⟩ := bd_i64 w_aFn
  have A0 := hide R_a; clear R_a
  have B_0 := hide (Below.refl w.heap.size w)
  have hb : Below (World.heap w).size w (World.alloc w (.cells #[.slice Aa_0 m_a.qCodes.length Ca_0] 24)) := (Below.refl _ _).alloc (Nat.le_refl _) _
  have kb := Bk.new w 24 #[.slice Aa_0 m_a.qCodes.length Ca_0]
  have B_1 := hide (B_0.out.trans (hb.mono B_0.out.size))
  clear B_0
  clear hb
  have Ka_0 := hide kb; clear kb
  go_enter Tryz.func3, Tryz.ntmps3
  -- the size
  have q_Ka_0 := Ka_0.out.cell 0
  go_wp2_with fail
  refine (szImage _ m_a _ _ (RImage_stable.here A0.out B_1.out) (by omega) (by omega)).mono ?_
  rintro e w100 ⟨rfl, hb⟩
  clear q_Ka_0
  have B_2 := hide (B_1.out.trans (hb.mono B_1.out.size))
  clear B_1
  have Ka_3 := hide (Ka_0.out.below hb)
  clear Ka_0
  clear hb
  by_cases hz : (szImageN m_a : Int) ≤ 1048576
  case neg => rw [subL_no hz]; go_wp2; go_ret; exact ⟨rfl, B_2.out⟩
  rw [subL_yes hz]
  have hy : szImageN m_a ≤ 1048576 := by omega
  have hlen : (hoR m_a.qCodes aFn).length ≤ 1048576 := hoR_length _ _
  have hS := fun cs w hr => spec_call_HeightsOf cs m_a aFn w hr hy
  have hI := fun cs w hr => impl_call_HeightsOf cs m_a aFn w hr hy
  generalize hoR m_a.qCodes aFn = L at *
  generalize hoOk m_a.qCodes aFn = ok at *
  have HS := hide hS; have HI := hide hI; clear hS hI
  -- the reference
  have q_Ka_0 := Ka_3.out.cell 0
  go_wp2_with fail
  refine (toImage _ m_a _ (RImage_stable.here A0.out B_2.out) hy).mono ?_
  rintro e w1 ⟨cs_s, rfl, hrd, ho, hb⟩
  clear q_Ka_0
  clear ho
  have hrd' := RImage_stable.more hrd (Nat.zero_le _) (Nat.le_refl _); clear hrd; have hrd := hrd'; clear hrd'
  obtain ⟨s_0, rfl, f0⟩ := id hrd
  obtain ⟨As_0, Cs_0, rfl⟩ := f0.form; clear f0
  have N_s := hide hrd; clear hrd
  have B_4 := hide (B_2.out.trans (hb.mono B_2.out.size))
  clear B_2
  have Ka_5 := hide (Ka_3.out.below hb)
  clear Ka_3
  clear hb
  have q_Ka_0 := Ka_5.out.cell 0
  go_wp2_with fail
  refine (HS.out _ _ N_s.out).mono ?_
  rintro e w2 ⟨u, rfl, hown, hb⟩
  clear q_Ka_0
  have U0 := hide (Rd.of_own hown); clear hown; clear N_s
  have B_6 := hide (B_4.out.trans (hb.mono B_4.out.size))
  clear B_4
  have Ka_7 := hide (Ka_5.out.below hb)
  clear Ka_5
  clear hb
  have BU_0 := hide (Below.refl (World.heap w2).size w2)
  -- the copy
  have q_Ka_0 := Ka_7.out.cell 0
  go_wp2_with fail
  refine (toImage _ m_a _ (RImage_stable.here A0.out B_6.out) hy).mono ?_
  rintro e w3 ⟨cs_x, rfl, hrd, ho, hb⟩
  clear q_Ka_0
  have O_x := hide ho
  clear ho
  have hrd' := RImage_stable.more hrd (Nat.zero_le _) (Nat.le_refl _); clear hrd; have hrd := hrd'; clear hrd'
  obtain ⟨x_0, rfl, f0⟩ := id hrd
  obtain ⟨Ax_0, Cx_0, rfl⟩ := f0.form; clear f0
  have N_x := hide hrd; clear hrd
  have L_a := hide Ka_7.out.lt
  have Z_B := hide B_6.out.size; have Z_U := hide BU_0.out.size; have Z_X := hide hb.size
  have B_8 := hide (B_6.out.trans (hb.mono B_6.out.size))
  clear B_6
  have Ka_9 := hide (Ka_7.out.below hb)
  clear Ka_7
  have BU_10 := hide (BU_0.out.trans (hb.mono BU_0.out.size))
  clear BU_0
  clear hb
  have hb := show Below (World.heap _).size _ _ from (Below.refl _ _).alloc (Nat.le_refl (World.heap w3).size) (.cells #[.slice Ax_0 m_a.qCodes.length Cx_0] 31)
  have kb := Bk.new w3 31 #[.slice Ax_0 m_a.qCodes.length Cx_0]
  have BX_0 := hide (Below.refl (World.heap w3).size w3)
  have B_11 := hide (B_8.out.trans (hb.mono B_8.out.size))
  clear B_8
  have Ka_12 := hide (Ka_9.out.below hb)
  clear Ka_9
  have BU_13 := hide (BU_10.out.trans (hb.mono BU_10.out.size))
  clear BU_10
  have BX_14 := hide (BX_0.out.trans (hb.mono BX_0.out.size))
  clear BX_0
  clear hb
  have Kx_0 := hide kb; clear kb
  -- the program
  have q_Kx_0 := Kx_0.out.cell 0
  go_wp2_with fail
  refine (HI.out _ _ (RImage_stable.here N_x.out BX_14.out)).mono ?_
  rintro e w4 ⟨g, rfl, hown, hb⟩
  clear q_Kx_0
  have hzG := BX_14.out.size; have hzA := Ka_12.out.lt
  have Z_G := hide hzG; have L_G := hide hzA; clear hzG hzA
  have hzU := BU_13.out.size; have Z_UG := hide hzU; clear hzU; have hzU := B_11.out.size; have Z_BG := hide hzU; clear hzU
  have B_15 := hide (B_11.out.trans (hb.mono B_11.out.size))
  clear B_11
  have Ka_16 := hide (Ka_12.out.below hb)
  clear Ka_12
  have BU_17 := hide (BU_13.out.trans (hb.mono BU_13.out.size))
  clear BU_13
  have BX_18 := hide (BX_14.out.trans (hb.mono BX_14.out.size))
  clear BX_14
  have Kx_19 := hide (Kx_0.out.below hb)
  clear Kx_0
  clear hb
  have G_0 := hide hown; clear hown
  go_wp2_with fail
  refine (eqIntSB _ _ L _ (Rd.of_own G_0.out) (Rd.here U0.out BU_17.out) (by omega)).mono ?_
  rintro e w5 ⟨rfl, hb⟩
  have B_20 := hide (B_15.out.trans (hb.mono B_15.out.size))
  clear B_15
  have Ka_21 := hide (Ka_16.out.below hb)
  clear Ka_16
  have BU_22 := hide (BU_17.out.trans (hb.mono BU_17.out.size))
  clear BU_17
  have BX_23 := hide (BX_18.out.trans (hb.mono BX_18.out.size))
  clear BX_18
  have Kx_24 := hide (Kx_19.out.below hb)
  clear Kx_19
  have G_25 := hide (own_keep G_0.out hb)
  clear G_0
  clear hb
  -- the copy is as it was
  go_wp2_with fail
  go_region_held3 (fun w' => w'.cell? ⟨w.heap.size, 0, none⟩ = some (.slice Aa_0 m_a.qCodes.length Ca_0) ∧ w'.cell? ⟨(World.heap w3).size, 0, none⟩ = some (.slice Ax_0 m_a.qCodes.length Cx_0)) (first | exact ⟨Ka_21.out.cell 0, Kx_24.out.cell 0⟩ | exact ⟨Ka_27.out.cell 0, Kx_30.out.cell 0⟩ | exact ⟨Ka_33.out.cell 0, Kx_36.out.cell 0⟩)
    (first
      | (go_at_call 7; refine (toImage _ m_a (World.drew _) (RImage_stable.here A0.out B_20.out.drew) hy).mono ?_; rintro e w6 ⟨cs_y, rfl, hrd, ho, hb⟩; clear ho; have hrd' := RImage_stable.more hrd (Nat.zero_le _) (Nat.le_refl _); clear hrd; have hrd := hrd'; clear hrd'; obtain ⟨y_0, rfl, f0⟩ := id hrd; obtain ⟨Ay_0, Cy_0, rfl⟩ := f0.form; clear f0; have N_y := hide hrd; clear hrd; have B_26 := hide (B_20.out.drew.trans (hb.mono B_20.out.size)); clear B_20; have Ka_27 := hide (Bk.below (w := World.drew _) (by exact Ka_21.out) hb); clear Ka_21; have BU_28 := hide (BU_22.out.drew.trans (hb.mono BU_22.out.size)); clear BU_22; have BX_29 := hide (BX_23.out.drew.trans (hb.mono BX_23.out.size)); clear BX_23; have Kx_30 := hide (Bk.below (w := World.drew _) (by exact Kx_24.out) hb); clear Kx_24; have G_31 := hide (own_keep (W := World.drew _) (by exact G_25.out) hb); clear G_25; clear hb)
      | (go_at_call 10; refine (eqImage _ _ m_a _ (RImage_stable.here N_x.out BX_29.out) N_y.out).mono ?_; rintro e w7 ⟨rfl, hb⟩; clear N_y; have B_32 := hide (B_26.out.trans (hb.mono B_26.out.size)); clear B_26; have Ka_33 := hide (Ka_27.out.below hb); clear Ka_27; have BU_34 := hide (BU_28.out.trans (hb.mono BU_28.out.size)); clear BU_28; have BX_35 := hide (BX_29.out.trans (hb.mono BX_29.out.size)); clear BX_29; have Kx_36 := hide (Kx_30.out.below hb); clear Kx_30; have G_37 := hide (own_keep G_31.out hb); clear G_31; clear hb))
  -- the mark of the copy
  have q_Kx_0 := Kx_36.out.cell 0
  go_wp2_with fail
  refine (mkImage _ m_a 1 _ _ _ (OImage_stable.keep O_x.out ((KeptB.refl _ _ _).below BX_35.out (Nat.le_refl _))) (Nat.le_trans Z_X.out BX_35.out.size) BX_35.out.size (by omega) (by omega)).mono ?_
  rintro e w8 ⟨k8, rfl, hk8, hk8', hbl, hkp⟩
  clear q_Kx_0
  have B_38 := hide (B_32.out.trans (hbl.mono Z_B.out))
  clear B_32
  have Ka_39 := hide (show Bk _ _ _ _ from (hbl.block _ L_a.out).trans Ka_33.out)
  clear Ka_33
  have BU_40 := hide (BU_34.out.trans (hbl.mono Z_U.out))
  clear BU_34
  have G_41 := hide (own_keptB G_37.out (fun k hk => (G_37.out.lt k hk).2) (KeptB.mono hkp Z_G.out (Nat.le_refl _)))
  clear G_37
  clear BX_35
  clear Kx_36
  clear hbl hkp N_x
  clear O_x
  go_wp2_with fail
  refine (eqIntSB _ _ L _ (Rd.of_own G_41.out) (Rd.here U0.out BU_40.out) (by omega)).mono ?_
  rintro e w9 ⟨rfl, hb⟩
  have B_42 := hide (B_38.out.trans (hb.mono B_38.out.size))
  clear B_38
  have Ka_43 := hide (Ka_39.out.below hb)
  clear Ka_39
  have BU_44 := hide (BU_40.out.trans (hb.mono BU_40.out.size))
  clear BU_40
  have G_45 := hide (own_keep G_41.out hb)
  clear G_41
  clear hb
  -- the mark of the result
  go_wp2_with fail
  refine (markIntS _ L 1 _ _ G_45.out (by omega) (by omega)).mono ?_
  rintro e w10 ⟨rfl, hown, hg⟩
  have hgl := G_45.out.lt
  have B_46 := hide (B_42.out.grown hg (Nat.le_trans B_42.out.size (Nat.le_refl _)) (fun k hk => Nat.le_trans Z_BG.out (hgl k hk).1))
  clear B_42
  have Ka_47 := hide (show Bk _ _ _ _ from (hg.block _ Ka_43.out.lt (fun e => by have := (hgl _ e.symm).1; have := L_G.out; omega)).trans Ka_43.out)
  clear Ka_43
  have BU_48 := hide (BU_44.out.grown hg (Nat.le_trans BU_44.out.size (Nat.le_refl _)) (fun k hk => Nat.le_trans Z_UG.out (hgl k hk).1))
  clear BU_44
  clear G_45 hg hgl
  have GM_0 := hide hown; clear hown
  go_wp2_with fail
  refine (heldIntS _ L.length 1 _ _ (Rd.of_own GM_0.out) (by omega) (by omega)).mono ?_
  rintro e w11 ⟨rfl, rfl⟩
  -- once more
  have q_Ka_0 := Ka_47.out.cell 0
  go_wp2_with fail
  refine (toImage _ m_a _ (RImage_stable.here A0.out B_46.out) hy).mono ?_
  rintro e w12 ⟨cs_z, rfl, hrd, ho, hb⟩
  clear q_Ka_0
  clear ho
  have hrd' := RImage_stable.more hrd (Nat.zero_le _) (Nat.le_refl _); clear hrd; have hrd := hrd'; clear hrd'
  obtain ⟨z_0, rfl, f0⟩ := id hrd
  obtain ⟨Az_0, Cz_0, rfl⟩ := f0.form; clear f0
  have N_z := hide hrd; clear hrd
  have B_49 := hide (B_46.out.trans (hb.mono B_46.out.size))
  clear B_46
  have Ka_50 := hide (Ka_47.out.below hb)
  clear Ka_47
  have BU_51 := hide (BU_48.out.trans (hb.mono BU_48.out.size))
  clear BU_48
  have G_52 := hide (own_keep GM_0.out hb)
  clear GM_0
  clear hb
  have q_Ka_0 := Ka_50.out.cell 0
  go_wp2_with fail
  refine (HI.out _ _ N_z.out).mono ?_
  rintro e w13 ⟨h0, rfl, hown, hb⟩
  clear q_Ka_0
  clear N_z
  have B_53 := hide (B_49.out.trans (hb.mono B_49.out.size))
  clear B_49
  have Ka_54 := hide (Ka_50.out.below hb)
  clear Ka_50
  have BU_55 := hide (BU_51.out.trans (hb.mono BU_51.out.size))
  clear BU_51
  have G_56 := hide (own_keep G_52.out hb)
  clear G_52
  clear hb
  have GH_0 := hide hown; clear hown
  go_wp2_with fail
  refine (eqIntSB _ _ L _ (Rd.of_own GH_0.out) (Rd.here U0.out BU_55.out) (by omega)).mono ?_
  rintro e w14 ⟨rfl, hb⟩
  have B_57 := hide (B_53.out.trans (hb.mono B_53.out.size))
  clear B_53
  have Ka_58 := hide (Ka_54.out.below hb)
  clear Ka_54
  have BU_59 := hide (BU_55.out.trans (hb.mono BU_55.out.size))
  clear BU_55
  have G_60 := hide (own_keep G_56.out hb)
  clear G_56
  have GH_61 := hide (own_keep GH_0.out hb)
  clear GH_0
  clear hb
  go_wp2_with fail
  refine (heldIntS _ L.length 1 _ _ (Rd.of_own G_60.out) (by omega) (by omega)).mono ?_
  rintro e w15 ⟨rfl, rfl⟩
  go_wp2_with fail
  go_ret
  exact ⟨rfl, B_57.out⟩
end Go.Proofs.YtaebmliolpgmdaaGreat
