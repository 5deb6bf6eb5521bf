
/- FnExactSiteOf: the call returns true. No condition. -/
import Derived.Test.YtdniplnggikkgaaPg12
import Derived.Test.YtdniplnggikkgaaOpProg
import Derived.Test.YtdniplnggikkgaaOpen3
import Derived.Test.YtdniplnggikkgaaBlk
import Derived.Test.YtdniplnggikkgaaHere
import Derived.Deep.RegionHeld3
import Derived.Deep.RegionWith
set_option linter.unusedSimpArgs false
set_option linter.unusedVariables false
set_option maxRecDepth 100000
namespace Go.Proofs.Ytdniplnggikkgaa
open Go.RowKit Go.WideShapes Go.ChangeShapes

set_option maxHeartbeats 3200000 in
theorem law_FnExactSiteOf (w : World) (v_aP : Value) (h_aP : IsProg w v_aP) (aFn : Int) (w_aFn : (Lit.int .i64 aFn).wf = true) (aStmt : Int) (w_aStmt : (Lit.int .i64 aStmt).wf = true) :
    Calls Try.prog 7 #[v_aP, .int .i64 aFn, .int .i64 aStmt] w fun e w' => e = .returned (.bool true) ∧ Below w.heap.size w w' := by
  obtain ⟨cs_aP, m_aP, rfl, R_aP⟩ := h_aP
  obtain ⟨a_aP_0, rfl, f0⟩ := id R_aP
  obtain ⟨Aa_aP_0, Ca_aP_0, rfl⟩ := f0.form; clear f0
  obtain ⟨b1_aFn, b2_aFn⟩ := bd_i64 w_aFn
  obtain ⟨b1_aStmt, b2_aStmt⟩ := bd_i64 w_aStmt
  have H_aP := hide R_aP; clear R_aP
  have Hb_0 := hide (Below.refl w.heap.size w)
  have hb : Below (World.heap w).size w (World.alloc w (.cells #[.slice Aa_aP_0 m_aP.qFuncs.length Ca_aP_0] 24)) := (Below.refl _ _).alloc (Nat.le_refl _) _
  have kb := Bk.new w 24 #[.slice Aa_aP_0 m_aP.qFuncs.length Ca_aP_0]
  have R_aP_1 := hide (RProg_stable.here H_aP.out hb)
  clear H_aP
  have B_2 := hide (Hb_0.out.trans (hb.mono Hb_0.out.size))
  clear Hb_0
  clear hb
  have K_aP := hide kb; clear kb
  -- enter
  go_enter Try.func7, Try.ntmps7
  -- the size of aP
  have q_aP_0 := K_aP.out.cell 0
  go_wp2_with fail
  refine (szProg _ m_aP _ _ R_aP_1.out (by omega) (by omega)).mono ?_
  rintro e w100 ⟨rfl, hb⟩
  clear q_aP_0
  have R_aP_3 := hide (RProg_stable.here R_aP_1.out hb)
  clear R_aP_1
  have B_4 := hide (B_2.out.trans (hb.mono B_2.out.size))
  clear B_2
  have K_aP_5 := hide (K_aP.out.below hb)
  clear K_aP
  clear hb
  by_cases hz_aP : (szProgN m_aP : Int) ≤ 1048576
  case neg => rw [subL_no hz_aP]; go_wp2; go_ret; exact ⟨rfl, B_4.out⟩
  rw [subL_yes hz_aP]
  have hy_aP : szProgN m_aP ≤ 1048576 := by omega
  -- the reference
  have q_aP_0 := K_aP_5.out.cell 0
  go_wp2_with fail
  refine (toProg _ m_aP _ R_aP_3.out hy_aP).mono ?_
  rintro e w2 ⟨cs_s_aP, rfl, hrd, ho, hb⟩
  clear q_aP_0
  have hrd := RProg_stable.more hrd (Nat.zero_le _) (Nat.le_refl _)
  obtain ⟨s_aP_0, rfl, f0⟩ := id hrd
  obtain ⟨As_aP_0, Cs_aP_0, rfl⟩ := f0.form; clear f0
  have N_s_aP := hide hrd; clear hrd
  clear ho
  have R_aP_6 := hide (RProg_stable.here R_aP_3.out hb)
  clear R_aP_3
  have B_7 := hide (B_4.out.trans (hb.mono B_4.out.size))
  clear B_4
  have K_aP_8 := hide (K_aP_5.out.below hb)
  clear K_aP_5
  clear hb
  have q_aP_0 := K_aP_8.out.cell 0
  go_wp2_with fail
  refine (spec_SiteOf _ m_aP aFn aStmt _ N_s_aP.out hy_aP).mono ?_
  rintro e w900 ⟨rfl, hb⟩
  clear q_aP_0
  have R_aP_9 := hide (RProg_stable.here R_aP_6.out hb)
  clear R_aP_6
  have B_10 := hide (B_7.out.trans (hb.mono B_7.out.size))
  clear B_7
  have K_aP_11 := hide (K_aP_8.out.below hb)
  clear K_aP_8
  have R_s_aP_12 := hide (RProg_stable.here N_s_aP.out hb)
  clear N_s_aP
  clear hb
  clear R_s_aP_12
  -- the copies
  have q_aP_0 := K_aP_11.out.cell 0
  go_wp2_with fail
  refine (toProg _ m_aP _ R_aP_9.out hy_aP).mono ?_
  rintro e w3 ⟨cs_x_aP, rfl, hrd, ho, hb⟩
  clear q_aP_0
  have hrd := RProg_stable.more hrd (Nat.zero_le _) (Nat.le_refl _)
  obtain ⟨x_aP_0, rfl, f0⟩ := id hrd
  obtain ⟨Ax_aP_0, Cx_aP_0, rfl⟩ := f0.form; clear f0
  have N_x_aP := hide hrd; clear hrd
  clear ho
  have R_aP_13 := hide (RProg_stable.here R_aP_9.out hb)
  clear R_aP_9
  have B_14 := hide (B_10.out.trans (hb.mono B_10.out.size))
  clear B_10
  have K_aP_15 := hide (K_aP_11.out.below hb)
  clear K_aP_11
  clear hb
  have hb := show Below (World.heap _).size _ _ from (Below.refl _ _).alloc (Nat.le_refl (World.heap w3).size) (.cells #[.slice Ax_aP_0 m_aP.qFuncs.length Cx_aP_0] 29)
  have kb := Bk.new w3 29 #[.slice Ax_aP_0 m_aP.qFuncs.length Cx_aP_0]
  have R_aP_16 := hide (RProg_stable.here R_aP_13.out hb)
  clear R_aP_13
  have B_17 := hide (B_14.out.trans (hb.mono B_14.out.size))
  clear B_14
  have K_aP_18 := hide (K_aP_15.out.below hb)
  clear K_aP_15
  have R_x_aP_19 := hide (RProg_stable.here N_x_aP.out hb)
  clear N_x_aP
  clear hb
  have K_x_aP := hide kb; clear kb
  -- the program
  have q_x_aP_0 := K_x_aP.out.cell 0
  go_wp2_with fail
  refine (impl_SiteOf _ m_aP aFn aStmt _ R_x_aP_19.out hy_aP).mono ?_
  rintro e w901 ⟨rfl, hb⟩
  clear q_x_aP_0
  have R_aP_20 := hide (RProg_stable.here R_aP_16.out hb)
  clear R_aP_16
  have B_21 := hide (B_17.out.trans (hb.mono B_17.out.size))
  clear B_17
  have K_aP_22 := hide (K_aP_18.out.below hb)
  clear K_aP_18
  have R_x_aP_23 := hide (RProg_stable.here R_x_aP_19.out hb)
  clear R_x_aP_19
  have K_x_aP_24 := hide (K_x_aP.out.below hb)
  clear K_x_aP
  clear hb
  -- the copies again
  go_wp2_with fail
  go_region_held3 (fun w' => w'.cell? ⟨w.heap.size, 0, none⟩ = some (.slice Aa_aP_0 m_aP.qFuncs.length Ca_aP_0) ∧ w'.cell? ⟨(World.heap w3).size, 0, none⟩ = some (.slice Ax_aP_0 m_aP.qFuncs.length Cx_aP_0)) (first | exact ⟨K_aP_22.out.cell 0, K_x_aP_24.out.cell 0⟩ | exact ⟨K_aP_27.out.cell 0, K_x_aP_29.out.cell 0⟩ | exact ⟨K_aP_32.out.cell 0, K_x_aP_34.out.cell 0⟩)
    (first
      | (go_at_call 13; refine (toProg _ m_aP (World.drew _) R_aP_20.out hy_aP).mono ?_; rintro e w5 ⟨cs_y_aP, rfl, hrd, ho, hb⟩; have hrd := RProg_stable.more hrd (Nat.zero_le _) (Nat.le_refl _); obtain ⟨y_aP_0, rfl, f0⟩ := id hrd; obtain ⟨Ay_aP_0, Cy_aP_0, rfl⟩ := f0.form; clear f0; have N_y_aP := hide hrd; clear hrd; clear ho; have R_aP_25 := hide (RProg_stable.here (w := World.drew _) (by exact R_aP_20.out) hb); clear R_aP_20; have B_26 := hide (B_21.out.drew.trans (hb.mono B_21.out.size)); clear B_21; have K_aP_27 := hide (Bk.below (w := World.drew _) (by exact K_aP_22.out) hb); clear K_aP_22; have R_x_aP_28 := hide (RProg_stable.here (w := World.drew _) (by exact R_x_aP_23.out) hb); clear R_x_aP_23; have K_x_aP_29 := hide (Bk.below (w := World.drew _) (by exact K_x_aP_24.out) hb); clear K_x_aP_24; clear hb)
      | (go_at_call 15; refine (eqProg _ _ m_aP _ R_x_aP_28.out N_y_aP.out).mono ?_; rintro e w915 ⟨rfl, hb⟩; have R_aP_30 := hide (RProg_stable.here R_aP_25.out hb); clear R_aP_25; have B_31 := hide (B_26.out.trans (hb.mono B_26.out.size)); clear B_26; have K_aP_32 := hide (K_aP_27.out.below hb); clear K_aP_27; have R_x_aP_33 := hide (RProg_stable.here R_x_aP_28.out hb); clear R_x_aP_28; have K_x_aP_34 := hide (K_x_aP_29.out.below hb); clear K_x_aP_29; have R_y_aP_35 := hide (RProg_stable.here N_y_aP.out hb); clear N_y_aP; clear hb))
  go_wp2_with fail
  go_ret
  exact ⟨rfl, B_31.out⟩
end Go.Proofs.Ytdniplnggikkgaa
