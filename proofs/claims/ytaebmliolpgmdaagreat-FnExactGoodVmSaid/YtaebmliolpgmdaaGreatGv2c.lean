
/- isFrame: what the Go text returns. No condition. Printed by wip/tools/mk_gv.py. -/
import Derived.Test.YtaebmliolpgmdaaGreatGvP
set_option linter.unusedSimpArgs false
set_option linter.unusedVariables false
set_option maxRecDepth 100000
namespace Go.Proofs.YtaebmliolpgmdaaGreat
open Go.RowKit Go.Shelf


set_option maxHeartbeats 64000000 in
theorem impl_isFrame_c (xs fs : List Value) (x : ImageM) (f : FrameM) (w : World) (hx : RImage w 0 w.heap.size xs x) (hf : RFrame w 0 w.heap.size fs f) (hf0 : inB f.qFn 0 (x.qCodes.length - 1) = true) (hpart : (smallB f.qId = true ∧ inB f.qAt 0 ((cF x.qCodes f).qIns.length - 1) = true ∧ b32 f.qPile = true ∧ b32 f.qVars = true) ∧ ((f.qVars.length : Int) = (cF x.qCodes f).qVars ∧ f.qFlags.length = (cF x.qCodes f).qSites.length ∧ smallB f.qResult = true ∧ inB f.qMode 0 3 = true)) :
    Calls Tryz.prog 70 #[.agg xs.toArray, .agg fs.toArray] w fun e w' => e = .returned (.bool (frB x.qCodes f)) ∧ Below w.heap.size w w' := by
  obtain ⟨v0, rfl, h0⟩ := hx
  have hl := h0.long
  obtain ⟨A, c, rfl⟩ := h0.form
  obtain ⟨v3, v4, v5, rfl, f3, f4, f5⟩ := hf
  obtain ⟨A3, c3, rfl⟩ := f3.form; obtain ⟨A4, c4, rfl⟩ := f4.form; obtain ⟨A5, c5, rfl⟩ := f5.form
  have hno := @frB_no x.qCodes f; have hyes := @frB_yes x.qCodes f
  have hcF := fun (n : Nat) (h : f.qFn = n) hn => @cF_at x.qCodes f n h hn
  unfold frP at hno hyes
  generalize frB x.qCodes f = R at *
  generalize cF x.qCodes f = C at *
  obtain ⟨id, fn, pl, P, V, F, rs, md, vl, bs, off⟩ := f
  dsimp only at *
  have hP := fun W (hW : Below w.heap.size w W) => impl_areSmall _ P W (f3.here hW).rd
  have hV := fun W (hW : Below w.heap.size w W) => impl_areSmall _ V W (f4.here hW).rd
  have hb2 := ((Below.refl w.heap.size w).alloc (Nat.le_refl _) (.cells #[.slice A x.qCodes.length c] 31)).alloc (by simp) (.cells #[.int .i64 id, .int .i64 fn, .int .i64 pl, .slice A3 P.length c3, .slice A4 V.length c4, .slice A5 F.length c5, .int .i64 rs, .int .i64 md, .int .i64 vl, .int .i64 bs, .bool off] 102)
  have hwF := fun w => impl_within fn 0 (x.qCodes.length - 1) w
  obtain ⟨y0, y1, y2, y3, y4, y5, y6, y7, y8, y9, y10⟩ := frP_no hno
  clear hno f3 f4 f5
  have hfn := hf0
  simp only [hfn] at hwF
  obtain ⟨n, rfl, hn⟩ := in_nat hfn
  have hCe := hcF n rfl hn
  subst hCe
  obtain ⟨b, o, B2, e2, B3, e3, B4, e4, e9, hbB, d0, d1, d2, d3, d4, hc⟩ := RCode_lit h0 hn
  subst e9
  have hlI : x.qCodes[n].qIns.length ≤ 9223372036854775807 := by
    obtain ⟨_, _, _, _, _, g3, _⟩ := hc
    exact g3.long
  clear hc hcF h0 y0
  generalize x.qCodes[n] = m at *
  obtain ⟨p0, p1, S, I, Q⟩ := m
  dsimp only at *
  have hnI : (n : Int) < (x.qCodes.length : Int) := by omega
  have hn0 : (0 : Int) ≤ (n : Int) := by omega
  have s0 := (hb2.cell (p := ⟨b, o + n * 5, none⟩) hbB).trans d0
  have s1 := (hb2.cell (p := ⟨b, o + n * 5 + 1, none⟩) hbB).trans d1
  have s2 := (hb2.cell (p := ⟨b, o + n * 5 + 2, none⟩) hbB).trans d2
  have s3 := (hb2.cell (p := ⟨b, o + n * 5 + 3, none⟩) hbB).trans d3
  have s4 := (hb2.cell (p := ⟨b, o + n * 5 + 4, none⟩) hbB).trans d4
  have hb3 := hb2.alloc (by simp; omega) (.cells #[.int .i64 p0, .int .i64 p1, .slice B2 S.length e2, .slice B3 I.length e3, .slice B4 Q.length e4] 58)
  have hk2 := (Bk.new (w.alloc (.cells #[.slice (some ⟨b, o, none⟩) x.qCodes.length c] 31)) 102 #[.int .i64 id, .int .i64 n, .int .i64 pl, .slice A3 P.length c3, .slice A4 V.length c4, .slice A5 F.length c5, .int .i64 rs, .int .i64 md, .int .i64 vl, .int .i64 bs, .bool off]).alloc (.cells #[.int .i64 p0, .int .i64 p1, .slice B2 S.length e2, .slice B3 I.length e3, .slice B4 Q.length e4] 58)
  have hk3 := Bk.new ((w.alloc (.cells #[.slice (some ⟨b, o, none⟩) x.qCodes.length c] 31)).alloc (.cells #[.int .i64 id, .int .i64 n, .int .i64 pl, .slice A3 P.length c3, .slice A4 V.length c4, .slice A5 F.length c5, .int .i64 rs, .int .i64 md, .int .i64 vl, .int .i64 bs, .bool off] 102)) 58 #[.int .i64 p0, .int .i64 p1, .slice B2 S.length e2, .slice B3 I.length e3, .slice B4 Q.length e4]
  simp only [World.size_alloc] at hk2 hk3
  clear d0 d1 d2 d3 d4
  have hwA := fun w => impl_within pl 0 (I.length - 1) w
  have hwM := fun w => impl_within md 0 3 w
  have hsI := fun w => impl_isSmallB id w
  have hsR := fun w => impl_isSmallB rs w
  have hsU := fun w => impl_isSmallB vl w
  generalize gI : smallB id = bI at *
  generalize gA : inB pl 0 (I.length - 1) = bA at *
  generalize gP : b32 P = bP at *
  generalize gV : b32 V = bV at *
  generalize gR : smallB rs = bR at *
  generalize gM : inB md 0 3 = bM at *
  generalize gU : smallB vl = bU at *
  have Hb3 := hide hb3; have Hk2 := hide hk2; have Hk3 := hide hk3
  have HwF := Lib.hid hwF
  have hyes' := fun q => hyes ⟨hfn, q⟩
  have Hyes := Lib.hid hyes'
  clear hyes'
  have H1 := Lib.hid y1; have H2 := Lib.hid y2; have H3 := Lib.hid y3; have H4 := Lib.hid y4; have H5 := Lib.hid y5; have H6 := Lib.hid y6; have H7 := Lib.hid y7; have H8 := Lib.hid y8; have H9 := Lib.hid y9; have H10 := Lib.hid y10
  clear hb2 hb3 hk2 hk3 hwF hfn hn gI gA gP gV gR gM gU hyes y1 y2 y3 y4 y5 y6 y7 y8 y9 y10
  cases bI
  · exact absurd hpart.1.1 (by decide)
  cases bA
  · exact absurd hpart.1.2.1 (by decide)
  cases bP
  · exact absurd hpart.1.2.2.1 (by decide)
  cases bV
  · exact absurd hpart.1.2.2.2 (by decide)
  by_cases gLV : (V.length : Int) = p1
  case neg =>
    exact absurd hpart.2.1 gLV
  have qLV := int_eqV gLV; have GLV := hide gLV; clear gLV
  by_cases gLF : F.length = S.length
  case neg =>
    exact absurd hpart.2.2.1 gLF
  have qLF := int_eqV (show (F.length : Int) = (S.length : Int) by omega); have GLF := hide gLF; clear gLF
  cases bR
  · exact absurd hpart.2.2.2.1 (by decide)
  cases bM
  · exact absurd hpart.2.2.2.2 (by decide)
  cases bU
  · skip
    have HR := hide (H9.out (bf rfl))
    have HsI := Lib.hid hsI; clear hsI
    have HwA := Lib.hid hwA; clear hwA
    have HP := Lib.hid hP; clear hP
    have HV := Lib.hid hV; clear hV
    have HsR := Lib.hid hsR; clear hsR
    have HwM := Lib.hid hwM; clear hwM
    have HsU := Lib.hid hsU; clear hsU
    clear Hyes H1 H2 H3 H4 H5 H6 H7 H8 H9 H10 hpart
    go_enter Tryz.func70, Tryz.ntmps70
    go_wp2_with (first
      | (go_at_call_of 24 (Value.int .i64 n); refine (HwF.out _).mono ?_; rintro e w1 ⟨rfl, rfl⟩)
      | (go_at_call_of 69 (Value.int .i64 id); refine (HsI.out _).mono ?_; rintro e w1 ⟨rfl, rfl⟩)
      | (go_at_call_of 24 (Value.int .i64 pl); refine (HwA.out _).mono ?_; rintro e w1 ⟨rfl, rfl⟩)
      | (go_at_call_of 68 (Value.slice A3 P.length c3); refine (HP.out _ (by exact Hb3.out)).mono ?_; rintro e w4 ⟨rfl, hb1⟩; have Hb4 := hide (Hb3.out.trans (hb1.mono Hb3.out.size)); have Hk2a := hide (Hk2.out.below hb1); have Hk3a := hide (Hk3.out.below hb1); obtain ⟨u3, u4, u5, u6, u7, u8, u9, ul⟩ := bk_frame Hk2a.out; obtain ⟨z1, z2, z3, zl⟩ := bk_code Hk3a.out; clear hb1)
      | (go_at_call_of 68 (Value.slice A4 V.length c4); refine (HV.out _ (by exact Hb4.out)).mono ?_; rintro e w5 ⟨rfl, hb1⟩; have Hb5 := hide (Hb4.out.trans (hb1.mono Hb4.out.size)); have Hk2b := hide (Hk2a.out.below hb1); have Hk3b := hide (Hk3a.out.below hb1); obtain ⟨u3, u4, u5, u6, u7, u8, u9, ul⟩ := bk_frame Hk2b.out; obtain ⟨z1, z2, z3, zl⟩ := bk_code Hk3b.out; clear hb1)
      | (go_at_call_of 69 (Value.int .i64 rs); refine (HsR.out _).mono ?_; rintro e w1 ⟨rfl, rfl⟩)
      | (go_at_call_of 24 (Value.int .i64 md); refine (HwM.out _).mono ?_; rintro e w1 ⟨rfl, rfl⟩)
      | (go_at_call_of 69 (Value.int .i64 vl); refine (HsU.out _).mono ?_; rintro e w1 ⟨rfl, rfl⟩))
    all_goals
      go_ret
      exact ⟨retB HR.out.symm, Hb5.out⟩
  by_cases g1 : bs = 1
  · subst g1
    have HR := hide (Hyes.out ⟨rfl, rfl, rfl, rfl, GLV.out, GLF.out, rfl, rfl, rfl, .inl rfl⟩)
    have HsI := Lib.hid hsI; clear hsI
    have HwA := Lib.hid hwA; clear hwA
    have HP := Lib.hid hP; clear hP
    have HV := Lib.hid hV; clear hV
    have HsR := Lib.hid hsR; clear hsR
    have HwM := Lib.hid hwM; clear hwM
    have HsU := Lib.hid hsU; clear hsU
    clear Hyes H1 H2 H3 H4 H5 H6 H7 H8 H9 H10 hpart
    go_enter Tryz.func70, Tryz.ntmps70
    go_wp2_with (first
      | (go_at_call_of 24 (Value.int .i64 n); refine (HwF.out _).mono ?_; rintro e w1 ⟨rfl, rfl⟩)
      | (go_at_call_of 69 (Value.int .i64 id); refine (HsI.out _).mono ?_; rintro e w1 ⟨rfl, rfl⟩)
      | (go_at_call_of 24 (Value.int .i64 pl); refine (HwA.out _).mono ?_; rintro e w1 ⟨rfl, rfl⟩)
      | (go_at_call_of 68 (Value.slice A3 P.length c3); refine (HP.out _ (by exact Hb3.out)).mono ?_; rintro e w4 ⟨rfl, hb1⟩; have Hb4 := hide (Hb3.out.trans (hb1.mono Hb3.out.size)); have Hk2a := hide (Hk2.out.below hb1); have Hk3a := hide (Hk3.out.below hb1); obtain ⟨u3, u4, u5, u6, u7, u8, u9, ul⟩ := bk_frame Hk2a.out; obtain ⟨z1, z2, z3, zl⟩ := bk_code Hk3a.out; clear hb1)
      | (go_at_call_of 68 (Value.slice A4 V.length c4); refine (HV.out _ (by exact Hb4.out)).mono ?_; rintro e w5 ⟨rfl, hb1⟩; have Hb5 := hide (Hb4.out.trans (hb1.mono Hb4.out.size)); have Hk2b := hide (Hk2a.out.below hb1); have Hk3b := hide (Hk3a.out.below hb1); obtain ⟨u3, u4, u5, u6, u7, u8, u9, ul⟩ := bk_frame Hk2b.out; obtain ⟨z1, z2, z3, zl⟩ := bk_code Hk3b.out; clear hb1)
      | (go_at_call_of 69 (Value.int .i64 rs); refine (HsR.out _).mono ?_; rintro e w1 ⟨rfl, rfl⟩)
      | (go_at_call_of 24 (Value.int .i64 md); refine (HwM.out _).mono ?_; rintro e w1 ⟨rfl, rfl⟩)
      | (go_at_call_of 69 (Value.int .i64 vl); refine (HsU.out _).mono ?_; rintro e w1 ⟨rfl, rfl⟩))
    all_goals
      go_ret
      exact ⟨retB HR.out.symm, Hb5.out⟩
  by_cases g3 : bs = 3
  · subst g3
    clear g1
    have HR := hide (Hyes.out ⟨rfl, rfl, rfl, rfl, GLV.out, GLF.out, rfl, rfl, rfl, .inr rfl⟩)
    have HsI := Lib.hid hsI; clear hsI
    have HwA := Lib.hid hwA; clear hwA
    have HP := Lib.hid hP; clear hP
    have HV := Lib.hid hV; clear hV
    have HsR := Lib.hid hsR; clear hsR
    have HwM := Lib.hid hwM; clear hwM
    have HsU := Lib.hid hsU; clear hsU
    clear Hyes H1 H2 H3 H4 H5 H6 H7 H8 H9 H10 hpart
    go_enter Tryz.func70, Tryz.ntmps70
    go_wp2_with (first
      | (go_at_call_of 24 (Value.int .i64 n); refine (HwF.out _).mono ?_; rintro e w1 ⟨rfl, rfl⟩)
      | (go_at_call_of 69 (Value.int .i64 id); refine (HsI.out _).mono ?_; rintro e w1 ⟨rfl, rfl⟩)
      | (go_at_call_of 24 (Value.int .i64 pl); refine (HwA.out _).mono ?_; rintro e w1 ⟨rfl, rfl⟩)
      | (go_at_call_of 68 (Value.slice A3 P.length c3); refine (HP.out _ (by exact Hb3.out)).mono ?_; rintro e w4 ⟨rfl, hb1⟩; have Hb4 := hide (Hb3.out.trans (hb1.mono Hb3.out.size)); have Hk2a := hide (Hk2.out.below hb1); have Hk3a := hide (Hk3.out.below hb1); obtain ⟨u3, u4, u5, u6, u7, u8, u9, ul⟩ := bk_frame Hk2a.out; obtain ⟨z1, z2, z3, zl⟩ := bk_code Hk3a.out; clear hb1)
      | (go_at_call_of 68 (Value.slice A4 V.length c4); refine (HV.out _ (by exact Hb4.out)).mono ?_; rintro e w5 ⟨rfl, hb1⟩; have Hb5 := hide (Hb4.out.trans (hb1.mono Hb4.out.size)); have Hk2b := hide (Hk2a.out.below hb1); have Hk3b := hide (Hk3a.out.below hb1); obtain ⟨u3, u4, u5, u6, u7, u8, u9, ul⟩ := bk_frame Hk2b.out; obtain ⟨z1, z2, z3, zl⟩ := bk_code Hk3b.out; clear hb1)
      | (go_at_call_of 69 (Value.int .i64 rs); refine (HsR.out _).mono ?_; rintro e w1 ⟨rfl, rfl⟩)
      | (go_at_call_of 24 (Value.int .i64 md); refine (HwM.out _).mono ?_; rintro e w1 ⟨rfl, rfl⟩)
      | (go_at_call_of 69 (Value.int .i64 vl); refine (HsU.out _).mono ?_; rintro e w1 ⟨rfl, rfl⟩))
    all_goals
      go_ret
      exact ⟨retB HR.out.symm, Hb5.out⟩
  have q1 := int_neV g1; have q3 := int_neV g3; have HR0 := hide (H10.out (fun h => h.elim g1 g3)); clear g1 g3
  have HR := hide (HR0.out)
  have HsI := Lib.hid hsI; clear hsI
  have HwA := Lib.hid hwA; clear hwA
  have HP := Lib.hid hP; clear hP
  have HV := Lib.hid hV; clear hV
  have HsR := Lib.hid hsR; clear hsR
  have HwM := Lib.hid hwM; clear hwM
  have HsU := Lib.hid hsU; clear hsU
  clear Hyes H1 H2 H3 H4 H5 H6 H7 H8 H9 H10 hpart
  go_enter Tryz.func70, Tryz.ntmps70
  go_wp2_with (first
    | (go_at_call_of 24 (Value.int .i64 n); refine (HwF.out _).mono ?_; rintro e w1 ⟨rfl, rfl⟩)
    | (go_at_call_of 69 (Value.int .i64 id); refine (HsI.out _).mono ?_; rintro e w1 ⟨rfl, rfl⟩)
    | (go_at_call_of 24 (Value.int .i64 pl); refine (HwA.out _).mono ?_; rintro e w1 ⟨rfl, rfl⟩)
    | (go_at_call_of 68 (Value.slice A3 P.length c3); refine (HP.out _ (by exact Hb3.out)).mono ?_; rintro e w4 ⟨rfl, hb1⟩; have Hb4 := hide (Hb3.out.trans (hb1.mono Hb3.out.size)); have Hk2a := hide (Hk2.out.below hb1); have Hk3a := hide (Hk3.out.below hb1); obtain ⟨u3, u4, u5, u6, u7, u8, u9, ul⟩ := bk_frame Hk2a.out; obtain ⟨z1, z2, z3, zl⟩ := bk_code Hk3a.out; clear hb1)
    | (go_at_call_of 68 (Value.slice A4 V.length c4); refine (HV.out _ (by exact Hb4.out)).mono ?_; rintro e w5 ⟨rfl, hb1⟩; have Hb5 := hide (Hb4.out.trans (hb1.mono Hb4.out.size)); have Hk2b := hide (Hk2a.out.below hb1); have Hk3b := hide (Hk3a.out.below hb1); obtain ⟨u3, u4, u5, u6, u7, u8, u9, ul⟩ := bk_frame Hk2b.out; obtain ⟨z1, z2, z3, zl⟩ := bk_code Hk3b.out; clear hb1)
    | (go_at_call_of 69 (Value.int .i64 rs); refine (HsR.out _).mono ?_; rintro e w1 ⟨rfl, rfl⟩)
    | (go_at_call_of 24 (Value.int .i64 md); refine (HwM.out _).mono ?_; rintro e w1 ⟨rfl, rfl⟩)
    | (go_at_call_of 69 (Value.int .i64 vl); refine (HsU.out _).mono ?_; rintro e w1 ⟨rfl, rfl⟩))
  all_goals
    go_ret
    exact ⟨retB HR.out.symm, Hb5.out⟩
end Go.Proofs.YtaebmliolpgmdaaGreat
