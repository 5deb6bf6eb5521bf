
/- l8FrameGood of a frame that is not as said: what the Go text returns. No condition. Printed by wip/tools/mk_gv3.py. -/
import Derived.Test.YtaebmliolpgmdaaGreatGvP
set_option linter.unusedSimpArgs false
set_option linter.unusedVariables false
set_option maxRecDepth 100000
namespace Go.Proofs.YtaebmliolpgmdaaGreat
open Go.RowKit Go.Shelf

set_option maxHeartbeats 64000000 in
theorem spec_frame_no (xs fs us : List Value) (x : ImageM) (f a : FrameM) (last : Bool) (w : World) (hx : RImage w 0 w.heap.size xs x) (hf : RFrame w 0 w.heap.size fs f) (ha : RFrame w 0 w.heap.size us a) (hbad : frB x.qCodes f = false) :
    Calls Tryz.prog 64 #[.agg xs.toArray, .agg fs.toArray, .agg us.toArray, .bool last] w fun e w' => e = .returned (.bool false) ∧ Below w.heap.size w w' := by
  obtain ⟨v0, rfl, h0⟩ := hx
  have hl := h0.long
  obtain ⟨A, c, rfl⟩ := h0.form
  obtain ⟨v3, v4, v5, rfl, f3, f4, f5⟩ := hf
  obtain ⟨A3, c3, rfl⟩ := f3.form; obtain ⟨A4, c4, rfl⟩ := f4.form; obtain ⟨A5, c5, rfl⟩ := f5.form
  obtain ⟨v3, v4, v5, rfl, k3, k4, k5⟩ := ha
  obtain ⟨E3, g3, rfl⟩ := k3.form; obtain ⟨E4, g4, rfl⟩ := k4.form; obtain ⟨E5, g5, rfl⟩ := k5.form
  clear k3 k4 k5
  have hyes := @frB_yes x.qCodes f
  rw [hbad] at hyes
  clear hbad
  have hcF := fun (n : Nat) (h : f.qFn = n) hn => @cF_at x.qCodes f n h hn
  unfold frP at hyes
  generalize cF x.qCodes f = C at *
  obtain ⟨id, fn, pl, P, V, F, rs, md, vl, bs, off⟩ := f
  obtain ⟨a0, a1, a2, a3, a4, a5, a6, a7, a8, a9, a10⟩ := a
  dsimp only at *
  have hb2 := (((Below.refl w.heap.size w).alloc (Nat.le_refl _) (.cells #[.slice A x.qCodes.length c] 31)).alloc (by simp) (.cells #[.int .i64 id, .int .i64 fn, .int .i64 pl, .slice A3 P.length c3, .slice A4 V.length c4, .slice A5 F.length c5, .int .i64 rs, .int .i64 md, .int .i64 vl, .int .i64 bs, .bool off] 102)).alloc (by simp; omega) (.cells #[.int .i64 a0, .int .i64 a1, .int .i64 a2, .slice E3 a3.length g3, .slice E4 a4.length g4, .slice E5 a5.length g5, .int .i64 a6, .int .i64 a7, .int .i64 a8, .int .i64 a9, .bool a10] 102)
  have hP := fun W (hW : Below w.heap.size w W) => spec_l8Bounds _ P W _ (f3.here hW).rd
  have hV := fun W (hW : Below w.heap.size w W) => spec_l8Bounds _ V W _ (f4.here hW).rd
  have hwF := fun w => spec_l1In fn 0 (x.qCodes.length - 1) w
  have hwM := fun w => spec_l1In md 0 3 w
  have hsI := fun w => spec_l2Bound id w
  have hsR := fun w => spec_l2Bound rs w
  have hsU := fun w => spec_l2Bound vl w
  generalize gI : smallB id = bI at *
  generalize gP : b32 P = bP at *
  generalize gV : b32 V = bV at *
  generalize gR : smallB rs = bR at *
  generalize gM : inB md 0 3 = bM at *
  generalize gU : smallB vl = bU at *
  clear gI gP gV gR gM gU f3 f4 f5
  have Hb2 := hide hb2; have HP := Lib.hid hP; have HV := Lib.hid hV; have HwM := Lib.hid hwM
  have HsI := Lib.hid hsI; have HsR := Lib.hid hsR; have HsU := Lib.hid hsU
  clear hP hV hwM hsI hsR hsU
  cases hfn : inB fn 0 (x.qCodes.length - 1)
  · simp only [hfn] at hwF
    have HwF := Lib.hid hwF
    clear hyes hcF hb2 hwF hfn h0
    go_enter Tryz.func64, Tryz.ntmps64
    go_wp2_with (go_at_call 42; refine (HwF.out _).mono ?_; rintro e w1 ⟨rfl, rfl⟩)
    go_ret
    exact ⟨rfl, Hb2.out⟩
  simp only [hfn] at hwF
  obtain ⟨n, rfl, hn⟩ := in_nat hfn
  have hyes' := fun q => hyes ⟨hfn, q⟩
  have hCe := hcF n rfl hn
  subst hCe
  obtain ⟨b, o, B2, e2, B3, e3, B4, e4, e9, hbB, d0, d1, d2, d3, d4, hc⟩ := RCode_lit h0 hn
  subst e9
  have hlI : x.qCodes[n].qIns.length ≤ 9223372036854775807 := by
    obtain ⟨_, _, _, _, _, g3, _⟩ := hc
    exact g3.long
  clear hc hcF h0 hyes
  generalize x.qCodes[n] = m at *
  obtain ⟨p0, p1, S, I, Q⟩ := m
  dsimp only at *
  have hnI : (n : Int) < (x.qCodes.length : Int) := by omega
  have hn0 : (0 : Int) ≤ (n : Int) := by omega
  have s0 := (hb2.cell (p := ⟨b, o + n * 5, none⟩) hbB).trans d0
  have s1 := (hb2.cell (p := ⟨b, o + n * 5 + 1, none⟩) hbB).trans d1
  have s2 := (hb2.cell (p := ⟨b, o + n * 5 + 2, none⟩) hbB).trans d2
  have s3 := (hb2.cell (p := ⟨b, o + n * 5 + 3, none⟩) hbB).trans d3
  have s4 := (hb2.cell (p := ⟨b, o + n * 5 + 4, none⟩) hbB).trans d4
  have hb3 := hb2.alloc (by simp; omega) (.cells #[.int .i64 p0, .int .i64 p1, .slice B2 S.length e2, .slice B3 I.length e3, .slice B4 Q.length e4] 58)
  clear d0 d1 d2 d3 d4
  have hwA := fun w => spec_l1In pl 0 (I.length - 1) w
  generalize gA : inB pl 0 (I.length - 1) = bA at *
  have Hb3 := hide hb3; have HwA := Lib.hid hwA
  have HwF := Lib.hid hwF
  have Hyes := Lib.hid hyes'
  clear hb2 hb3 hwF hwA hfn hn gA hyes'
  cases bI
  · skip
    clear Hyes HsR HsU HwM HwA HV HP
    go_enter Tryz.func64, Tryz.ntmps64
    go_wp2_with (first
      | (go_at_call_of 42 (Value.int .i64 n); refine (HwF.out _).mono ?_; rintro e w1 ⟨rfl, rfl⟩)
      | (go_at_call_of 62 (Value.int .i64 id); refine (HsI.out _).mono ?_; rintro e w1 ⟨rfl, rfl⟩))
    all_goals
      go_ret
      exact ⟨rfl, Hb2.out⟩
  cases bR
  · skip
    clear Hyes HsU HwM HwA HV HP
    go_enter Tryz.func64, Tryz.ntmps64
    go_wp2_with (first
      | (go_at_call_of 42 (Value.int .i64 n); refine (HwF.out _).mono ?_; rintro e w1 ⟨rfl, rfl⟩)
      | (go_at_call_of 62 (Value.int .i64 id); refine (HsI.out _).mono ?_; rintro e w1 ⟨rfl, rfl⟩)
      | (go_at_call_of 62 (Value.int .i64 rs); refine (HsR.out _).mono ?_; rintro e w1 ⟨rfl, rfl⟩))
    all_goals
      go_ret
      exact ⟨rfl, Hb2.out⟩
  cases bU
  · skip
    clear Hyes HwM HwA HV HP
    go_enter Tryz.func64, Tryz.ntmps64
    go_wp2_with (first
      | (go_at_call_of 42 (Value.int .i64 n); refine (HwF.out _).mono ?_; rintro e w1 ⟨rfl, rfl⟩)
      | (go_at_call_of 62 (Value.int .i64 id); refine (HsI.out _).mono ?_; rintro e w1 ⟨rfl, rfl⟩)
      | (go_at_call_of 62 (Value.int .i64 rs); refine (HsR.out _).mono ?_; rintro e w1 ⟨rfl, rfl⟩)
      | (go_at_call_of 62 (Value.int .i64 vl); refine (HsU.out _).mono ?_; rintro e w1 ⟨rfl, rfl⟩))
    all_goals
      go_ret
      exact ⟨rfl, Hb2.out⟩
  cases bM
  · skip
    clear Hyes HwA HV HP
    go_enter Tryz.func64, Tryz.ntmps64
    go_wp2_with (first
      | (go_at_call_of 42 (Value.int .i64 n); refine (HwF.out _).mono ?_; rintro e w1 ⟨rfl, rfl⟩)
      | (go_at_call_of 62 (Value.int .i64 id); refine (HsI.out _).mono ?_; rintro e w1 ⟨rfl, rfl⟩)
      | (go_at_call_of 62 (Value.int .i64 rs); refine (HsR.out _).mono ?_; rintro e w1 ⟨rfl, rfl⟩)
      | (go_at_call_of 62 (Value.int .i64 vl); refine (HsU.out _).mono ?_; rintro e w1 ⟨rfl, rfl⟩)
      | (go_at_call_of 42 (Value.int .i64 md); refine (HwM.out _).mono ?_; rintro e w1 ⟨rfl, rfl⟩))
    all_goals
      go_ret
      exact ⟨rfl, Hb2.out⟩
  by_cases gB : bs = 1 ∨ bs = 3
  case neg =>
    have q1 : (bs != 1) = true := bne_iff_ne.2 (by omega); have q3 : (bs != 3) = true := bne_iff_ne.2 (by omega); clear gB
    clear Hyes HwA HV HP
    go_enter Tryz.func64, Tryz.ntmps64
    go_wp2_with (first
      | (go_at_call_of 42 (Value.int .i64 n); refine (HwF.out _).mono ?_; rintro e w1 ⟨rfl, rfl⟩)
      | (go_at_call_of 62 (Value.int .i64 id); refine (HsI.out _).mono ?_; rintro e w1 ⟨rfl, rfl⟩)
      | (go_at_call_of 62 (Value.int .i64 rs); refine (HsR.out _).mono ?_; rintro e w1 ⟨rfl, rfl⟩)
      | (go_at_call_of 62 (Value.int .i64 vl); refine (HsU.out _).mono ?_; rintro e w1 ⟨rfl, rfl⟩)
      | (go_at_call_of 42 (Value.int .i64 md); refine (HwM.out _).mono ?_; rintro e w1 ⟨rfl, rfl⟩))
    all_goals
      go_ret
      exact ⟨rfl, Hb2.out⟩
  have Hbase := hide gB
  rcases gB with rfl | rfl
  · clear Hbase
    cases bA
    · skip
      clear Hyes HV HP
      go_enter Tryz.func64, Tryz.ntmps64
      go_wp2_with (first
        | (go_at_call_of 42 (Value.int .i64 n); refine (HwF.out _).mono ?_; rintro e w1 ⟨rfl, rfl⟩)
        | (go_at_call_of 62 (Value.int .i64 id); refine (HsI.out _).mono ?_; rintro e w1 ⟨rfl, rfl⟩)
        | (go_at_call_of 62 (Value.int .i64 rs); refine (HsR.out _).mono ?_; rintro e w1 ⟨rfl, rfl⟩)
        | (go_at_call_of 62 (Value.int .i64 vl); refine (HsU.out _).mono ?_; rintro e w1 ⟨rfl, rfl⟩)
        | (go_at_call_of 42 (Value.int .i64 md); refine (HwM.out _).mono ?_; rintro e w1 ⟨rfl, rfl⟩)
        | (go_at_call_of 42 (Value.int .i64 pl); refine (HwA.out _).mono ?_; rintro e w1 ⟨rfl, rfl⟩))
      all_goals
        go_ret
        exact ⟨rfl, Hb3.out⟩
    by_cases gLV : (V.length : Int) = p1
    case neg =>
      have qLV : ((V.length : Int) != p1) = true := bne_iff_ne.2 gLV; clear gLV
      clear Hyes HV HP
      go_enter Tryz.func64, Tryz.ntmps64
      go_wp2_with (first
        | (go_at_call_of 42 (Value.int .i64 n); refine (HwF.out _).mono ?_; rintro e w1 ⟨rfl, rfl⟩)
        | (go_at_call_of 62 (Value.int .i64 id); refine (HsI.out _).mono ?_; rintro e w1 ⟨rfl, rfl⟩)
        | (go_at_call_of 62 (Value.int .i64 rs); refine (HsR.out _).mono ?_; rintro e w1 ⟨rfl, rfl⟩)
        | (go_at_call_of 62 (Value.int .i64 vl); refine (HsU.out _).mono ?_; rintro e w1 ⟨rfl, rfl⟩)
        | (go_at_call_of 42 (Value.int .i64 md); refine (HwM.out _).mono ?_; rintro e w1 ⟨rfl, rfl⟩)
        | (go_at_call_of 42 (Value.int .i64 pl); refine (HwA.out _).mono ?_; rintro e w1 ⟨rfl, rfl⟩))
      all_goals
        go_ret
        exact ⟨rfl, Hb3.out⟩
    have qLV : ((V.length : Int) != p1) = false := by rw [gLV]; simp
    have GLV := hide gLV; clear gLV
    by_cases gLF : F.length = S.length
    case neg =>
      have qLF : ((F.length : Int) != (S.length : Int)) = true := bne_iff_ne.2 (by omega); clear gLF
      clear Hyes HV HP
      go_enter Tryz.func64, Tryz.ntmps64
      go_wp2_with (first
        | (go_at_call_of 42 (Value.int .i64 n); refine (HwF.out _).mono ?_; rintro e w1 ⟨rfl, rfl⟩)
        | (go_at_call_of 62 (Value.int .i64 id); refine (HsI.out _).mono ?_; rintro e w1 ⟨rfl, rfl⟩)
        | (go_at_call_of 62 (Value.int .i64 rs); refine (HsR.out _).mono ?_; rintro e w1 ⟨rfl, rfl⟩)
        | (go_at_call_of 62 (Value.int .i64 vl); refine (HsU.out _).mono ?_; rintro e w1 ⟨rfl, rfl⟩)
        | (go_at_call_of 42 (Value.int .i64 md); refine (HwM.out _).mono ?_; rintro e w1 ⟨rfl, rfl⟩)
        | (go_at_call_of 42 (Value.int .i64 pl); refine (HwA.out _).mono ?_; rintro e w1 ⟨rfl, rfl⟩))
      all_goals
        go_ret
        exact ⟨rfl, Hb3.out⟩
    have qLF : ((F.length : Int) != (S.length : Int)) = false := by rw [gLF]; simp
    have GLF := hide gLF; clear gLF
    cases bV
    · skip
      clear Hyes HP
      go_enter Tryz.func64, Tryz.ntmps64
      go_wp2_with (first
        | (go_at_call_of 42 (Value.int .i64 n); refine (HwF.out _).mono ?_; rintro e w1 ⟨rfl, rfl⟩)
        | (go_at_call_of 62 (Value.int .i64 id); refine (HsI.out _).mono ?_; rintro e w1 ⟨rfl, rfl⟩)
        | (go_at_call_of 62 (Value.int .i64 rs); refine (HsR.out _).mono ?_; rintro e w1 ⟨rfl, rfl⟩)
        | (go_at_call_of 62 (Value.int .i64 vl); refine (HsU.out _).mono ?_; rintro e w1 ⟨rfl, rfl⟩)
        | (go_at_call_of 42 (Value.int .i64 md); refine (HwM.out _).mono ?_; rintro e w1 ⟨rfl, rfl⟩)
        | (go_at_call_of 42 (Value.int .i64 pl); refine (HwA.out _).mono ?_; rintro e w1 ⟨rfl, rfl⟩)
        | (go_at_call_of 63 (Value.slice A4 V.length c4); refine (HV.out _ (by exact Hb3.out)).mono ?_; rintro e w5 ⟨rfl, rfl⟩))
      all_goals
        go_ret
        exact ⟨rfl, Hb3.out⟩
    cases bP
    · skip
      clear Hyes
      go_enter Tryz.func64, Tryz.ntmps64
      go_wp2_with (first
        | (go_at_call_of 42 (Value.int .i64 n); refine (HwF.out _).mono ?_; rintro e w1 ⟨rfl, rfl⟩)
        | (go_at_call_of 62 (Value.int .i64 id); refine (HsI.out _).mono ?_; rintro e w1 ⟨rfl, rfl⟩)
        | (go_at_call_of 62 (Value.int .i64 rs); refine (HsR.out _).mono ?_; rintro e w1 ⟨rfl, rfl⟩)
        | (go_at_call_of 62 (Value.int .i64 vl); refine (HsU.out _).mono ?_; rintro e w1 ⟨rfl, rfl⟩)
        | (go_at_call_of 42 (Value.int .i64 md); refine (HwM.out _).mono ?_; rintro e w1 ⟨rfl, rfl⟩)
        | (go_at_call_of 42 (Value.int .i64 pl); refine (HwA.out _).mono ?_; rintro e w1 ⟨rfl, rfl⟩)
        | (go_at_call_of 63 (Value.slice A4 V.length c4); refine (HV.out _ (by exact Hb3.out)).mono ?_; rintro e w5 ⟨rfl, rfl⟩)
        | (go_at_call_of 63 (Value.slice A3 P.length c3); refine (HP.out _ (by exact Hb3.out)).mono ?_; rintro e w4 ⟨rfl, rfl⟩))
      all_goals
        go_ret
        exact ⟨rfl, Hb3.out⟩
    skip
    exact absurd (Hyes.out ⟨rfl, rfl, rfl, rfl, GLV.out, GLF.out, rfl, rfl, rfl, .inl rfl⟩) (by simp)
  · clear Hbase
    cases bA
    · skip
      clear Hyes HV HP
      go_enter Tryz.func64, Tryz.ntmps64
      go_wp2_with (first
        | (go_at_call_of 42 (Value.int .i64 n); refine (HwF.out _).mono ?_; rintro e w1 ⟨rfl, rfl⟩)
        | (go_at_call_of 62 (Value.int .i64 id); refine (HsI.out _).mono ?_; rintro e w1 ⟨rfl, rfl⟩)
        | (go_at_call_of 62 (Value.int .i64 rs); refine (HsR.out _).mono ?_; rintro e w1 ⟨rfl, rfl⟩)
        | (go_at_call_of 62 (Value.int .i64 vl); refine (HsU.out _).mono ?_; rintro e w1 ⟨rfl, rfl⟩)
        | (go_at_call_of 42 (Value.int .i64 md); refine (HwM.out _).mono ?_; rintro e w1 ⟨rfl, rfl⟩)
        | (go_at_call_of 42 (Value.int .i64 pl); refine (HwA.out _).mono ?_; rintro e w1 ⟨rfl, rfl⟩))
      all_goals
        go_ret
        exact ⟨rfl, Hb3.out⟩
    by_cases gLV : (V.length : Int) = p1
    case neg =>
      have qLV : ((V.length : Int) != p1) = true := bne_iff_ne.2 gLV; clear gLV
      clear Hyes HV HP
      go_enter Tryz.func64, Tryz.ntmps64
      go_wp2_with (first
        | (go_at_call_of 42 (Value.int .i64 n); refine (HwF.out _).mono ?_; rintro e w1 ⟨rfl, rfl⟩)
        | (go_at_call_of 62 (Value.int .i64 id); refine (HsI.out _).mono ?_; rintro e w1 ⟨rfl, rfl⟩)
        | (go_at_call_of 62 (Value.int .i64 rs); refine (HsR.out _).mono ?_; rintro e w1 ⟨rfl, rfl⟩)
        | (go_at_call_of 62 (Value.int .i64 vl); refine (HsU.out _).mono ?_; rintro e w1 ⟨rfl, rfl⟩)
        | (go_at_call_of 42 (Value.int .i64 md); refine (HwM.out _).mono ?_; rintro e w1 ⟨rfl, rfl⟩)
        | (go_at_call_of 42 (Value.int .i64 pl); refine (HwA.out _).mono ?_; rintro e w1 ⟨rfl, rfl⟩))
      all_goals
        go_ret
        exact ⟨rfl, Hb3.out⟩
    have qLV : ((V.length : Int) != p1) = false := by rw [gLV]; simp
    have GLV := hide gLV; clear gLV
    by_cases gLF : F.length = S.length
    case neg =>
      have qLF : ((F.length : Int) != (S.length : Int)) = true := bne_iff_ne.2 (by omega); clear gLF
      clear Hyes HV HP
      go_enter Tryz.func64, Tryz.ntmps64
      go_wp2_with (first
        | (go_at_call_of 42 (Value.int .i64 n); refine (HwF.out _).mono ?_; rintro e w1 ⟨rfl, rfl⟩)
        | (go_at_call_of 62 (Value.int .i64 id); refine (HsI.out _).mono ?_; rintro e w1 ⟨rfl, rfl⟩)
        | (go_at_call_of 62 (Value.int .i64 rs); refine (HsR.out _).mono ?_; rintro e w1 ⟨rfl, rfl⟩)
        | (go_at_call_of 62 (Value.int .i64 vl); refine (HsU.out _).mono ?_; rintro e w1 ⟨rfl, rfl⟩)
        | (go_at_call_of 42 (Value.int .i64 md); refine (HwM.out _).mono ?_; rintro e w1 ⟨rfl, rfl⟩)
        | (go_at_call_of 42 (Value.int .i64 pl); refine (HwA.out _).mono ?_; rintro e w1 ⟨rfl, rfl⟩))
      all_goals
        go_ret
        exact ⟨rfl, Hb3.out⟩
    have qLF : ((F.length : Int) != (S.length : Int)) = false := by rw [gLF]; simp
    have GLF := hide gLF; clear gLF
    cases bV
    · skip
      clear Hyes HP
      go_enter Tryz.func64, Tryz.ntmps64
      go_wp2_with (first
        | (go_at_call_of 42 (Value.int .i64 n); refine (HwF.out _).mono ?_; rintro e w1 ⟨rfl, rfl⟩)
        | (go_at_call_of 62 (Value.int .i64 id); refine (HsI.out _).mono ?_; rintro e w1 ⟨rfl, rfl⟩)
        | (go_at_call_of 62 (Value.int .i64 rs); refine (HsR.out _).mono ?_; rintro e w1 ⟨rfl, rfl⟩)
        | (go_at_call_of 62 (Value.int .i64 vl); refine (HsU.out _).mono ?_; rintro e w1 ⟨rfl, rfl⟩)
        | (go_at_call_of 42 (Value.int .i64 md); refine (HwM.out _).mono ?_; rintro e w1 ⟨rfl, rfl⟩)
        | (go_at_call_of 42 (Value.int .i64 pl); refine (HwA.out _).mono ?_; rintro e w1 ⟨rfl, rfl⟩)
        | (go_at_call_of 63 (Value.slice A4 V.length c4); refine (HV.out _ (by exact Hb3.out)).mono ?_; rintro e w5 ⟨rfl, rfl⟩))
      all_goals
        go_ret
        exact ⟨rfl, Hb3.out⟩
    cases bP
    · skip
      clear Hyes
      go_enter Tryz.func64, Tryz.ntmps64
      go_wp2_with (first
        | (go_at_call_of 42 (Value.int .i64 n); refine (HwF.out _).mono ?_; rintro e w1 ⟨rfl, rfl⟩)
        | (go_at_call_of 62 (Value.int .i64 id); refine (HsI.out _).mono ?_; rintro e w1 ⟨rfl, rfl⟩)
        | (go_at_call_of 62 (Value.int .i64 rs); refine (HsR.out _).mono ?_; rintro e w1 ⟨rfl, rfl⟩)
        | (go_at_call_of 62 (Value.int .i64 vl); refine (HsU.out _).mono ?_; rintro e w1 ⟨rfl, rfl⟩)
        | (go_at_call_of 42 (Value.int .i64 md); refine (HwM.out _).mono ?_; rintro e w1 ⟨rfl, rfl⟩)
        | (go_at_call_of 42 (Value.int .i64 pl); refine (HwA.out _).mono ?_; rintro e w1 ⟨rfl, rfl⟩)
        | (go_at_call_of 63 (Value.slice A4 V.length c4); refine (HV.out _ (by exact Hb3.out)).mono ?_; rintro e w5 ⟨rfl, rfl⟩)
        | (go_at_call_of 63 (Value.slice A3 P.length c3); refine (HP.out _ (by exact Hb3.out)).mono ?_; rintro e w4 ⟨rfl, rfl⟩))
      all_goals
        go_ret
        exact ⟨rfl, Hb3.out⟩
    skip
    exact absurd (Hyes.out ⟨rfl, rfl, rfl, rfl, GLV.out, GLF.out, rfl, rfl, rfl, .inr rfl⟩) (by simp)
end Go.Proofs.YtaebmliolpgmdaaGreat
