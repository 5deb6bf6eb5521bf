
/- endOf, EndOf: what the Go text returns. No condition. -/
import Derived.Test.YtaebmliolpgmdaaEn2
set_option linter.unusedSimpArgs false
set_option linter.unusedVariables false
set_option maxRecDepth 100000
namespace Go.Proofs.Ytaebmliolpgmdaa
open Go.RowKit

set_option maxHeartbeats 3200000 in
theorem impl_endOf (cs : List Value) (m : VmM) (w : World) (hr : RVm w 0 w.heap.size cs m) (hl : m.qTrace.length ≤ 1048576) (h0 : 0 ≤ m.qCode) (h4 : m.qCode ≤ 4) :
    Calls Try.prog 51 #[.agg cs.toArray] w fun e w' => ∃ v', e = .returned (ocV (enC m.qCode) (enV m.qCode m.qValue) v' m.qUsed) ∧ w'.ownsRow w.heap.size 3 1 v' m.qTrace.length (icells .i64 m.qTrace) ∧ Below w.heap.size w w' := by
  obtain ⟨v0, v1, v6, rfl, f0, f1, f6⟩ := hr
  obtain ⟨A0, C0, rfl⟩ := f0.form
  obtain ⟨A1, C1, rfl⟩ := f1.form
  obtain ⟨A6, C6, rfl⟩ := f6.form
  obtain ⟨F, T, U, C, V, M, N⟩ := m
  dsimp only at *
  have hc := fun W (hW : Below w.heap.size w W) => slices_CloneI _ T W (f1.here hW).rd hl
  have hb := ((Below.refl w.heap.size w).alloc (Nat.le_refl _) (.cells #[.slice A0 F.length C0, .slice A1 T.length C1, .int .i64 U, .int .i64 C, .int .i64 V, .int .i64 M, .slice A6 N.length C6] 46)).alloc (by simp) (.cells #[.int .i64 0, .int .i64 0, .slice none 0 0, .int .i64 0] 50)
  have hk := (Bk.new w 46 #[.slice A0 F.length C0, .slice A1 T.length C1, .int .i64 U, .int .i64 C, .int .i64 V, .int .i64 M, .slice A6 N.length C6]).alloc (.cells #[.int .i64 0, .int .i64 0, .slice none 0 0, .int .i64 0] 50)
  have hs := vmS_mk ⟨hk, hb⟩
  have HC := Lib.hid hc; have Hs := hide hs; have Hb := hide hb; have Hk := hide hk
  clear hc hb hk f0 f1 f6 hs
  go_enter Try.func51, Try.ntmps51
  go_upto_region 1 with fail
  go_cut [3] from 3 to 11 (fun p wx => ∃ (g3 : Nat) (u : Value), p = .pointer (some ⟨g3, 0, none⟩) ∧ EndS w g3 u (.slice A0 F.length C0) (.slice A1 T.length C1) (.slice A6 N.length C6) U C V M T wx)
  case first =>
    go_region_held3 (fun w' => w'.cell? ⟨w.heap.size, 1, none⟩ = some (.slice A1 T.length C1) ∧ w'.cell? ⟨w.heap.size, 2, none⟩ = some (.int .i64 U) ∧ w'.cell? ⟨w.heap.size, 3, none⟩ = some (.int .i64 C) ∧ Hold w w.heap.size 46 #[.slice A0 F.length C0, .slice A1 T.length C1, .int .i64 U, .int .i64 C, .int .i64 V, .int .i64 M, .slice A6 N.length C6] w')
      (first
        | with_reducible exact vmS_drew Hs.out
        | with_reducible exact vmS_drew (vmS_alloc Hs.out _)
        | with_reducible exact vmS_alloc (by assumption) _
        | with_reducible exact vmS_below (by assumption) Hb1
        | with_reducible exact vmS_alloc Hv1.out _
        | with_reducible exact vmS_set (vmS_set (vmS_set (vmS_set Hv1.out _ _ (by omega) (by omega)) _ _ (by omega) (by omega)) _ _ (by omega) (by omega)) _ _ (by omega) (by omega))
      ((go_at_call 85; refine (HC.out _ (vmS_b (by assumption))).mono ?_; rintro e w1 ⟨u, rfl, hown, hb1⟩; obtain ⟨Au, Cu, rfl⟩ := own_form hown; obtain ⟨hc1, hf1⟩ := bcellE hb1; have hz1 := hb1.size; have Hb1 := hide hb1; have Ho1 := hide hown; have Hv1 := hide (vmS_below (by assumption) Hb1); clear hb1 hown))
    · clear hc1 hf1 hz1
      go_wp2_with fail
      go_meet
      case rel => exact ⟨_, _, rfl, endS_a Hv1.out Hb1.out Ho1.out⟩
    · clear hc1 hf1 hz1
      go_wp2_with fail
      go_meet
      case rel => exact ⟨_, _, rfl, endS_b Hv1.out Hb1.out Ho1.out⟩
  obtain ⟨g3, u, rfl, he⟩ := hcut
  obtain ⟨hs, hr, ho, hown, hge, hne⟩ := he
  obtain ⟨Au, Cu, rfl⟩ := own_form hown
  obtain ⟨x1, x2, x3, xh⟩ := hs
  have x4 := xh.1.cell 4; have xl := xh.1.lt
  have r0 := hr.cell 0; have r1 := hr.cell 1; have r2 := hr.cell 2; have r3 := hr.cell 3; have rl := hr.lt
  have rf0 := hr.frozen 0; have rf1 := hr.frozen 1; have rf2 := hr.frozen 2; have rf3 := hr.frozen 3
  have o0 := ho.cell 0; have o1 := ho.cell 1; have o2 := ho.cell 2; have o3 := ho.cell 3; have ol := ho.lt
  have of0 := ho.frozen 0; have of1 := ho.frozen 1
  have n1 : ¬ (w.heap.size = g3) := by omega
  have n2 : ¬ (w.heap.size + 1 = g3) := by omega
  have n3 : ¬ (g3 = w.heap.size + 1) := by omega
  have n4 : ¬ (g3 = w.heap.size) := by omega
  have Hown := hide hown; have Hne := Lib.hid hne; have Hxh := hide xh.2
  have Hge := hide hge
  clear hown hne xh hr ho HC Hs Hb Hk x1 x2 h0 h4 hl
  by_cases hC0 : C = 0
  · subst hC0
    go_wp2
    refine bodyPost_ret (v := ocV 5 0 (.slice Au T.length Cu) U) (by simp [results, Try.results51, go_sem, r0, r1, r2, r3, rl, o0, o1, o2, o3, ol, n1, n2, n3, n4]) rfl ⟨_, rfl, ?_, ?_⟩
    · iterate 4 (with_reducible refine own_setq ?_ _ _ (fun k hk => (Hne.out k hk).2))
      (first | with_reducible exact Hown.out | with_reducible exact own_setq Hown.out _ _ (fun k hk => (Hne.out k hk).1))
    · iterate 4 (with_reducible refine below_setq ?_ (Nat.le_succ _) _ _)
      (first | with_reducible exact Hxh.out | with_reducible exact below_setq Hxh.out (Nat.le_of_succ_le (Nat.le_of_lt Hge.out)) _ _)
  · have e0 : (C == 0) = false := beq_eq_false_iff_ne.2 hC0
    by_cases hC1 : C = 1
    · subst hC1
      go_wp2
      refine bodyPost_ret (v := ocV 1 V (.slice Au T.length Cu) U) (by simp [results, Try.results51, go_sem, r0, r1, r2, r3, rl, o0, o1, o2, o3, ol, n1, n2, n3, n4]) rfl ⟨_, rfl, ?_, ?_⟩
      · iterate 4 (with_reducible refine own_setq ?_ _ _ (fun k hk => (Hne.out k hk).2))
        (first | with_reducible exact Hown.out | with_reducible exact own_setq Hown.out _ _ (fun k hk => (Hne.out k hk).1))
      · iterate 4 (with_reducible refine below_setq ?_ (Nat.le_succ _) _ _)
        (first | with_reducible exact Hxh.out | with_reducible exact below_setq Hxh.out (Nat.le_of_succ_le (Nat.le_of_lt Hge.out)) _ _)
    · have e1 : (C == 1) = false := beq_eq_false_iff_ne.2 hC1
      by_cases hC2 : C = 2
      · subst hC2
        go_wp2
        refine bodyPost_ret (v := ocV 2 V (.slice Au T.length Cu) U) (by simp [results, Try.results51, go_sem, r0, r1, r2, r3, rl, o0, o1, o2, o3, ol, n1, n2, n3, n4]) rfl ⟨_, rfl, ?_, ?_⟩
        · iterate 4 (with_reducible refine own_setq ?_ _ _ (fun k hk => (Hne.out k hk).2))
          (first | with_reducible exact Hown.out | with_reducible exact own_setq Hown.out _ _ (fun k hk => (Hne.out k hk).1))
        · iterate 4 (with_reducible refine below_setq ?_ (Nat.le_succ _) _ _)
          (first | with_reducible exact Hxh.out | with_reducible exact below_setq Hxh.out (Nat.le_of_succ_le (Nat.le_of_lt Hge.out)) _ _)
      · have e2 : (C == 2) = false := beq_eq_false_iff_ne.2 hC2
        have HE := hide (show enC C = C ∧ enV C V = 0 from ⟨if_neg hC0, if_neg (by omega)⟩)
        clear hC0 hC1 hC2
        go_wp2
        refine bodyPost_ret (v := ocV C 0 (.slice Au T.length Cu) U) (by simp [results, Try.results51, go_sem, r0, r1, r2, r3, rl, o0, o1, o2, o3, ol, n1, n2, n3, n4]) rfl ⟨_, by rw [HE.out.1, HE.out.2], ?_, ?_⟩
        · iterate 4 (with_reducible refine own_setq ?_ _ _ (fun k hk => (Hne.out k hk).2))
          (first | with_reducible exact Hown.out | with_reducible exact own_setq Hown.out _ _ (fun k hk => (Hne.out k hk).1))
        · iterate 4 (with_reducible refine below_setq ?_ (Nat.le_succ _) _ _)
          (first | with_reducible exact Hxh.out | with_reducible exact below_setq Hxh.out (Nat.le_of_succ_le (Nat.le_of_lt Hge.out)) _ _)

def endOk (m : VmM) : Prop := 0 ≤ m.qCode ∧ m.qCode ≤ 4
noncomputable def endB (m : VmM) : Bool := inB m.qCode 0 4
def eC (m : VmM) : Int := if inB m.qCode 0 4 = true then enC m.qCode else 0
def eV (m : VmM) : Int := if inB m.qCode 0 4 = true then enV m.qCode m.qValue else 0
def eT (m : VmM) : List Int := if inB m.qCode 0 4 = true then m.qTrace else []
def eU (m : VmM) : Int := if inB m.qCode 0 4 = true then m.qUsed else 0

theorem own_set4 {w w1 : World} {v0 v1 v6 v : Value} {U C V M : Int} {n : Nat} {xs : List Value} {a b c d : Value} (ho : w1.ownsRow (w0O w v0 v1 v6 U C V M).heap.size 3 1 v n xs) :
    ((((w1.setCell ⟨w.heap.size + 1, 0, none⟩ a).setCell ⟨w.heap.size + 1, 1, none⟩ b).setCell ⟨w.heap.size + 1, 2, none⟩ c).setCell ⟨w.heap.size + 1, 3, none⟩ d).ownsRow w.heap.size 3 1 v n xs := by
  have hsz : (w0O w v0 v1 v6 U C V M).heap.size = w.heap.size + 1 + 1 := by simp
  have hge := own_ge ho
  rw [hsz] at hge
  have hno : ∀ k, v.ownBlock = some k → k ≠ w.heap.size + 1 := fun k hk => by have := hge k hk; omega
  exact own_setq (own_setq (own_setq (own_setq (own_base ho (by rw [hsz]; omega)) _ _ hno) _ _ hno) _ _ hno) _ _ hno
theorem below_set4 {w w1 : World} {v0 v1 v6 : Value} {U C V M : Int} {a b c d : Value} (h0 : Below w.heap.size w (w0O w v0 v1 v6 U C V M)) (hb : Below (w0O w v0 v1 v6 U C V M).heap.size (w0O w v0 v1 v6 U C V M) w1) :
    Below w.heap.size w ((((w1.setCell ⟨w.heap.size + 1, 0, none⟩ a).setCell ⟨w.heap.size + 1, 1, none⟩ b).setCell ⟨w.heap.size + 1, 2, none⟩ c).setCell ⟨w.heap.size + 1, 3, none⟩ d) := by
  exact below_setq (below_setq (below_setq (below_setq (h0.trans (hb.mono (by simp; omega))) (by omega) _ _) (by omega) _ _) (by omega) _ _) (by omega) _ _
theorem below_re {w : World} {v0 v1 v6 : Value} {U C V M : Int} (h0 : Below w.heap.size w (w0O w v0 v1 v6 U C V M)) : Below w.heap.size w (w0O w v0 v1 v6 U C V M) := h0
set_option maxHeartbeats 3200000 in
theorem spec_EndOf (cs : List Value) (m : VmM) (w : World) (hr : RVm w 0 w.heap.size cs m) (hl : m.qTrace.length ≤ 1048576) :
    Calls Try.prog 19 #[.agg cs.toArray] w fun e w' => ∃ v', e = .returned (.tuple #[ocV (eC m) (eV m) v' (eU m), .bool (endB m)]) ∧ w'.ownsRow w.heap.size 3 1 v' (eT m).length (icells .i64 (eT m)) ∧ Below w.heap.size w w' := by
  have hc := fun W (hW : Below w.heap.size w W) (h : inB m.qCode 0 4 = true) => spec_l8End cs m W (RVm_stable.here hr hW) hl (inB_iff.1 h).1 (inB_iff.1 h).2
  have hin := fun w => spec_l1In m.qCode 0 4 w
  unfold eC eV eT eU endB
  obtain ⟨v0, v1, v6, rfl, f0, f1, f6⟩ := hr
  obtain ⟨A0, C0, rfl⟩ := f0.form
  obtain ⟨A1, C1, rfl⟩ := f1.form
  obtain ⟨A6, C6, rfl⟩ := f6.form
  have hb := ((Below.refl w.heap.size w).alloc (Nat.le_refl _) (.cells #[.slice A0 m.qFrames.length C0, .slice A1 m.qTrace.length C1, .int .i64 m.qUsed, .int .i64 m.qCode, .int .i64 m.qValue, .int .i64 m.qMade, .slice A6 m.qNotes.length C6] 46)).alloc (by simp) (.cells #[.int .i64 0, .int .i64 0, .slice none 0 0, .int .i64 0] 50)
  have hk := (Bk.new w 46 #[.slice A0 m.qFrames.length C0, .slice A1 m.qTrace.length C1, .int .i64 m.qUsed, .int .i64 m.qCode, .int .i64 m.qValue, .int .i64 m.qMade, .slice A6 m.qNotes.length C6]).alloc (.cells #[.int .i64 0, .int .i64 0, .slice none 0 0, .int .i64 0] 50)
  have hrv := rv_bk w (.slice A0 m.qFrames.length C0) (.slice A1 m.qTrace.length C1) (.slice A6 m.qNotes.length C6) m.qUsed m.qCode m.qValue m.qMade
  have Hb := hide hb; have Hk := hide hk; have Hrv := hide hrv
  clear hb hk hrv f0 f1 f6
  cases hi : inB m.qCode 0 4
  · simp only [hi] at hin
    have Hin := Lib.hid hin
    clear hc hin hi
    simp only [Bool.false_eq_true, if_false]
    go_enter Try.func19, Try.ntmps19
    go_wp2_with (go_at_call 27; refine (Hin.out _).mono ?_; rintro e w1 ⟨rfl, rfl⟩)
    refine bodyPost_ret (v := .tuple #[ocV 0 0 (.slice none 0 0) 0, .bool false]) (by simp [results, Try.results19, go_sem]) rfl ⟨_, rfl, ?_, ?_⟩
    · exact World.ownsRow_nil _ _ _ _
    · with_reducible exact below_re Hb.out
  · have hC := fun W hW => hc W hW hi
    simp only [hi] at hin
    have Hin := Lib.hid hin; have HC := Lib.hid hC
    clear hc hin hi hC
    simp only [if_true]
    generalize enC m.qCode = EC at *
    generalize enV m.qCode m.qValue = EV at *
    obtain ⟨F, T, U, C, V, M, N⟩ := m
    dsimp only at *
    go_enter Try.func19, Try.ntmps19
    go_wp2_with (first
      | (go_at_call 27; refine (Hin.out _).mono ?_; rintro e w1 ⟨rfl, rfl⟩)
      | (go_at_call 50; refine (HC.out _ Hb.out).mono ?_; rintro e w1 ⟨u, rfl, hown, hb1⟩; obtain ⟨Au, Cu, rfl⟩ := own_form hown; have Hr1 := hide (Hrv.out.below hb1); have r0 := Hr1.out.cell 0; have r1 := Hr1.out.cell 1; have r2 := Hr1.out.cell 2; have r3 := Hr1.out.cell 3; have rl := Hr1.out.lt; have rf0 := Hr1.out.frozen 0; have rf1 := Hr1.out.frozen 1; have rf2 := Hr1.out.frozen 2; have rf3 := Hr1.out.frozen 3; have Hb1 := hide hb1; have Ho1 := hide hown; clear hb1 hown))
    refine bodyPost_ret (v := .tuple #[ocV EC EV (.slice Au T.length Cu) U, .bool true]) (by simp [results, Try.results19, go_sem, r0, r1, r2, r3, rl]) rfl ⟨_, rfl, ?_, ?_⟩
    · exact own_set4 Ho1.out
    · exact below_set4 Hb.out Hb1.out
set_option maxHeartbeats 3200000 in
theorem impl_EndOf (cs : List Value) (m : VmM) (w : World) (hr : RVm w 0 w.heap.size cs m) (hl : m.qTrace.length ≤ 1048576) :
    Calls Try.prog 20 #[.agg cs.toArray] w fun e w' => ∃ v', e = .returned (.tuple #[ocV (eC m) (eV m) v' (eU m), .bool (endB m)]) ∧ w'.ownsRow w.heap.size 3 1 v' (eT m).length (icells .i64 (eT m)) ∧ Below w.heap.size w w' := by
  have hc := fun W (hW : Below w.heap.size w W) (h : inB m.qCode 0 4 = true) => impl_endOf cs m W (RVm_stable.here hr hW) hl (inB_iff.1 h).1 (inB_iff.1 h).2
  have hin := fun w => impl_within m.qCode 0 4 w
  unfold eC eV eT eU endB
  obtain ⟨v0, v1, v6, rfl, f0, f1, f6⟩ := hr
  obtain ⟨A0, C0, rfl⟩ := f0.form
  obtain ⟨A1, C1, rfl⟩ := f1.form
  obtain ⟨A6, C6, rfl⟩ := f6.form
  have hb := ((Below.refl w.heap.size w).alloc (Nat.le_refl _) (.cells #[.slice A0 m.qFrames.length C0, .slice A1 m.qTrace.length C1, .int .i64 m.qUsed, .int .i64 m.qCode, .int .i64 m.qValue, .int .i64 m.qMade, .slice A6 m.qNotes.length C6] 46)).alloc (by simp) (.cells #[.int .i64 0, .int .i64 0, .slice none 0 0, .int .i64 0] 50)
  have hk := (Bk.new w 46 #[.slice A0 m.qFrames.length C0, .slice A1 m.qTrace.length C1, .int .i64 m.qUsed, .int .i64 m.qCode, .int .i64 m.qValue, .int .i64 m.qMade, .slice A6 m.qNotes.length C6]).alloc (.cells #[.int .i64 0, .int .i64 0, .slice none 0 0, .int .i64 0] 50)
  have hrv := rv_bk w (.slice A0 m.qFrames.length C0) (.slice A1 m.qTrace.length C1) (.slice A6 m.qNotes.length C6) m.qUsed m.qCode m.qValue m.qMade
  have Hb := hide hb; have Hk := hide hk; have Hrv := hide hrv
  clear hb hk hrv f0 f1 f6
  cases hi : inB m.qCode 0 4
  · simp only [hi] at hin
    have Hin := Lib.hid hin
    clear hc hin hi
    simp only [Bool.false_eq_true, if_false]
    go_enter Try.func20, Try.ntmps20
    go_wp2_with (go_at_call 31; refine (Hin.out _).mono ?_; rintro e w1 ⟨rfl, rfl⟩)
    refine bodyPost_ret (v := .tuple #[ocV 0 0 (.slice none 0 0) 0, .bool false]) (by simp [results, Try.results20, go_sem]) rfl ⟨_, rfl, ?_, ?_⟩
    · exact World.ownsRow_nil _ _ _ _
    · with_reducible exact below_re Hb.out
  · have hC := fun W hW => hc W hW hi
    simp only [hi] at hin
    have Hin := Lib.hid hin; have HC := Lib.hid hC
    clear hc hin hi hC
    simp only [if_true]
    generalize enC m.qCode = EC at *
    generalize enV m.qCode m.qValue = EV at *
    obtain ⟨F, T, U, C, V, M, N⟩ := m
    dsimp only at *
    go_enter Try.func20, Try.ntmps20
    go_wp2_with (first
      | (go_at_call 31; refine (Hin.out _).mono ?_; rintro e w1 ⟨rfl, rfl⟩)
      | (go_at_call 51; refine (HC.out _ Hb.out).mono ?_; rintro e w1 ⟨u, rfl, hown, hb1⟩; obtain ⟨Au, Cu, rfl⟩ := own_form hown; have Hr1 := hide (Hrv.out.below hb1); have r0 := Hr1.out.cell 0; have r1 := Hr1.out.cell 1; have r2 := Hr1.out.cell 2; have r3 := Hr1.out.cell 3; have rl := Hr1.out.lt; have rf0 := Hr1.out.frozen 0; have rf1 := Hr1.out.frozen 1; have rf2 := Hr1.out.frozen 2; have rf3 := Hr1.out.frozen 3; have Hb1 := hide hb1; have Ho1 := hide hown; clear hb1 hown))
    refine bodyPost_ret (v := .tuple #[ocV EC EV (.slice Au T.length Cu) U, .bool true]) (by simp [results, Try.results20, go_sem, r0, r1, r2, r3, rl]) rfl ⟨_, rfl, ?_, ?_⟩
    · exact own_set4 Ho1.out
    · exact below_set4 Hb.out Hb1.out
end Go.Proofs.Ytaebmliolpgmdaa
