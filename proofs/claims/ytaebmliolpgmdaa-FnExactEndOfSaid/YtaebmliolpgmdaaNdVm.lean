
/- Vm in memory: what toVm, szVm, eqVm and their kin over slices do. No condition. -/
import Derived.Test.YtaebmliolpgmdaaNst
import Derived.Test.YtaebmliolpgmdaaNst2
import Derived.Test.YtaebmliolpgmdaaNdFrame
import Derived.Test.YtaebmliolpgmdaaSl6
import Derived.Handy
import Derived.Deep.Light
import Derived.Deep.QuietTactic
import Derived.BigQuiet
import Derived.StillTailTactics
import Derived.Deep.RegionWith
import Derived.Test.YtaebmliolpgmdaaRowM
set_option linter.unusedSimpArgs false
set_option linter.unusedVariables false
set_option maxRecDepth 100000
namespace Go.Proofs.Ytaebmliolpgmdaa
open Go.RowKit

set_option maxHeartbeats 400000 in
theorem toNote (a b c : Int) (w : World) :
    Calls Try.prog 80 #[.agg #[.int .i64 a, .int .i64 b, .int .i64 c]] w fun e w' => e = .returned (.agg #[.int .i64 a, .int .i64 b, .int .i64 c]) ∧ Below w.heap.size w w' := by
  go_enter Try.func80, Try.ntmps80
  go_wp2
  go_returns
  exact ⟨rfl, by go_grown⟩

theorem okNote : SliceOk Try.prog 44 76 (.agg #[.int .i64 0, .int .i64 0, .int .i64 0]) 3 24 := .mk Try.underlying44 (by kernel_rfl) rfl (by decide)

set_option maxHeartbeats 400000 in
theorem toNoteS (v : Value) (l : List R3) (w : World) (hr : Rd w w.heap.size v l.length (rcells l)) (hl : l.length ≤ 1048576) :
    Calls Try.prog 42 #[v] w fun e w' => ∃ v', e = .returned v' ∧ w'.ownsRow w.heap.size 76 3 v' l.length (rcells l) ∧ Below w.heap.size w w' := by
  obtain ⟨A, c, rfl, hn, hc, hcell⟩ := id hr
  have Hr := hide hr; clear hr hcell
  go_enter Try.func42, Try.ntmps42
  go_wp2_with (at_make; go_must (refine wpList_makeN rfl _ _ _ rfl okNote l.length rfl rfl (by omega) (by unfold maxLen; omega) ?_); intro w1 hown1 hb1)
  go_loopw [4] (fun i wr => ∃ k : Nat, k ≤ l.length ∧ i = .int .i64 k ∧ wr.ownsRow w.heap.size 76 3 (.slice (some ⟨w.heap.size, 0, none⟩) l.length l.length) l.length (rcells (filledA ⟨0, 0, 0⟩ l k)) ∧ Below w.heap.size w wr) (fun i _ => l.length - (intOf i).toNat)
  case atStart => exact ⟨0, by omega, rfl, by rw [filledA_zero]; have := made_cells #[.int .i64 0, .int .i64 0, .int .i64 0] l.length (by decide); rw [show rcells (List.replicate l.length ⟨0, 0, 0⟩) = (List.replicate l.length [.int .i64 0, .int .i64 0, .int .i64 0]).flatten by rw [rcells, List.flatMap_replicate]; rfl]; rw [← this]; exact hown1, hb1⟩
  case round =>
    obtain ⟨k, hk, rfl, hown, hb⟩ := hrel
    by_cases hlt : k < l.length
    · obtain ⟨g0, g1, g2⟩ := rcells_get l k hlt
      obtain ⟨b, o, rfl, hbB, s0⟩ := Hr.out.at3 g0
      obtain ⟨_, _, e, _, s1⟩ := Hr.out.at3 g1
      cases e
      obtain ⟨_, _, e, _, s2⟩ := Hr.out.at3 g2
      cases e
      have hs0 := (hb.cell (p := ⟨b, o + k * 3, none⟩) hbB).trans s0
      have hs1 := (hb.cell (p := ⟨b, o + (k * 3 + 1), none⟩) hbB).trans s1
      have hs2 := (hb.cell (p := ⟨b, o + (k * 3 + 2), none⟩) hbB).trans s2
      rw [← Nat.add_assoc] at hs1 hs2
      have Hown := hide hown; have Hb := hide hb; clear hown hb s0 s1 s2 g0 g1 g2 Hr hown1 hb1
      go_wp2_with fail
      refine (toNote _ _ _ _).mono ?_
      rintro e w2 ⟨rfl, hb2⟩
      have hown2 := own_keep Hown.out hb2
      obtain ⟨d0, hd0⟩ := own_at hown2 (j := k * 3) (by omega)
      obtain ⟨d1, hd1⟩ := own_at hown2 (j := k * 3 + 1) (by omega)
      obtain ⟨d2, hd2⟩ := own_at hown2 (j := k * 3 + 2) (by omega)
      have hf0 := hown2.frozenAt (k * 3)
      have hf1 := hown2.frozenAt (k * 3 + 1)
      have hf2 := hown2.frozenAt (k * 3 + 2)
      have Hown2 := hide hown2; have Hb2 := hide (Hb.out.trans (hb2.mono Hb.out.size)); clear hown2 hb2
      go_wp2
      go_roundw
      case rel =>
        refine ⟨k + 1, by omega, by go_num, ?_, ((Hb2.out.setCell (Nat.le_refl _) _).setCell (Nat.le_refl _) _).setCell (Nat.le_refl _) _⟩
        have := own_set (own_set (own_set Hown2.out (k * 3) (.int .i64 l[k].f)) (k * 3 + 1) (.int .i64 l[k].t)) (k * 3 + 2) (.int .i64 l[k].p)
        rw [rcells_set _ _ _ (by rw [filledA_length _ _ _ (by omega)]; exact hlt), filledA_set _ _ _ hlt] at this
        exact this
      case measure => simp [intOf]; omega
    · obtain rfl : k = l.length := by omega
      go_wp2
      go_ret
      exact ⟨_, rfl, by rw [filledA_all] at hown; exact hown, hb⟩

set_option maxHeartbeats 400000 in
theorem eqNote (a b c : Int) (w : World) :
    Calls Try.prog 83 #[.agg #[.int .i64 a, .int .i64 b, .int .i64 c], .agg #[.int .i64 a, .int .i64 b, .int .i64 c]] w fun e w' => e = .returned (.bool true) ∧ Below w.heap.size w w' := by
  go_enter Try.func83, Try.ntmps83
  go_wp2
  go_returns
  exact ⟨rfl, by go_grown⟩

set_option maxHeartbeats 400000 in
theorem eqNoteS (v v2 : Value) (l : List R3) (w : World) (hr : Rd w w.heap.size v l.length (rcells l)) (hr2 : Rd w w.heap.size v2 l.length (rcells l)) (hl : l.length ≤ 9223372036854775807) :
    Calls Try.prog 49 #[v, v2] w fun e w' => e = .returned (.bool true) ∧ Below w.heap.size w w' := by
  obtain ⟨A, c, rfl, hn, hc, hcell⟩ := id hr
  obtain ⟨A2, c2, rfl, hn2, hc2, hcell2⟩ := id hr2
  have Hr := hide hr; have Hr2 := hide hr2; clear hr hr2 hcell hcell2
  go_enter Try.func49, Try.ntmps49
  go_wp2
  go_loopw [5] (fun i wr => ∃ k : Nat, k ≤ l.length ∧ i = .int .i64 k ∧ Below w.heap.size w wr) (fun i _ => l.length - (intOf i).toNat)
  case atStart => exact ⟨0, by omega, rfl, Below.refl _ _⟩
  case round =>
    obtain ⟨k, hk, rfl, hb⟩ := hrel
    by_cases hlt : k < l.length
    · obtain ⟨g0, g1, g2⟩ := rcells_get l k hlt
      obtain ⟨b, o, rfl, hbB, s0⟩ := Hr.out.at3 g0
      obtain ⟨_, _, e, _, s1⟩ := Hr.out.at3 g1
      cases e
      obtain ⟨_, _, e, _, s2⟩ := Hr.out.at3 g2
      cases e
      have hs0 := (hb.cell (p := ⟨b, o + k * 3, none⟩) hbB).trans s0
      have hs1 := (hb.cell (p := ⟨b, o + (k * 3 + 1), none⟩) hbB).trans s1
      have hs2 := (hb.cell (p := ⟨b, o + (k * 3 + 2), none⟩) hbB).trans s2
      rw [← Nat.add_assoc] at hs1 hs2
      obtain ⟨b2, o2, rfl, hbB2, s0'⟩ := Hr2.out.at3 g0
      obtain ⟨_, _, e, _, s1'⟩ := Hr2.out.at3 g1
      cases e
      obtain ⟨_, _, e, _, s2'⟩ := Hr2.out.at3 g2
      cases e
      have hz0 := (hb.cell (p := ⟨b2, o2 + k * 3, none⟩) hbB2).trans s0'
      have hz1 := (hb.cell (p := ⟨b2, o2 + (k * 3 + 1), none⟩) hbB2).trans s1'
      have hz2 := (hb.cell (p := ⟨b2, o2 + (k * 3 + 2), none⟩) hbB2).trans s2'
      rw [← Nat.add_assoc] at hz1 hz2
      have Hb := hide hb; clear hb s0 s1 s2 g0 g1 g2 Hr Hr2 s0' s1' s2'
      go_wp2_with fail
      go_still_tail 8, (by kernel_rfl)
      change wpList _ _ _ _ _ wr.drew
      go_wp2_with (go_at_call 83; refine (eqNote _ _ _ _).mono ?_; rintro e w2 ⟨rfl, hb2⟩)
      go_roundw
      case rel => exact ⟨k + 1, by omega, by go_num, (Hb.out.drew).trans (hb2.mono Hb.out.size)⟩
      case measure => simp [intOf]; omega
    · obtain rfl : k = l.length := by omega
      go_wp2
      go_ret
      exact ⟨rfl, hb⟩
theorem szNoteS (v : Value) (n : Nat) (cs : List Value) (left : Int) (w : World) (B : Nat) (hr : Rd w B v n cs) (h1 : 0 ≤ left) (h2 : left ≤ 4611686018427387904) :
    Calls Try.prog 37 #[v, .int .i64 left] w fun e w' => e = .returned (.int .i64 (if (n : Int) ≤ left then left - n else -1)) ∧ w = w' := by
  obtain ⟨A, c, rfl, hn, hc, hcell⟩ := id hr
  have hn' : n ≤ 9223372036854775807 := by unfold maxLen at hc; omega
  clear hcell hr hn hc
  by_cases g : (n : Int) ≤ left
  all_goals
    go_enter Try.func37, Try.ntmps37
    go_wp2
    all_goals first
      | (exfalso; omega)
      | (go_ret
         exact ⟨retI (by first | rfl | omega | rw [if_pos g] | rw [if_neg (by omega)]), rfl⟩)

end Go.Proofs.Ytaebmliolpgmdaa
set_option linter.unusedSimpArgs false
set_option linter.unusedVariables false
set_option maxRecDepth 100000
namespace Go.Proofs.Ytaebmliolpgmdaa
open Go.RowKit

structure VmM where
  qFrames : List FrameM
  qTrace : List Int
  qUsed : Int
  qCode : Int
  qValue : Int
  qMade : Int
  qNotes : List R3
def szVmN (m : VmM) : Nat := szFramesN m.qFrames + (m.qTrace.length + (m.qNotes.length))
def szVmsL : List VmM → Nat
  | [] => 0
  | m :: l => szVmN m + szVmsL l
def szVmsN (l : List VmM) : Nat := l.length + szVmsL l
theorem szVmsL_step {l : List VmM} {k : Nat} (h : k < l.length) : szVmsL (l.drop k) = szVmN l[k] + szVmsL (l.drop (k + 1)) := by
  rw [List.drop_eq_getElem_cons h]; rfl
theorem szVmsL_mem : ∀ {l : List VmM} {k : Nat} (h : k < l.length), szVmN l[k] ≤ szVmsL l := by
  intro l
  induction l with
  | nil => intro k h; simp at h
  | cons a l ih =>
    intro k h
    cases k with
    | zero => simp [szVmsL]
    | succ k => have := ih (k := k) (by simpa using h); simp only [szVmsL, List.getElem_cons_succ]; omega
def RVm (w : World) (lo hi : Nat) (cs : List Value) (m : VmM) : Prop := ∃ v0 v1 v6 : Value, cs = [v0, v1, .int .i64 m.qUsed, .int .i64 m.qCode, .int .i64 m.qValue, .int .i64 m.qMade, v6] ∧ RL RFrame 11 w lo hi v0 m.qFrames ∧ Rg w lo hi v1 m.qTrace.length (icells .i64 m.qTrace) ∧ Rg w lo hi v6 m.qNotes.length (rcells m.qNotes)
theorem RVm_stable : Stable RVm :=
  ⟨fun ⟨v0, v1, v6, e, h0, h1, h6⟩ hk => ⟨v0, v1, v6, e, h0.keep RFrame_stable hk, h1.keep hk, h6.keep hk⟩, fun ⟨v0, v1, v6, e, h0, h1, h6⟩ p1 p2 => ⟨v0, v1, v6, e, h0.more RFrame_stable p1 p2, h1.more p1 p2, h6.more p1 p2⟩⟩
def OVm (w : World) (lo hi : Nat) (cs : List Value) (m : VmM) : Prop := ∃ c0 c1 c2 c3 c4 c5 c6 : Value, cs = [c0, c1, c2, c3, c4, c5, c6] ∧ sc c2 ∧ sc c3 ∧ sc c4 ∧ sc c5 ∧ OL OFrame 74 11 w lo hi c0 m.qFrames ∧ Og w lo hi 3 1 c1 m.qTrace.length ∧ Og w lo hi 76 3 c6 m.qNotes.length
theorem OVm_stable : Stable OVm :=
  ⟨fun ⟨c0, c1, c2, c3, c4, c5, c6, e, s2, s3, s4, s5, h0, h1, h6⟩ hk => ⟨c0, c1, c2, c3, c4, c5, c6, e, s2, s3, s4, s5, h0.keep OFrame_stable hk, h1.keep hk, h6.keep hk⟩, fun ⟨c0, c1, c2, c3, c4, c5, c6, e, s2, s3, s4, s5, h0, h1, h6⟩ p1 p2 => ⟨c0, c1, c2, c3, c4, c5, c6, e, s2, s3, s4, s5, h0.more OFrame_stable p1 p2, h1.more p1 p2, h6.more p1 p2⟩⟩
/-- the cells of an element of a slice that is read -/
theorem RVm_at {w : World} {hi c i : Nat} {A : Option Addr} {l : List VmM} (h : RL RVm 7 w 0 hi (.slice A l.length c) l) (hl : i < l.length) :
    ∃ (b o : Nat) (v0 v1 v6 : Value), A = some ⟨b, o, none⟩ ∧ b < hi ∧ w.cell? ⟨b, o + i * 7, none⟩ = some (v0) ∧ w.cell? ⟨b, o + i * 7 + 1, none⟩ = some (v1) ∧ w.cell? ⟨b, o + i * 7 + 2, none⟩ = some (.int .i64 l[i].qUsed) ∧ w.cell? ⟨b, o + i * 7 + 3, none⟩ = some (.int .i64 l[i].qCode) ∧ w.cell? ⟨b, o + i * 7 + 4, none⟩ = some (.int .i64 l[i].qValue) ∧ w.cell? ⟨b, o + i * 7 + 5, none⟩ = some (.int .i64 l[i].qMade) ∧ w.cell? ⟨b, o + i * 7 + 6, none⟩ = some (v6) ∧ RVm w 0 hi [v0, v1, .int .i64 l[i].qUsed, .int .i64 l[i].qCode, .int .i64 l[i].qValue, .int .i64 l[i].qMade, v6] l[i] := by
  obtain ⟨b, o, cs, hA, hb, hcl, hcell, hr⟩ := h.at_ hl
  have hr' := hr
  obtain ⟨v0, v1, v6, rfl, h0, h1, h6⟩ := hr
  exact ⟨b, o, v0, v1, v6, hA, hb.2, hcell 0 _ rfl, hcell 1 _ rfl, hcell 2 _ rfl, hcell 3 _ rfl, hcell 4 _ rfl, hcell 5 _ rfl, hcell 6 _ rfl, hr'⟩

set_option maxHeartbeats 1600000 in
theorem szVm (cs : List Value) (m : VmM) (left : Int) (w : World) (hr : RVm w 0 w.heap.size cs m) (g1 : 0 ≤ left) (g2 : left ≤ 4611686018427387904) :
    Calls Try.prog 14 #[.agg cs.toArray, .int .i64 left] w fun e w' => e = .returned (.int .i64 (subL left (szVmN m))) ∧ Below w.heap.size w w' := by
  obtain ⟨v0, v1, v6, rfl, h0, h1, h6⟩ := hr
  obtain ⟨l0, l1, m2, m3, m4, m5, l6⟩ := m
  obtain ⟨hT1, hT2⟩ : szVmN ⟨l0, l1, m2, m3, m4, m5, l6⟩ ≤ szFramesN l0 + (l1.length + (l6.length)) ∧ szFramesN l0 + (l1.length + (l6.length)) ≤ szVmN ⟨l0, l1, m2, m3, m4, m5, l6⟩ := ⟨Nat.le_refl _, Nat.le_refl _⟩
  generalize szVmN ⟨l0, l1, m2, m3, m4, m5, l6⟩ = T at *
  dsimp only at *
  have H0 := hide h0; clear h0
  have H1 := hide h1; clear h1
  have H6 := hide h6; clear h6
  have HW := hide ((Below.refl w.heap.size w).alloc (Nat.le_refl _) (.cells #[v0, v1, .int .i64 m2, .int .i64 m3, .int .i64 m4, .int .i64 m5, v6] 40))
  go_enter Try.func14, Try.ntmps14
  go_wp2_with fail
  refine (szFrameS _ l0 (left) _ (H0.out.here RFrame_stable HW.out) (by omega) (by omega)).mono ?_
  rintro e w1 ⟨rfl, hb⟩
  obtain ⟨k1, _, kb⟩ := one_below hb
  have HW := hide kb; have HK := hide k1; clear hb kb k1
  by_cases q0 : ((szFramesN l0 : Nat) : Int) ≤ left
  case neg =>
    rw [subL_no q0]
    go_wp2
    go_ret
    exact ⟨retI (by rw [subL_no (by omega)]), HW.out⟩
  rw [subL_yes q0]
  have c_0 := HK.out.cell 0
  have c_1 := HK.out.cell 1
  have c_2 := HK.out.cell 2
  have c_3 := HK.out.cell 3
  have c_4 := HK.out.cell 4
  have c_5 := HK.out.cell 5
  have c_6 := HK.out.cell 6
  go_wp2_with fail
  refine (szIntS _ _ _ (left - szFramesN l0) _ _ (H1.out.here HW.out).rd (by omega) (by omega)).mono ?_
  rintro e w' ⟨rfl, rfl⟩
  by_cases q1 : ((l1.length : Nat) : Int) ≤ left - szFramesN l0
  case neg =>
    rw [if_neg q1]
    go_wp2
    go_ret
    exact ⟨retI (by rw [subL_no (by omega)]), HW.out⟩
  rw [if_pos q1]
  have c_0 := HK.out.cell 0
  have c_1 := HK.out.cell 1
  have c_2 := HK.out.cell 2
  have c_3 := HK.out.cell 3
  have c_4 := HK.out.cell 4
  have c_5 := HK.out.cell 5
  have c_6 := HK.out.cell 6
  go_wp2_with fail
  refine (szNoteS _ _ _ (left - szFramesN l0 - l1.length) _ _ (H6.out.here HW.out).rd (by omega) (by omega)).mono ?_
  rintro e w' ⟨rfl, rfl⟩
  by_cases q6 : ((l6.length : Nat) : Int) ≤ left - szFramesN l0 - l1.length
  case neg =>
    rw [if_neg q6]
    go_wp2
    go_ret
    exact ⟨retI (by rw [subL_no (by omega)]), HW.out⟩
  rw [if_pos q6]
  go_wp2
  go_ret
  exact ⟨retI (by rw [subL_yes (by omega)]; omega), HW.out⟩

set_option maxHeartbeats 3200000 in
theorem toVm (cs : List Value) (m : VmM) (w : World) (hr : RVm w 0 w.heap.size cs m) (hz : szVmN m ≤ 1048576) :
    Calls Try.prog 16 #[.agg cs.toArray] w fun e w' => ∃ cs' : List Value, e = .returned (.agg cs'.toArray) ∧ RVm w' w.heap.size w'.heap.size cs' m ∧ OVm w' w.heap.size w'.heap.size cs' m ∧ Below w.heap.size w w' := by
  obtain ⟨v0, v1, v6, rfl, h0, h1, h6⟩ := hr
  obtain ⟨l0, l1, m2, m3, m4, m5, l6⟩ := m
  dsimp only [szVmN] at *
  have H0 := hide h0; clear h0
  have H1 := hide h1; clear h1
  have H6 := hide h6; clear h6
  have nn0 : l0.length ≤ 1048576 := by have : szFramesN l0 = l0.length + szFramesL l0 := rfl; omega
  go_enter Try.func16, Try.ntmps16
  go_wp2_with fail
  refine (toFrameS _ l0 _ (H0.out.here RFrame_stable (by go_grown)) (by omega)).mono ?_
  rintro e w1 ⟨u0, rfl, hrd, hog, hb⟩
  obtain ⟨U0, C0, rfl⟩ := hrd.form
  obtain ⟨k1, k2, k3, hz1, kb⟩ := three_below hb
  have K1_1 := hide k1; have K2_1 := hide k2; have K3_1 := hide k3; have Kb1 := hide kb; clear k1 k2 k3 kb
  have hlo : w.heap.size + 1 + 1 + 1 ≤ (((w.alloc (.cells #[v0, v1, .int .i64 m2, .int .i64 m3, .int .i64 m4, .int .i64 m5, v6] 40)).alloc (.cells #[.slice none 0 0, .slice none 0 0, .int .i64 0, .int .i64 0, .int .i64 0, .int .i64 0, .slice none 0 0] 46)).alloc (.cells #[.slice none 0 0, .slice none 0 0, .int .i64 0, .int .i64 0, .int .i64 0, .int .i64 0, .slice none 0 0] 46)).heap.size := by rw [World.size_alloc, World.size_alloc, World.size_alloc]; omega
  have A0_1 := hide (hrd.more RFrame_stable (lo' := w.heap.size + 1 + 1 + 1) hlo (Nat.le_refl _)); have B0_1 := hide (hog.more OFrame_stable (lo' := w.heap.size + 1 + 1 + 1) hlo (Nat.le_refl _)); clear hrd hog hb hlo
  have hbx : Below w.heap.size w ((w1).setCell ⟨w.heap.size + 1 + 1, 0, none⟩ (.slice U0 l0.length C0)) := (Kb1.out.setCell (p := ⟨w.heap.size + 1 + 1, 0, none⟩) (by show _ ≤ w.heap.size + 1 + 1; omega) _)
  have Hbx := hide hbx; clear hbx
  have c1_0 := K1_1.out.cell 0; have c3_0 := K3_1.out.cell 0; have z3_0 := K3_1.out.frozen 0
  have c1_1 := K1_1.out.cell 1; have c3_1 := K3_1.out.cell 1; have z3_1 := K3_1.out.frozen 1
  have c1_2 := K1_1.out.cell 2; have c3_2 := K3_1.out.cell 2; have z3_2 := K3_1.out.frozen 2
  have c1_3 := K1_1.out.cell 3; have c3_3 := K3_1.out.cell 3; have z3_3 := K3_1.out.frozen 3
  have c1_4 := K1_1.out.cell 4; have c3_4 := K3_1.out.cell 4; have z3_4 := K3_1.out.frozen 4
  have c1_5 := K1_1.out.cell 5; have c3_5 := K3_1.out.cell 5; have z3_5 := K3_1.out.frozen 5
  have c1_6 := K1_1.out.cell 6; have c3_6 := K3_1.out.cell 6; have z3_6 := K3_1.out.frozen 6
  go_wp2_with fail
  refine (toIntS _ l1 _ (H1.out.rd.here Hbx.out) (by omega)).mono ?_
  rintro e w2 ⟨u1, rfl, hown, hb⟩
  obtain ⟨U1, C1, rfl⟩ := own_form hown
  clear c1_0 c3_0 z3_0 c1_1 c3_1 z3_1 c1_2 c3_2 z3_2 c1_3 c3_3 z3_3 c1_4 c3_4 z3_4 c1_5 c3_5 z3_5 c1_6 c3_6 z3_6
  have K1_2 := hide ((K1_1.out.far (by omega) 0 (.slice U0 l0.length C0)).below hb); have K2_2 := hide ((K2_1.out.far (by omega) 0 (.slice U0 l0.length C0)).below hb)
  have k3 : Bk w2 (w.heap.size + 1 + 1) 46 #[.slice U0 l0.length C0, .slice none 0 0, .int .i64 0, .int .i64 0, .int .i64 0, .int .i64 0, .slice none 0 0] := (K3_1.out.set 0 (.slice U0 l0.length C0)).below hb
  have K3_2 := hide k3; clear k3
  have hbs := hb.size
  have hz2 : w1.heap.size ≤ w2.heap.size := by simpa using hbs
  clear hbs
  have hk : KeptB (w.heap.size + 1 + 1 + 1) w1.heap.size w1 w2 := KeptB.below ((KeptB.refl _ _ _).setr (p := ⟨w.heap.size + 1 + 1, 0, none⟩) (by dsimp only; omega)) hb (by simp)
  have A0_2 := hide ((A0_1.out.keep RFrame_stable hk).more RFrame_stable (Nat.le_refl _) hz2); have B0_2 := hide ((B0_1.out.keep OFrame_stable hk).more OFrame_stable (Nat.le_refl _) hz2)
  clear hk
  have Kb2 := hide (Hbx.out.trans (hb.mono Hbx.out.size)); clear Hbx
  have hlo : w.heap.size + 1 + 1 + 1 ≤ ((w1).setCell ⟨w.heap.size + 1 + 1, 0, none⟩ (.slice U0 l0.length C0)).heap.size := by simp; omega
  have A1_2 := hide ((Rg.of_own hown).more (lo' := w.heap.size + 1 + 1 + 1) hlo (Nat.le_refl _)); have B1_2 := hide ((Og.of_own hown sc_icells).more (lo' := w.heap.size + 1 + 1 + 1) hlo (Nat.le_refl _)); clear hown hb hlo
  have hbx : Below w.heap.size w ((((((w2).setCell ⟨w.heap.size + 1 + 1, 1, none⟩ (.slice U1 l1.length C1)).setCell ⟨w.heap.size + 1 + 1, 2, none⟩ (.int .i64 m2)).setCell ⟨w.heap.size + 1 + 1, 3, none⟩ (.int .i64 m3)).setCell ⟨w.heap.size + 1 + 1, 4, none⟩ (.int .i64 m4)).setCell ⟨w.heap.size + 1 + 1, 5, none⟩ (.int .i64 m5)) := (((((Kb2.out.setCell (p := ⟨w.heap.size + 1 + 1, 1, none⟩) (by show _ ≤ w.heap.size + 1 + 1; omega) _).setCell (p := ⟨w.heap.size + 1 + 1, 2, none⟩) (by show _ ≤ w.heap.size + 1 + 1; omega) _).setCell (p := ⟨w.heap.size + 1 + 1, 3, none⟩) (by show _ ≤ w.heap.size + 1 + 1; omega) _).setCell (p := ⟨w.heap.size + 1 + 1, 4, none⟩) (by show _ ≤ w.heap.size + 1 + 1; omega) _).setCell (p := ⟨w.heap.size + 1 + 1, 5, none⟩) (by show _ ≤ w.heap.size + 1 + 1; omega) _)
  have Hbx := hide hbx; clear hbx
  have c1_0 := K1_2.out.cell 0; have c3_0 := K3_2.out.cell 0; have z3_0 := K3_2.out.frozen 0
  have c1_1 := K1_2.out.cell 1; have c3_1 := K3_2.out.cell 1; have z3_1 := K3_2.out.frozen 1
  have c1_2 := K1_2.out.cell 2; have c3_2 := K3_2.out.cell 2; have z3_2 := K3_2.out.frozen 2
  have c1_3 := K1_2.out.cell 3; have c3_3 := K3_2.out.cell 3; have z3_3 := K3_2.out.frozen 3
  have c1_4 := K1_2.out.cell 4; have c3_4 := K3_2.out.cell 4; have z3_4 := K3_2.out.frozen 4
  have c1_5 := K1_2.out.cell 5; have c3_5 := K3_2.out.cell 5; have z3_5 := K3_2.out.frozen 5
  have c1_6 := K1_2.out.cell 6; have c3_6 := K3_2.out.cell 6; have z3_6 := K3_2.out.frozen 6
  go_wp2_with fail
  refine (toNoteS _ l6 _ (H6.out.rd.here Hbx.out) (by omega)).mono ?_
  rintro e w3 ⟨u6, rfl, hown, hb⟩
  obtain ⟨U6, C6, rfl⟩ := own_form hown
  clear c1_0 c3_0 z3_0 c1_1 c3_1 z3_1 c1_2 c3_2 z3_2 c1_3 c3_3 z3_3 c1_4 c3_4 z3_4 c1_5 c3_5 z3_5 c1_6 c3_6 z3_6
  have K1_3 := hide ((((((K1_2.out.far (by omega) 1 (.slice U1 l1.length C1)).far (by omega) 2 (.int .i64 m2)).far (by omega) 3 (.int .i64 m3)).far (by omega) 4 (.int .i64 m4)).far (by omega) 5 (.int .i64 m5)).below hb); have K2_3 := hide ((((((K2_2.out.far (by omega) 1 (.slice U1 l1.length C1)).far (by omega) 2 (.int .i64 m2)).far (by omega) 3 (.int .i64 m3)).far (by omega) 4 (.int .i64 m4)).far (by omega) 5 (.int .i64 m5)).below hb)
  have k3 : Bk w3 (w.heap.size + 1 + 1) 46 #[.slice U0 l0.length C0, .slice U1 l1.length C1, .int .i64 m2, .int .i64 m3, .int .i64 m4, .int .i64 m5, .slice none 0 0] := (((((K3_2.out.set 1 (.slice U1 l1.length C1)).set 2 (.int .i64 m2)).set 3 (.int .i64 m3)).set 4 (.int .i64 m4)).set 5 (.int .i64 m5)).below hb
  have K3_3 := hide k3; clear k3
  have hbs := hb.size
  have hz3 : w2.heap.size ≤ w3.heap.size := by simpa using hbs
  clear hbs
  have hk : KeptB (w.heap.size + 1 + 1 + 1) w2.heap.size w2 w3 := KeptB.below ((((((KeptB.refl _ _ _).setr (p := ⟨w.heap.size + 1 + 1, 1, none⟩) (by dsimp only; omega)).setr (p := ⟨w.heap.size + 1 + 1, 2, none⟩) (by dsimp only; omega)).setr (p := ⟨w.heap.size + 1 + 1, 3, none⟩) (by dsimp only; omega)).setr (p := ⟨w.heap.size + 1 + 1, 4, none⟩) (by dsimp only; omega)).setr (p := ⟨w.heap.size + 1 + 1, 5, none⟩) (by dsimp only; omega)) hb (by simp)
  have A0_3 := hide ((A0_2.out.keep RFrame_stable hk).more RFrame_stable (Nat.le_refl _) hz3); have B0_3 := hide ((B0_2.out.keep OFrame_stable hk).more OFrame_stable (Nat.le_refl _) hz3)
  have A1_3 := hide ((A1_2.out.keep hk).more (Nat.le_refl _) hz3); have B1_3 := hide ((B1_2.out.keep hk).more (Nat.le_refl _) hz3)
  clear hk
  have Kb3 := hide (Hbx.out.trans (hb.mono Hbx.out.size)); clear Hbx
  have hlo : w.heap.size + 1 + 1 + 1 ≤ ((((((w2).setCell ⟨w.heap.size + 1 + 1, 1, none⟩ (.slice U1 l1.length C1)).setCell ⟨w.heap.size + 1 + 1, 2, none⟩ (.int .i64 m2)).setCell ⟨w.heap.size + 1 + 1, 3, none⟩ (.int .i64 m3)).setCell ⟨w.heap.size + 1 + 1, 4, none⟩ (.int .i64 m4)).setCell ⟨w.heap.size + 1 + 1, 5, none⟩ (.int .i64 m5)).heap.size := by simp; omega
  have A6_3 := hide ((Rg.of_own hown).more (lo' := w.heap.size + 1 + 1 + 1) hlo (Nat.le_refl _)); have B6_3 := hide ((Og.of_own hown sc_rcells).more (lo' := w.heap.size + 1 + 1 + 1) hlo (Nat.le_refl _)); clear hown hb hlo
  have c1_0 := K1_3.out.cell 0; have c3_0 := K3_3.out.cell 0; have z3_0 := K3_3.out.frozen 0
  have c1_1 := K1_3.out.cell 1; have c3_1 := K3_3.out.cell 1; have z3_1 := K3_3.out.frozen 1
  have c1_2 := K1_3.out.cell 2; have c3_2 := K3_3.out.cell 2; have z3_2 := K3_3.out.frozen 2
  have c1_3 := K1_3.out.cell 3; have c3_3 := K3_3.out.cell 3; have z3_3 := K3_3.out.frozen 3
  have c1_4 := K1_3.out.cell 4; have c3_4 := K3_3.out.cell 4; have z3_4 := K3_3.out.frozen 4
  have c1_5 := K1_3.out.cell 5; have c3_5 := K3_3.out.cell 5; have z3_5 := K3_3.out.frozen 5
  have c1_6 := K1_3.out.cell 6; have c3_6 := K3_3.out.cell 6; have z3_6 := K3_3.out.frozen 6
  go_upto_region 9 with (fail)
  clear c1_0 c3_0 z3_0 c1_1 c3_1 z3_1 c1_2 c3_2 z3_2 c1_3 c3_3 z3_3 c1_4 c3_4 z3_4 c1_5 c3_5 z3_5 c1_6 c3_6 z3_6
  have k2 : Bk ((w3).setCell ⟨w.heap.size + 1 + 1, 6, none⟩ (.slice U6 l6.length C6)) (w.heap.size + 1) 46 #[.slice none 0 0, .slice none 0 0, .int .i64 0, .int .i64 0, .int .i64 0, .int .i64 0, .slice none 0 0] := (K2_3.out.far (by omega) 6 (.slice U6 l6.length C6))
  have k3 : Bk ((w3).setCell ⟨w.heap.size + 1 + 1, 6, none⟩ (.slice U6 l6.length C6)) (w.heap.size + 1 + 1) 46 #[.slice U0 l0.length C0, .slice U1 l1.length C1, .int .i64 m2, .int .i64 m3, .int .i64 m4, .int .i64 m5, .slice U6 l6.length C6] := (K3_3.out.set 6 (.slice U6 l6.length C6))
  have hk : KeptB (w.heap.size + 1 + 1 + 1) w3.heap.size w3 ((w3).setCell ⟨w.heap.size + 1 + 1, 6, none⟩ (.slice U6 l6.length C6)) := (KeptB.refl _ _ _).setr (p := ⟨w.heap.size + 1 + 1, 6, none⟩) (by dsimp only; omega)
  have hs : w3.heap.size ≤ ((w3).setCell ⟨w.heap.size + 1 + 1, 6, none⟩ (.slice U6 l6.length C6)).heap.size := by simp only [World.size_setCell]; exact Nat.le_refl _
  have hbW : Below w.heap.size w ((w3).setCell ⟨w.heap.size + 1 + 1, 6, none⟩ (.slice U6 l6.length C6)) := (Kb3.out).setCell (p := ⟨w.heap.size + 1 + 1, 6, none⟩) (by dsimp only; omega) _
  have a0 := (A0_3.out.keep RFrame_stable hk).more RFrame_stable (Nat.le_refl _) hs; have b0 := (B0_3.out.keep OFrame_stable hk).more OFrame_stable (Nat.le_refl _) hs
  have a1 := (A1_3.out.keep hk).more (Nat.le_refl _) hs; have b1 := (B1_3.out.keep hk).more (Nat.le_refl _) hs
  have a6 := (A6_3.out.keep hk).more (Nat.le_refl _) hs; have b6 := (B6_3.out.keep hk).more (Nat.le_refl _) hs
  clear hk hs A0_3 B0_3 A1_3 B1_3 A6_3 B6_3
  generalize (w3).setCell ⟨w.heap.size + 1 + 1, 6, none⟩ (.slice U6 l6.length C6) = W at k2 k3 hbW a0 b0 a1 b1 a6 b6 ⊢
  have hzW : w.heap.size + 1 + 1 < W.heap.size := k3.lt
  have HF := hide (show ∀ WF : World, KeptB (w.heap.size + 1 + 1 + 1) W.heap.size W WF → W.heap.size ≤ WF.heap.size → Below w.heap.size w WF → ∃ cs' : List Value, Ending.returned (.agg #[.slice U0 l0.length C0, .slice U1 l1.length C1, .int .i64 m2, .int .i64 m3, .int .i64 m4, .int .i64 m5, .slice U6 l6.length C6]) = .returned (.agg cs'.toArray) ∧ RVm WF w.heap.size WF.heap.size cs' ⟨l0, l1, m2, m3, m4, m5, l6⟩ ∧ OVm WF w.heap.size WF.heap.size cs' ⟨l0, l1, m2, m3, m4, m5, l6⟩ ∧ Below w.heap.size w WF from
    fun WF hk hs hb => ⟨[.slice U0 l0.length C0, .slice U1 l1.length C1, .int .i64 m2, .int .i64 m3, .int .i64 m4, .int .i64 m5, .slice U6 l6.length C6], rfl, ⟨_, _, _, rfl, (a0.keep RFrame_stable hk).more RFrame_stable (by omega) hs, (a1.keep hk).more (by omega) hs, (a6.keep hk).more (by omega) hs⟩, ⟨_, _, _, _, _, _, _, rfl, trivial, trivial, trivial, trivial, (b0.keep OFrame_stable hk).more OFrame_stable (by omega) hs, (b1.keep hk).more (by omega) hs, (b6.keep hk).more (by omega) hs⟩, hb⟩)
  have HbW := hide hbW; clear hbW a0 b0 a1 b1 a6 b6
  have c2_0 := k2.cell 0; have y2_0 := k2.frozen 0; have c3_0 := k3.cell 0
  have c2_1 := k2.cell 1; have y2_1 := k2.frozen 1; have c3_1 := k3.cell 1
  have c2_2 := k2.cell 2; have y2_2 := k2.frozen 2; have c3_2 := k3.cell 2
  have c2_3 := k2.cell 3; have y2_3 := k2.frozen 3; have c3_3 := k3.cell 3
  have c2_4 := k2.cell 4; have y2_4 := k2.frozen 4; have c3_4 := k3.cell 4
  have c2_5 := k2.cell 5; have y2_5 := k2.frozen 5; have c3_5 := k3.cell 5
  have c2_6 := k2.cell 6; have y2_6 := k2.frozen 6; have c3_6 := k3.cell 6
  clear k2 k3
  go_wp2
  refine bodyPost_ret (v := .agg #[.slice U0 l0.length C0, .slice U1 l1.length C1, .int .i64 m2, .int .i64 m3, .int .i64 m4, .int .i64 m5, .slice U6 l6.length C6]) (by simp [results, Try.results16, go_sem, c2_0, c2_1, c2_2, c2_3, c2_4, c2_5, c2_6]) rfl ?_
  exact HF.out _ ((((((((KeptB.refl _ _ _).setr (by dsimp only; omega)).setr (by dsimp only; omega)).setr (by dsimp only; omega)).setr (by dsimp only; omega)).setr (by dsimp only; omega)).setr (by dsimp only; omega)).setr (by dsimp only; omega)) (by simp only [World.size_setCell]; exact Nat.le_refl _) ((((((((HbW.out).setCell (by dsimp only; omega) _).setCell (by dsimp only; omega) _).setCell (by dsimp only; omega) _).setCell (by dsimp only; omega) _).setCell (by dsimp only; omega) _).setCell (by dsimp only; omega) _).setCell (by dsimp only; omega) _)


set_option maxHeartbeats 1600000 in
theorem eqVm (cs cs2 : List Value) (m : VmM) (w : World) (hr : RVm w 0 w.heap.size cs m) (hr2 : RVm w 0 w.heap.size cs2 m) :
    Calls Try.prog 18 #[.agg cs.toArray, .agg cs2.toArray] w fun e w' => e = .returned (.bool true) ∧ Below w.heap.size w w' := by
  obtain ⟨y0, y1, y6, rfl, g0, g1, g6⟩ := hr2
  obtain ⟨v0, v1, v6, rfl, h0, h1, h6⟩ := hr
  obtain ⟨l0, l1, m2, m3, m4, m5, l6⟩ := m
  dsimp only at *
  have hl0 := h0.long; have H0 := hide h0; have G0 := hide g0; clear h0 g0
  have hl1 := h1.long; have H1 := hide h1; have G1 := hide g1; clear h1 g1
  have hl6 := h6.long; have H6 := hide h6; have G6 := hide g6; clear h6 g6
  go_enter Try.func18, Try.ntmps18
  go_wp2_with fail
  refine (eqFrameS _ _ l0 _ (H0.out.here RFrame_stable (by go_grown)) (G0.out.here RFrame_stable (by go_grown))).mono ?_
  rintro e w1 ⟨rfl, hb⟩
  obtain ⟨k1, k2, hz1, kb⟩ := two_below hb
  have K1_1 := hide k1; have K2_1 := hide k2; have Kb1 := hide kb; clear k1 k2 kb hb
  have c1_0 := K1_1.out.cell 0; have c2_0 := K2_1.out.cell 0
  have c1_1 := K1_1.out.cell 1; have c2_1 := K2_1.out.cell 1
  have c1_2 := K1_1.out.cell 2; have c2_2 := K2_1.out.cell 2
  have c1_3 := K1_1.out.cell 3; have c2_3 := K2_1.out.cell 3
  have c1_4 := K1_1.out.cell 4; have c2_4 := K2_1.out.cell 4
  have c1_5 := K1_1.out.cell 5; have c2_5 := K2_1.out.cell 5
  have c1_6 := K1_1.out.cell 6; have c2_6 := K2_1.out.cell 6
  go_wp2_with fail
  refine (eqIntSB _ _ l1 _ (H1.out.rd.here Kb1.out) (G1.out.rd.here Kb1.out) hl1).mono ?_
  rintro e w2 ⟨rfl, hb⟩
  clear c1_0 c2_0 c1_1 c2_1 c1_2 c2_2 c1_3 c2_3 c1_4 c2_4 c1_5 c2_5 c1_6 c2_6
  have K1_2 := hide (K1_1.out.below hb); have K2_2 := hide (K2_1.out.below hb); have Kb2 := hide (Kb1.out.trans (hb.mono Kb1.out.size)); clear hb
  have c1_0 := K1_2.out.cell 0; have c2_0 := K2_2.out.cell 0
  have c1_1 := K1_2.out.cell 1; have c2_1 := K2_2.out.cell 1
  have c1_2 := K1_2.out.cell 2; have c2_2 := K2_2.out.cell 2
  have c1_3 := K1_2.out.cell 3; have c2_3 := K2_2.out.cell 3
  have c1_4 := K1_2.out.cell 4; have c2_4 := K2_2.out.cell 4
  have c1_5 := K1_2.out.cell 5; have c2_5 := K2_2.out.cell 5
  have c1_6 := K1_2.out.cell 6; have c2_6 := K2_2.out.cell 6
  go_wp2_with fail
  refine (eqNoteS _ _ l6 _ (H6.out.rd.here Kb2.out) (G6.out.rd.here Kb2.out) hl6).mono ?_
  rintro e w3 ⟨rfl, hb⟩
  clear c1_0 c2_0 c1_1 c2_1 c1_2 c2_2 c1_3 c2_3 c1_4 c2_4 c1_5 c2_5 c1_6 c2_6
  have K1_3 := hide (K1_2.out.below hb); have K2_3 := hide (K2_2.out.below hb); have Kb3 := hide (Kb2.out.trans (hb.mono Kb2.out.size)); clear hb
  have c1_0 := K1_3.out.cell 0; have c2_0 := K2_3.out.cell 0
  have c1_1 := K1_3.out.cell 1; have c2_1 := K2_3.out.cell 1
  have c1_2 := K1_3.out.cell 2; have c2_2 := K2_3.out.cell 2
  have c1_3 := K1_3.out.cell 3; have c2_3 := K2_3.out.cell 3
  have c1_4 := K1_3.out.cell 4; have c2_4 := K2_3.out.cell 4
  have c1_5 := K1_3.out.cell 5; have c2_5 := K2_3.out.cell 5
  have c1_6 := K1_3.out.cell 6; have c2_6 := K2_3.out.cell 6
  go_wp2
  go_ret
  exact ⟨rfl, Kb3.out⟩

end Go.Proofs.Ytaebmliolpgmdaa
