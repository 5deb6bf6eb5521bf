
/- Func in memory: what toFunc, szFunc, eqFunc and their kin over slices do. No condition. -/
import Derived.Test.YtdniplnggikkgaaNst
import Derived.Test.YtdniplnggikkgaaNst2
import Derived.Test.YtdniplnggikkgaaEqB
import Derived.Test.YtdniplnggikkgaaNdStmt
import Derived.Handy
import Derived.Deep.Light
import Derived.Deep.QuietTactic
import Derived.BigQuiet
import Derived.StillTailTactics
import Derived.Deep.RegionWith
set_option linter.unusedSimpArgs false
set_option linter.unusedVariables false
set_option maxRecDepth 100000
namespace Go.Proofs.Ytdniplnggikkgaa
open Go.RowKit

structure FuncM where
  qParams : Int
  qVars : Int
  qBody : List Int
  qStmts : List StmtM
def szFuncN (m : FuncM) : Nat := m.qBody.length + (szStmtsN m.qStmts)
def szFuncsL : List FuncM → Nat
  | [] => 0
  | m :: l => szFuncN m + szFuncsL l
def szFuncsN (l : List FuncM) : Nat := l.length + szFuncsL l
theorem szFuncsL_step {l : List FuncM} {k : Nat} (h : k < l.length) : szFuncsL (l.drop k) = szFuncN l[k] + szFuncsL (l.drop (k + 1)) := by
  rw [List.drop_eq_getElem_cons h]; rfl
theorem szFuncsL_mem : ∀ {l : List FuncM} {k : Nat} (h : k < l.length), szFuncN l[k] ≤ szFuncsL l := by
  intro l
  induction l with
  | nil => intro k h; simp at h
  | cons a l ih =>
    intro k h
    cases k with
    | zero => simp [szFuncsL]
    | succ k => have := ih (k := k) (by simpa using h); simp only [szFuncsL, List.getElem_cons_succ]; omega
def RFunc (w : World) (lo hi : Nat) (cs : List Value) (m : FuncM) : Prop := ∃ v2 v3 : Value, cs = [.int .i64 m.qParams, .int .i64 m.qVars, v2, v3] ∧ Rg w lo hi v2 m.qBody.length (icells .i64 m.qBody) ∧ RL RStmt 5 w lo hi v3 m.qStmts
theorem RFunc_stable : Stable RFunc :=
  ⟨fun ⟨v2, v3, e, h2, h3⟩ hk => ⟨v2, v3, e, h2.keep hk, h3.keep RStmt_stable hk⟩, fun ⟨v2, v3, e, h2, h3⟩ p1 p2 => ⟨v2, v3, e, h2.more p1 p2, h3.more RStmt_stable p1 p2⟩⟩
def OFunc (w : World) (lo hi : Nat) (cs : List Value) (m : FuncM) : Prop := ∃ c0 c1 c2 c3 : Value, cs = [c0, c1, c2, c3] ∧ sc c0 ∧ sc c1 ∧ Og w lo hi 3 1 c2 m.qBody.length ∧ OL OStmt 71 5 w lo hi c3 m.qStmts
theorem OFunc_stable : Stable OFunc :=
  ⟨fun ⟨c0, c1, c2, c3, e, s0, s1, h2, h3⟩ hk => ⟨c0, c1, c2, c3, e, s0, s1, h2.keep hk, h3.keep OStmt_stable hk⟩, fun ⟨c0, c1, c2, c3, e, s0, s1, h2, h3⟩ p1 p2 => ⟨c0, c1, c2, c3, e, s0, s1, h2.more p1 p2, h3.more OStmt_stable p1 p2⟩⟩
/-- the cells of an element of a slice that is read -/
theorem RFunc_at {w : World} {hi c i : Nat} {A : Option Addr} {l : List FuncM} (h : RL RFunc 4 w 0 hi (.slice A l.length c) l) (hl : i < l.length) :
    ∃ (b o : Nat) (v2 v3 : Value), A = some ⟨b, o, none⟩ ∧ b < hi ∧ w.cell? ⟨b, o + i * 4, none⟩ = some (.int .i64 l[i].qParams) ∧ w.cell? ⟨b, o + i * 4 + 1, none⟩ = some (.int .i64 l[i].qVars) ∧ w.cell? ⟨b, o + i * 4 + 2, none⟩ = some (v2) ∧ w.cell? ⟨b, o + i * 4 + 3, none⟩ = some (v3) ∧ RFunc w 0 hi [.int .i64 l[i].qParams, .int .i64 l[i].qVars, v2, v3] l[i] := by
  obtain ⟨b, o, cs, hA, hb, hcl, hcell, hr⟩ := h.at_ hl
  have hr' := hr
  obtain ⟨v2, v3, rfl, h2, h3⟩ := hr
  exact ⟨b, o, v2, v3, hA, hb.2, hcell 0 _ rfl, hcell 1 _ rfl, hcell 2 _ rfl, hcell 3 _ rfl, hr'⟩

set_option maxHeartbeats 1600000 in
theorem szFunc (cs : List Value) (m : FuncM) (left : Int) (w : World) (hr : RFunc w 0 w.heap.size cs m) (g1 : 0 ≤ left) (g2 : left ≤ 4611686018427387904) :
    Calls Try.prog 16 #[.agg cs.toArray, .int .i64 left] w fun e w' => e = .returned (.int .i64 (subL left (szFuncN m))) ∧ Below w.heap.size w w' := by
  obtain ⟨v2, v3, rfl, h2, h3⟩ := hr
  obtain ⟨m0, m1, l2, l3⟩ := m
  obtain ⟨hT1, hT2⟩ : szFuncN ⟨m0, m1, l2, l3⟩ ≤ l2.length + (szStmtsN l3) ∧ l2.length + (szStmtsN l3) ≤ szFuncN ⟨m0, m1, l2, l3⟩ := ⟨Nat.le_refl _, Nat.le_refl _⟩
  generalize szFuncN ⟨m0, m1, l2, l3⟩ = T at *
  dsimp only at *
  have H2 := hide h2; clear h2
  have H3 := hide h3; clear h3
  have HW := hide ((Below.refl w.heap.size w).alloc (Nat.le_refl _) (.cells #[.int .i64 m0, .int .i64 m1, v2, v3] 36))
  go_enter Try.func16, Try.ntmps16
  go_wp2_with fail
  refine (szIntS _ _ _ (left) _ _ (H2.out.here HW.out).rd (by omega) (by omega)).mono ?_
  rintro e w' ⟨rfl, rfl⟩
  by_cases q2 : ((l2.length : Nat) : Int) ≤ left
  case neg =>
    rw [if_neg q2]
    go_wp2
    go_ret
    exact ⟨retI (by rw [subL_no (by omega)]), HW.out⟩
  rw [if_pos q2]
  go_wp2_with fail
  refine (szStmtS _ l3 (left - l2.length) _ (H3.out.here RStmt_stable HW.out) (by omega) (by omega)).mono ?_
  rintro e w2 ⟨rfl, hb⟩
  obtain ⟨k1, _, kb⟩ := one_below hb
  have HW := hide kb; have HK := hide k1; clear hb kb k1
  by_cases q3 : ((szStmtsN l3 : Nat) : Int) ≤ left - l2.length
  case neg =>
    rw [subL_no q3]
    go_wp2
    go_ret
    exact ⟨retI (by rw [subL_no (by omega)]), HW.out⟩
  rw [subL_yes q3]
  go_wp2
  go_ret
  exact ⟨retI (by rw [subL_yes (by omega)]; omega), HW.out⟩
set_option maxHeartbeats 1600000 in
theorem szFuncS (v : Value) (l : List FuncM) (left : Int) (w : World) (hr : RL RFunc 4 w 0 w.heap.size v l) (g1 : 0 ≤ left) (g2 : left ≤ 4611686018427387904) :
    Calls Try.prog 40 #[v, .int .i64 left] w fun e w' => e = .returned (.int .i64 (subL left (szFuncsN l))) ∧ Below w.heap.size w w' := by
  have hl := hr.long
  obtain ⟨A, c, rfl⟩ := hr.form
  have Hr := hide hr; clear hr
  have hN : szFuncsN l = l.length + szFuncsL l := rfl
  rw [hN]; clear hN
  by_cases q0 : (l.length : Int) ≤ left
  case neg =>
    go_enter Try.func40, Try.ntmps40
    go_wp2
    go_ret
    exact ⟨retI (by rw [subL_no (by omega)]), Below.refl _ _⟩
  obtain ⟨tt, ht⟩ : ∃ tt, tt = szFuncsL l := ⟨_, rfl⟩
  rw [← ht]
  have Ht := hide ht; clear ht
  go_enter Try.func40, Try.ntmps40
  go_wp2
  go_loopw [1, 5] (fun lf i wr => ∃ (k s : Nat), k ≤ l.length ∧ i = .int .i64 k ∧ lf = .int .i64 (left - l.length - s) ∧ s + szFuncsL (l.drop k) = tt ∧ (s : Int) ≤ left - l.length ∧ Below w.heap.size w wr) (fun _ i _ => l.length - (intOf i).toNat)
  case atStart => exact ⟨0, 0, by omega, rfl, congrArg (Value.int .i64) (by omega), by rw [Ht.out]; simp, by omega, Below.refl _ _⟩
  case round =>
    obtain ⟨k, s, hk, rfl, rfl, hs, hsl, hb⟩ := hrel
    by_cases hlt : k < l.length
    · have hstep := szFuncsL_step hlt
      obtain ⟨b, o, v2, v3, rfl, hbB, e0, e1, e2, e3, hx⟩ := RFunc_at (Hr.out.here RFunc_stable hb) hlt
      have Hx := hide hx; have Hb := hide hb; have hbs := hb.size; clear hx hb Hr
      generalize l[k] = m at *
      have hbw : b < wr.heap.size := by omega
      obtain ⟨z, hz⟩ : ∃ z, z = szFuncN m := ⟨_, rfl⟩
      rw [← hz] at hstep
      obtain ⟨y, hy⟩ : ∃ y, y = szFuncsL (l.drop (k + 1)) := ⟨_, rfl⟩
      rw [hstep, ← hy] at hs
      have Hz := hide hz; have Hy := hide hy; clear hz hy hstep
      go_wp2_with fail
      refine (szFunc _ m (left - l.length - s) _ Hx.out (by omega) (by omega)).mono ?_
      rintro e w2 ⟨rfl, hb2⟩
      rw [← Hz.out]
      have Hb2 := hide (Hb.out.trans (hb2.mono hbs)); clear hb2
      by_cases q1 : (z : Int) ≤ left - l.length - s
      · rw [subL_yes q1]
        go_wp2
        go_roundw
        case rel => exact ⟨k + 1, s + z, by omega, by go_num, congrArg (Value.int .i64) (by omega), by rw [← Hy.out]; omega, by omega, Hb2.out⟩
        case measure => simp [intOf]; omega
      · rw [subL_no q1]
        go_wp2
        go_ret
        exact ⟨retI (by rw [subL_no (by omega)]), Hb2.out⟩
    · obtain rfl : k = l.length := by omega
      rw [List.drop_length] at hs
      have hs' : s = tt := by rw [← hs]; rfl
      have Hs := hide hs'; clear hs hs'
      go_wp2
      go_ret
      exact ⟨retI (by have := Hs.out; rw [subL_yes (by omega)]; omega), hb⟩

set_option maxHeartbeats 3200000 in
theorem toFunc (cs : List Value) (m : FuncM) (w : World) (hr : RFunc w 0 w.heap.size cs m) (hz : szFuncN m ≤ 1048576) :
    Calls Try.prog 18 #[.agg cs.toArray] w fun e w' => ∃ cs' : List Value, e = .returned (.agg cs'.toArray) ∧ RFunc w' w.heap.size w'.heap.size cs' m ∧ OFunc w' w.heap.size w'.heap.size cs' m ∧ Below w.heap.size w w' := by
  obtain ⟨v2, v3, rfl, h2, h3⟩ := hr
  obtain ⟨m0, m1, l2, l3⟩ := m
  dsimp only [szFuncN] at *
  have H2 := hide h2; clear h2
  have H3 := hide h3; clear h3
  have nn3 : l3.length ≤ 1048576 := by have : szStmtsN l3 = l3.length + szStmtsL l3 := rfl; omega
  go_enter Try.func18, Try.ntmps18
  go_wp2_with fail
  refine (toIntS _ l2 _ (H2.out.rd.here (by go_grown)) (by omega)).mono ?_
  rintro e w1 ⟨u2, rfl, hown, hb⟩
  obtain ⟨U2, C2, rfl⟩ := own_form hown
  obtain ⟨k1, k2, k3, hz1, kb⟩ := three_below hb
  have K1_1 := hide k1; have K2_1 := hide k2; have K3_1 := hide k3; have Kb1 := hide kb; clear k1 k2 k3 kb
  have hlo : w.heap.size + 1 + 1 + 1 ≤ (((w.alloc (.cells #[.int .i64 m0, .int .i64 m1, v2, v3] 36)).alloc (.cells #[.int .i64 0, .int .i64 0, .slice none 0 0, .slice none 0 0] 42)).alloc (.cells #[.int .i64 m0, .int .i64 m1, .slice none 0 0, .slice none 0 0] 42)).heap.size := by rw [World.size_alloc, World.size_alloc, World.size_alloc]; omega
  have A2_1 := hide ((Rg.of_own hown).more (lo' := w.heap.size + 1 + 1 + 1) hlo (Nat.le_refl _)); have B2_1 := hide ((Og.of_own hown sc_icells).more (lo' := w.heap.size + 1 + 1 + 1) hlo (Nat.le_refl _)); clear hown hb hlo
  have hbx : Below w.heap.size w ((w1).setCell ⟨w.heap.size + 1 + 1, 2, none⟩ (.slice U2 l2.length C2)) := (Kb1.out.setCell (p := ⟨w.heap.size + 1 + 1, 2, none⟩) (by show _ ≤ w.heap.size + 1 + 1; omega) _)
  have Hbx := hide hbx; clear hbx
  have c1_0 := K1_1.out.cell 0; have c3_0 := K3_1.out.cell 0; have z3_0 := K3_1.out.frozen 0
  have c1_1 := K1_1.out.cell 1; have c3_1 := K3_1.out.cell 1; have z3_1 := K3_1.out.frozen 1
  have c1_2 := K1_1.out.cell 2; have c3_2 := K3_1.out.cell 2; have z3_2 := K3_1.out.frozen 2
  have c1_3 := K1_1.out.cell 3; have c3_3 := K3_1.out.cell 3; have z3_3 := K3_1.out.frozen 3
  go_wp2_with fail
  refine (toStmtS _ l3 _ (H3.out.here RStmt_stable Hbx.out) (by omega)).mono ?_
  rintro e w2 ⟨u3, rfl, hrd, hog, hb⟩
  obtain ⟨U3, C3, rfl⟩ := hrd.form
  clear c1_0 c3_0 z3_0 c1_1 c3_1 z3_1 c1_2 c3_2 z3_2 c1_3 c3_3 z3_3
  have K1_2 := hide ((K1_1.out.far (by omega) 2 (.slice U2 l2.length C2)).below hb); have K2_2 := hide ((K2_1.out.far (by omega) 2 (.slice U2 l2.length C2)).below hb)
  have k3 : Bk w2 (w.heap.size + 1 + 1) 42 #[.int .i64 m0, .int .i64 m1, .slice U2 l2.length C2, .slice none 0 0] := (K3_1.out.set 2 (.slice U2 l2.length C2)).below hb
  have K3_2 := hide k3; clear k3
  have hbs := hb.size
  have hz2 : w1.heap.size ≤ w2.heap.size := by simpa using hbs
  clear hbs
  have hk : KeptB (w.heap.size + 1 + 1 + 1) w1.heap.size w1 w2 := KeptB.below ((KeptB.refl _ _ _).setr (p := ⟨w.heap.size + 1 + 1, 2, none⟩) (by dsimp only; omega)) hb (by simp)
  have A2_2 := hide ((A2_1.out.keep hk).more (Nat.le_refl _) hz2); have B2_2 := hide ((B2_1.out.keep hk).more (Nat.le_refl _) hz2)
  clear hk
  have Kb2 := hide (Hbx.out.trans (hb.mono Hbx.out.size)); clear Hbx
  have hlo : w.heap.size + 1 + 1 + 1 ≤ ((w1).setCell ⟨w.heap.size + 1 + 1, 2, none⟩ (.slice U2 l2.length C2)).heap.size := by simp; omega
  have A3_2 := hide (hrd.more RStmt_stable (lo' := w.heap.size + 1 + 1 + 1) hlo (Nat.le_refl _)); have B3_2 := hide (hog.more OStmt_stable (lo' := w.heap.size + 1 + 1 + 1) hlo (Nat.le_refl _)); clear hrd hog hb hlo
  have c1_0 := K1_2.out.cell 0; have c3_0 := K3_2.out.cell 0; have z3_0 := K3_2.out.frozen 0
  have c1_1 := K1_2.out.cell 1; have c3_1 := K3_2.out.cell 1; have z3_1 := K3_2.out.frozen 1
  have c1_2 := K1_2.out.cell 2; have c3_2 := K3_2.out.cell 2; have z3_2 := K3_2.out.frozen 2
  have c1_3 := K1_2.out.cell 3; have c3_3 := K3_2.out.cell 3; have z3_3 := K3_2.out.frozen 3
  go_upto_region 6 with (fail)
  clear c1_0 c3_0 z3_0 c1_1 c3_1 z3_1 c1_2 c3_2 z3_2 c1_3 c3_3 z3_3
  have k2 : Bk ((w2).setCell ⟨w.heap.size + 1 + 1, 3, none⟩ (.slice U3 l3.length C3)) (w.heap.size + 1) 42 #[.int .i64 0, .int .i64 0, .slice none 0 0, .slice none 0 0] := (K2_2.out.far (by omega) 3 (.slice U3 l3.length C3))
  have k3 : Bk ((w2).setCell ⟨w.heap.size + 1 + 1, 3, none⟩ (.slice U3 l3.length C3)) (w.heap.size + 1 + 1) 42 #[.int .i64 m0, .int .i64 m1, .slice U2 l2.length C2, .slice U3 l3.length C3] := (K3_2.out.set 3 (.slice U3 l3.length C3))
  have hk : KeptB (w.heap.size + 1 + 1 + 1) w2.heap.size w2 ((w2).setCell ⟨w.heap.size + 1 + 1, 3, none⟩ (.slice U3 l3.length C3)) := (KeptB.refl _ _ _).setr (p := ⟨w.heap.size + 1 + 1, 3, none⟩) (by dsimp only; omega)
  have hs : w2.heap.size ≤ ((w2).setCell ⟨w.heap.size + 1 + 1, 3, none⟩ (.slice U3 l3.length C3)).heap.size := by simp only [World.size_setCell]; exact Nat.le_refl _
  have hbW : Below w.heap.size w ((w2).setCell ⟨w.heap.size + 1 + 1, 3, none⟩ (.slice U3 l3.length C3)) := (Kb2.out).setCell (p := ⟨w.heap.size + 1 + 1, 3, none⟩) (by dsimp only; omega) _
  have a2 := (A2_2.out.keep hk).more (Nat.le_refl _) hs; have b2 := (B2_2.out.keep hk).more (Nat.le_refl _) hs
  have a3 := (A3_2.out.keep RStmt_stable hk).more RStmt_stable (Nat.le_refl _) hs; have b3 := (B3_2.out.keep OStmt_stable hk).more OStmt_stable (Nat.le_refl _) hs
  clear hk hs A2_2 B2_2 A3_2 B3_2
  generalize (w2).setCell ⟨w.heap.size + 1 + 1, 3, none⟩ (.slice U3 l3.length C3) = W at k2 k3 hbW a2 b2 a3 b3 ⊢
  have hzW : w.heap.size + 1 + 1 < W.heap.size := k3.lt
  have HF := hide (show ∀ WF : World, KeptB (w.heap.size + 1 + 1 + 1) W.heap.size W WF → W.heap.size ≤ WF.heap.size → Below w.heap.size w WF → ∃ cs' : List Value, Ending.returned (.agg #[.int .i64 m0, .int .i64 m1, .slice U2 l2.length C2, .slice U3 l3.length C3]) = .returned (.agg cs'.toArray) ∧ RFunc WF w.heap.size WF.heap.size cs' ⟨m0, m1, l2, l3⟩ ∧ OFunc WF w.heap.size WF.heap.size cs' ⟨m0, m1, l2, l3⟩ ∧ Below w.heap.size w WF from
    fun WF hk hs hb => ⟨[.int .i64 m0, .int .i64 m1, .slice U2 l2.length C2, .slice U3 l3.length C3], rfl, ⟨_, _, rfl, (a2.keep hk).more (by omega) hs, (a3.keep RStmt_stable hk).more RStmt_stable (by omega) hs⟩, ⟨_, _, _, _, rfl, trivial, trivial, (b2.keep hk).more (by omega) hs, (b3.keep OStmt_stable hk).more OStmt_stable (by omega) hs⟩, hb⟩)
  have HbW := hide hbW; clear hbW a2 b2 a3 b3
  have c2_0 := k2.cell 0; have y2_0 := k2.frozen 0; have c3_0 := k3.cell 0
  have c2_1 := k2.cell 1; have y2_1 := k2.frozen 1; have c3_1 := k3.cell 1
  have c2_2 := k2.cell 2; have y2_2 := k2.frozen 2; have c3_2 := k3.cell 2
  have c2_3 := k2.cell 3; have y2_3 := k2.frozen 3; have c3_3 := k3.cell 3
  clear k2 k3
  go_wp2
  refine bodyPost_ret (v := .agg #[.int .i64 m0, .int .i64 m1, .slice U2 l2.length C2, .slice U3 l3.length C3]) (by simp [results, Try.results18, go_sem, c2_0, c2_1, c2_2, c2_3]) rfl ?_
  exact HF.out _ (((((KeptB.refl _ _ _).setr (by dsimp only; omega)).setr (by dsimp only; omega)).setr (by dsimp only; omega)).setr (by dsimp only; omega)) (by simp only [World.size_setCell]; exact Nat.le_refl _) (((((HbW.out).setCell (by dsimp only; omega) _).setCell (by dsimp only; omega) _).setCell (by dsimp only; omega) _).setCell (by dsimp only; omega) _)

theorem okFunc : SliceOk Try.prog 27 42 (.agg #[.int .i64 0, .int .i64 0, .slice none 0 0, .slice none 0 0]) 4 64 := .mk Try.underlying27 (by kernel_rfl) rfl (by decide)
set_option maxHeartbeats 3200000 in
theorem toFuncS (v : Value) (l : List FuncM) (w : World) (hr : RL RFunc 4 w 0 w.heap.size v l) (hz : szFuncsN l ≤ 1048576) :
    Calls Try.prog 46 #[v] w fun e w' => ∃ v', e = .returned v' ∧ RL RFunc 4 w' w.heap.size w'.heap.size v' l ∧ OL OFunc 42 4 w' w.heap.size w'.heap.size v' l ∧ Below w.heap.size w w' := by
  have hlen : l.length ≤ 1048576 := by have : szFuncsN l = l.length + szFuncsL l := rfl; omega
  have hel : ∀ k (h : k < l.length), szFuncN l[k] ≤ 1048576 := fun k h => by have := szFuncsL_mem h; have : szFuncsN l = l.length + szFuncsL l := rfl; omega
  obtain ⟨A, c, rfl⟩ := hr.form
  have Hr := hide hr; have Hel := hide hel; clear hr hz hel
  go_enter Try.func46, Try.ntmps46
  go_wp2_with (at_make; go_must (refine wpList_makeN rfl _ _ _ rfl okFunc l.length rfl rfl (by omega) (by unfold maxLen; omega) ?_); intro w1 hown1 hb1)
  go_loopw [4] (fun i wr => ∃ (k : Nat) (css : List (List Value)), k ≤ l.length ∧ i = .int .i64 k ∧ css.length = l.length ∧ (∀ x ∈ css, x.length = 4) ∧ wr.ownsRow w.heap.size 42 4 (.slice (some ⟨w.heap.size, 0, none⟩) l.length l.length) l.length css.flatten ∧
      (∀ j (h : j < l.length), j < k → ∃ cs, css[j]? = some cs ∧ RFunc wr (w.heap.size + 1) wr.heap.size cs l[j] ∧ OFunc wr (w.heap.size + 1) wr.heap.size cs l[j]) ∧ Below w.heap.size w wr) (fun i _ => l.length - (intOf i).toNat)
  case atStart =>
    refine ⟨0, List.replicate l.length [.int .i64 0, .int .i64 0, .slice none 0 0, .slice none 0 0], by omega, rfl, by simp, fun x hx => by rw [List.eq_of_mem_replicate hx]; rfl, ?_, fun j _ hj => by omega, hb1⟩
    have := made_cells #[.int .i64 0, .int .i64 0, .slice none 0 0, .slice none 0 0] l.length (by decide)
    rw [← this]
    exact hown1
  case round =>
    obtain ⟨k, css, hk, rfl, hcl, hce, hown, hel, hb⟩ := hrel
    by_cases hlt : k < l.length
    · have hm := Hel.out k hlt
      obtain ⟨b, o, v2, v3, rfl, hbB, e0, e1, e2, e3, hx⟩ := RFunc_at (Hr.out.here RFunc_stable hb) hlt
      have hg := hown.lt w.heap.size rfl
      have Hel2 := hide hel; have Hown := hide hown; have Hb := hide hb; have Hx := hide hx; have hbs := hb.size; have Hcl := hide hcl; have Hce := hide hce
      clear hel hown hb hx hown1 hb1 hcl hce
      generalize hm0 : l[k] = m at *
      have Hm0 := hide hm0; clear hm0
      go_wp2_with fail
      refine (toFunc _ m _ Hx.out hm).mono ?_
      rintro e w2 ⟨cs', rfl, hrd, hog, hb2⟩
      have hown2 := own_keep Hown.out hb2
      have hks : KeptB (w.heap.size + 1) wr.heap.size wr w2 := (KeptB.refl _ _ _).below hb2 (Nat.le_refl _)
      have hsz2 := hb2.size
      obtain ⟨u2, u3, rfl, r2, r3⟩ := id hrd
      obtain ⟨U2, C2, rfl⟩ := r2.form
      obtain ⟨U3, C3, rfl⟩ := r3.form
      obtain ⟨d0, hd0⟩ := own_at hown2 (j := k * 4) (by omega)
      have hf0 := hown2.frozenAt (k * 4)
      obtain ⟨d1, hd1⟩ := own_at hown2 (j := k * 4 + 1) (by omega)
      have hf1 := hown2.frozenAt (k * 4 + 1)
      obtain ⟨d2, hd2⟩ := own_at hown2 (j := k * 4 + 2) (by omega)
      have hf2 := hown2.frozenAt (k * 4 + 2)
      obtain ⟨d3, hd3⟩ := own_at hown2 (j := k * 4 + 3) (by omega)
      have hf3 := hown2.frozenAt (k * 4 + 3)
      have hgb : w.heap.size + 1 ≤ wr.heap.size := by omega
      have HKF := hide (show KeptB wr.heap.size w2.heap.size w2 (((((w2).setCell ⟨w.heap.size, k * 4, none⟩ (.int .i64 m.qParams)).setCell ⟨w.heap.size, k * 4 + 1, none⟩ (.int .i64 m.qVars)).setCell ⟨w.heap.size, k * 4 + 2, none⟩ (.slice U2 m.qBody.length C2)).setCell ⟨w.heap.size, k * 4 + 3, none⟩ (.slice U3 m.qStmts.length C3)) from ((((KeptB.refl _ _ _).setr (by dsimp only; omega)).setr (by dsimp only; omega)).setr (by dsimp only; omega)).setr (by dsimp only; omega))
      have HZF := hide (show w2.heap.size ≤ (((((w2).setCell ⟨w.heap.size, k * 4, none⟩ (.int .i64 m.qParams)).setCell ⟨w.heap.size, k * 4 + 1, none⟩ (.int .i64 m.qVars)).setCell ⟨w.heap.size, k * 4 + 2, none⟩ (.slice U2 m.qBody.length C2)).setCell ⟨w.heap.size, k * 4 + 3, none⟩ (.slice U3 m.qStmts.length C3)).heap.size from by simp only [World.size_setCell]; exact Nat.le_refl _)
      have HKG := hide (show KeptB (w.heap.size + 1) wr.heap.size wr (((((w2).setCell ⟨w.heap.size, k * 4, none⟩ (.int .i64 m.qParams)).setCell ⟨w.heap.size, k * 4 + 1, none⟩ (.int .i64 m.qVars)).setCell ⟨w.heap.size, k * 4 + 2, none⟩ (.slice U2 m.qBody.length C2)).setCell ⟨w.heap.size, k * 4 + 3, none⟩ (.slice U3 m.qStmts.length C3)) from ((((hks).setr (by dsimp only; omega)).setr (by dsimp only; omega)).setr (by dsimp only; omega)).setr (by dsimp only; omega))
      have HZG := hide (show wr.heap.size ≤ (((((w2).setCell ⟨w.heap.size, k * 4, none⟩ (.int .i64 m.qParams)).setCell ⟨w.heap.size, k * 4 + 1, none⟩ (.int .i64 m.qVars)).setCell ⟨w.heap.size, k * 4 + 2, none⟩ (.slice U2 m.qBody.length C2)).setCell ⟨w.heap.size, k * 4 + 3, none⟩ (.slice U3 m.qStmts.length C3)).heap.size from by simp only [World.size_setCell]; exact hsz2)
      have Hrd := hide hrd; have Hog := hide hog; have Hown2 := hide hown2; have Hks := hide hks; have Hb2 := hide (Hb.out.trans (hb2.mono hbs)); clear hrd hog hown2 hks hb2 r2 r3
      go_wp2
      go_roundw
      case rel =>
        refine ⟨k + 1, css.set k [.int .i64 m.qParams, .int .i64 m.qVars, .slice U2 m.qBody.length C2, .slice U3 m.qStmts.length C3], by omega, by go_num, by rw [List.length_set]; exact Hcl.out, fun x hx => ?_, ?_, fun j hj hjk => ?_, ?_⟩
        · rcases List.mem_or_eq_of_mem_set hx with h | h
          · exact Hce.out x h
          · rw [h]; rfl
        · have := flatten_set css k [.int .i64 m.qParams, .int .i64 m.qVars, .slice U2 m.qBody.length C2, .slice U3 m.qStmts.length C3] 4 Hce.out rfl (by rw [Hcl.out]; exact hlt)
          rw [← this]
          simp only [setAll, List.zipIdx, List.foldl]
          exact own_set (own_set (own_set (own_set Hown2.out (k * 4) _) (k * 4 + 1) _) (k * 4 + 2) _) (k * 4 + 3) _
        · by_cases ejk : j = k
          · subst ejk
            refine ⟨[.int .i64 m.qParams, .int .i64 m.qVars, .slice U2 m.qBody.length C2, .slice U3 m.qStmts.length C3], by rw [List.getElem?_set_self (by rw [Hcl.out]; exact hlt)], ?_, ?_⟩
            · rw [Hm0.out]; exact RFunc_stable.more (RFunc_stable.keep Hrd.out HKF.out) hgb HZF.out
            · rw [Hm0.out]; exact OFunc_stable.more (OFunc_stable.keep Hog.out HKF.out) hgb HZF.out
          · obtain ⟨cs, h1, h2, h3⟩ := Hel2.out j hj (by omega)
            refine ⟨cs, by rw [List.getElem?_set, if_neg (by omega)]; exact h1, ?_, ?_⟩
            · exact RFunc_stable.more (RFunc_stable.keep h2 HKG.out) (Nat.le_refl _) HZG.out
            · exact OFunc_stable.more (OFunc_stable.keep h3 HKG.out) (Nat.le_refl _) HZG.out
        · exact ((((Hb2.out).setCell (by dsimp only; omega) _).setCell (by dsimp only; omega) _).setCell (by dsimp only; omega) _).setCell (by dsimp only; omega) _
      case measure => simp [intOf]; omega
    · obtain rfl : k = l.length := by omega
      have HF := hide (own_finish hcl hce hown (fun j h => hel j h h) RFunc_stable OFunc_stable); have Hb := hide hb
      clear hel hce hcl hown hb hown1 hb1
      go_wp2
      go_ret
      exact ⟨_, rfl, HF.out.1, HF.out.2, Hb.out⟩

set_option maxHeartbeats 1600000 in
theorem eqFunc (cs cs2 : List Value) (m : FuncM) (w : World) (hr : RFunc w 0 w.heap.size cs m) (hr2 : RFunc w 0 w.heap.size cs2 m) :
    Calls Try.prog 21 #[.agg cs.toArray, .agg cs2.toArray] w fun e w' => e = .returned (.bool true) ∧ Below w.heap.size w w' := by
  obtain ⟨y2, y3, rfl, g2, g3⟩ := hr2
  obtain ⟨v2, v3, rfl, h2, h3⟩ := hr
  obtain ⟨m0, m1, l2, l3⟩ := m
  dsimp only at *
  have hl2 := h2.long; have H2 := hide h2; have G2 := hide g2; clear h2 g2
  have hl3 := h3.long; have H3 := hide h3; have G3 := hide g3; clear h3 g3
  go_enter Try.func21, Try.ntmps21
  go_wp2_with fail
  refine (eqIntSB _ _ l2 _ (H2.out.rd.here (by go_grown)) (G2.out.rd.here (by go_grown)) hl2).mono ?_
  rintro e w1 ⟨rfl, hb⟩
  obtain ⟨k1, k2, hz1, kb⟩ := two_below hb
  have K1_1 := hide k1; have K2_1 := hide k2; have Kb1 := hide kb; clear k1 k2 kb hb
  have c1_0 := K1_1.out.cell 0; have c2_0 := K2_1.out.cell 0
  have c1_1 := K1_1.out.cell 1; have c2_1 := K2_1.out.cell 1
  have c1_2 := K1_1.out.cell 2; have c2_2 := K2_1.out.cell 2
  have c1_3 := K1_1.out.cell 3; have c2_3 := K2_1.out.cell 3
  go_wp2_with fail
  refine (eqStmtS _ _ l3 _ (H3.out.here RStmt_stable Kb1.out) (G3.out.here RStmt_stable Kb1.out)).mono ?_
  rintro e w2 ⟨rfl, hb⟩
  clear c1_0 c2_0 c1_1 c2_1 c1_2 c2_2 c1_3 c2_3
  have K1_2 := hide (K1_1.out.below hb); have K2_2 := hide (K2_1.out.below hb); have Kb2 := hide (Kb1.out.trans (hb.mono Kb1.out.size)); clear hb
  have c1_0 := K1_2.out.cell 0; have c2_0 := K2_2.out.cell 0
  have c1_1 := K1_2.out.cell 1; have c2_1 := K2_2.out.cell 1
  have c1_2 := K1_2.out.cell 2; have c2_2 := K2_2.out.cell 2
  have c1_3 := K1_2.out.cell 3; have c2_3 := K2_2.out.cell 3
  go_wp2
  go_ret
  exact ⟨rfl, Kb2.out⟩

set_option maxHeartbeats 1600000 in
theorem eqFuncS (v v2 : Value) (l : List FuncM) (w : World) (hr : RL RFunc 4 w 0 w.heap.size v l) (hr2 : RL RFunc 4 w 0 w.heap.size v2 l) :
    Calls Try.prog 48 #[v, v2] w fun e w' => e = .returned (.bool true) ∧ Below w.heap.size w w' := by
  have hl := hr.long
  obtain ⟨A, c, rfl⟩ := hr.form
  obtain ⟨A2, c2, rfl⟩ := hr2.form
  have Hr := hide hr; have Hr2 := hide hr2; clear hr hr2
  go_enter Try.func48, Try.ntmps48
  go_wp2
  go_loopw [5] (fun i wr => ∃ k : Nat, k ≤ l.length ∧ i = .int .i64 k ∧ Below w.heap.size w wr) (fun i _ => l.length - (intOf i).toNat)
  case atStart => exact ⟨0, by omega, rfl, Below.refl _ _⟩
  case round =>
    obtain ⟨k, hk, rfl, hb⟩ := hrel
    by_cases hlt : k < l.length
    · obtain ⟨b, o, v2, v3, rfl, hbB, e0, e1, e2, e3, hx⟩ := RFunc_at (Hr.out.here RFunc_stable hb) hlt
      obtain ⟨b2, o2, y2, y3, rfl, hbB2, d0, d1, d2, d3, hx2⟩ := RFunc_at (Hr2.out.here RFunc_stable hb) hlt
      have Hb := hide hb; have hbs := hb.size
      have Hx := hide (RFunc_stable.here hx ((Below.refl _ _).drew)); have Hx2 := hide (RFunc_stable.here hx2 ((Below.refl _ _).drew)); clear hb Hr Hr2 hx hx2
      generalize l[k] = m at *
      go_wp2_with fail
      go_still_tail 8, (by kernel_rfl)
      change wpList _ _ _ _ _ wr.drew
      go_wp2_with fail
      refine (eqFunc _ _ m _ Hx.out Hx2.out).mono ?_
      rintro e w2 ⟨rfl, hb2⟩
      have Hb2 := hide ((Hb.out.drew).trans (hb2.mono hbs)); clear hb2
      go_wp2
      go_roundw
      case rel => exact ⟨k + 1, by omega, by go_num, Hb2.out⟩
      case measure => simp [intOf]; omega
    · obtain rfl : k = l.length := by omega
      go_wp2
      go_ret
      exact ⟨rfl, hb⟩
end Go.Proofs.Ytdniplnggikkgaa
