
/- Image in memory: what toImage, szImage, eqImage and their kin over slices do. No condition. -/
import Derived.Test.YtaebmliolpgmdaaGreatNst
import Derived.Test.YtaebmliolpgmdaaGreatNst2
import Derived.Test.YtaebmliolpgmdaaGreatNdCode
import Derived.Handy
import Derived.Deep.Light
import Derived.Deep.QuietTactic
import Derived.BigQuiet
import Derived.StillTailTactics
import Derived.Deep.RegionWith
set_option linter.unusedSimpArgs false
set_option linter.unusedVariables false
set_option maxRecDepth 100000
namespace Go.Proofs.YtaebmliolpgmdaaGreat
open Go.RowKit

structure ImageM where
  qCodes : List CodeM
def szImageN (m : ImageM) : Nat := szCodesN m.qCodes
def szImagesL : List ImageM → Nat
  | [] => 0
  | m :: l => szImageN m + szImagesL l
def szImagesN (l : List ImageM) : Nat := l.length + szImagesL l
theorem szImagesL_step {l : List ImageM} {k : Nat} (h : k < l.length) : szImagesL (l.drop k) = szImageN l[k] + szImagesL (l.drop (k + 1)) := by
  rw [List.drop_eq_getElem_cons h]; rfl
theorem szImagesL_mem : ∀ {l : List ImageM} {k : Nat} (h : k < l.length), szImageN l[k] ≤ szImagesL l := by
  intro l
  induction l with
  | nil => intro k h; simp at h
  | cons a l ih =>
    intro k h
    cases k with
    | zero => simp [szImagesL]
    | succ k => have := ih (k := k) (by simpa using h); simp only [szImagesL, List.getElem_cons_succ]; omega
def RImage (w : World) (lo hi : Nat) (cs : List Value) (m : ImageM) : Prop := ∃ v0 : Value, cs = [v0] ∧ RL RCode 5 w lo hi v0 m.qCodes
theorem RImage_stable : Stable RImage :=
  ⟨fun ⟨v0, e, h0⟩ hk => ⟨v0, e, h0.keep RCode_stable hk⟩, fun ⟨v0, e, h0⟩ p1 p2 => ⟨v0, e, h0.more RCode_stable p1 p2⟩⟩
def OImage (w : World) (lo hi : Nat) (cs : List Value) (m : ImageM) : Prop := ∃ c0 : Value, cs = [c0] ∧ OL OCode 58 5 w lo hi c0 m.qCodes
theorem OImage_stable : Stable OImage :=
  ⟨fun ⟨c0, e, h0⟩ hk => ⟨c0, e, h0.keep OCode_stable hk⟩, fun ⟨c0, e, h0⟩ p1 p2 => ⟨c0, e, h0.more OCode_stable p1 p2⟩⟩
/-- the cells of an element of a slice that is read -/
theorem RImage_at {w : World} {hi c i : Nat} {A : Option Addr} {l : List ImageM} (h : RL RImage 1 w 0 hi (.slice A l.length c) l) (hl : i < l.length) :
    ∃ (b o : Nat) (v0 : Value), A = some ⟨b, o, none⟩ ∧ b < hi ∧ w.cell? ⟨b, o + i * 1, none⟩ = some (v0) ∧ RImage w 0 hi [v0] l[i] := by
  obtain ⟨b, o, cs, hA, hb, hcl, hcell, hr⟩ := h.at_ hl
  have hr' := hr
  obtain ⟨v0, rfl, h0⟩ := hr
  exact ⟨b, o, v0, hA, hb.2, hcell 0 _ rfl, hr'⟩

set_option maxHeartbeats 1600000 in
theorem szImage (cs : List Value) (m : ImageM) (left : Int) (w : World) (hr : RImage w 0 w.heap.size cs m) (g1 : 0 ≤ left) (g2 : left ≤ 4611686018427387904) :
    Calls Tryz.prog 5 #[.agg cs.toArray, .int .i64 left] w fun e w' => e = .returned (.int .i64 (subL left (szImageN m))) ∧ Below w.heap.size w w' := by
  obtain ⟨v0, rfl, h0⟩ := hr
  obtain ⟨l0⟩ := m
  obtain ⟨hT1, hT2⟩ : szImageN ⟨l0⟩ ≤ szCodesN l0 ∧ szCodesN l0 ≤ szImageN ⟨l0⟩ := ⟨Nat.le_refl _, Nat.le_refl _⟩
  generalize szImageN ⟨l0⟩ = T at *
  dsimp only at *
  have H0 := hide h0; clear h0
  have HW := hide ((Below.refl w.heap.size w).alloc (Nat.le_refl _) (.cells #[v0] 24))
  go_enter Tryz.func5, Tryz.ntmps5
  go_wp2_with fail
  refine (szCodeS _ l0 (left) _ (H0.out.here RCode_stable HW.out) (by omega) (by omega)).mono ?_
  rintro e w1 ⟨rfl, hb⟩
  obtain ⟨k1, _, kb⟩ := one_below hb
  have HW := hide kb; have HK := hide k1; clear hb kb k1
  by_cases q0 : ((szCodesN l0 : Nat) : Int) ≤ left
  case neg =>
    rw [subL_no q0]
    go_wp2
    go_ret
    exact ⟨retI (by rw [subL_no (by omega)]), HW.out⟩
  rw [subL_yes q0]
  go_wp2
  go_ret
  exact ⟨retI (by rw [subL_yes (by omega)]; omega), HW.out⟩

set_option maxHeartbeats 3200000 in
theorem toImage (cs : List Value) (m : ImageM) (w : World) (hr : RImage w 0 w.heap.size cs m) (hz : szImageN m ≤ 1048576) :
    Calls Tryz.prog 7 #[.agg cs.toArray] w fun e w' => ∃ cs' : List Value, e = .returned (.agg cs'.toArray) ∧ RImage w' w.heap.size w'.heap.size cs' m ∧ OImage w' w.heap.size w'.heap.size cs' m ∧ Below w.heap.size w w' := by
  obtain ⟨v0, rfl, h0⟩ := hr
  obtain ⟨l0⟩ := m
  dsimp only [szImageN] at *
  have H0 := hide h0; clear h0
  have nn0 : l0.length ≤ 1048576 := by have : szCodesN l0 = l0.length + szCodesL l0 := rfl; omega
  go_enter Tryz.func7, Tryz.ntmps7
  go_wp2_with fail
  refine (toCodeS _ l0 _ (H0.out.here RCode_stable (by go_grown)) (by omega)).mono ?_
  rintro e w1 ⟨u0, rfl, hrd, hog, hb⟩
  obtain ⟨U0, C0, rfl⟩ := hrd.form
  obtain ⟨k1, k2, k3, hz1, kb⟩ := three_below hb
  have K1_1 := hide k1; have K2_1 := hide k2; have K3_1 := hide k3; have Kb1 := hide kb; clear k1 k2 k3 kb
  have hlo : w.heap.size + 1 + 1 + 1 ≤ (((w.alloc (.cells #[v0] 24)).alloc (.cells #[.slice none 0 0] 31)).alloc (.cells #[.slice none 0 0] 31)).heap.size := by rw [World.size_alloc, World.size_alloc, World.size_alloc]; omega
  have A0_1 := hide (hrd.more RCode_stable (lo' := w.heap.size + 1 + 1 + 1) hlo (Nat.le_refl _)); have B0_1 := hide (hog.more OCode_stable (lo' := w.heap.size + 1 + 1 + 1) hlo (Nat.le_refl _)); clear hrd hog hb hlo
  have c1_0 := K1_1.out.cell 0; have c3_0 := K3_1.out.cell 0; have z3_0 := K3_1.out.frozen 0
  go_upto_region 3 with (fail)
  clear c1_0 c3_0 z3_0
  have k2 : Bk ((w1).setCell ⟨w.heap.size + 1 + 1, 0, none⟩ (.slice U0 l0.length C0)) (w.heap.size + 1) 31 #[.slice none 0 0] := (K2_1.out.far (by omega) 0 (.slice U0 l0.length C0))
  have k3 : Bk ((w1).setCell ⟨w.heap.size + 1 + 1, 0, none⟩ (.slice U0 l0.length C0)) (w.heap.size + 1 + 1) 31 #[.slice U0 l0.length C0] := (K3_1.out.set 0 (.slice U0 l0.length C0))
  have hk : KeptB (w.heap.size + 1 + 1 + 1) w1.heap.size w1 ((w1).setCell ⟨w.heap.size + 1 + 1, 0, none⟩ (.slice U0 l0.length C0)) := (KeptB.refl _ _ _).setr (p := ⟨w.heap.size + 1 + 1, 0, none⟩) (by dsimp only; omega)
  have hs : w1.heap.size ≤ ((w1).setCell ⟨w.heap.size + 1 + 1, 0, none⟩ (.slice U0 l0.length C0)).heap.size := by simp only [World.size_setCell]; exact Nat.le_refl _
  have hbW : Below w.heap.size w ((w1).setCell ⟨w.heap.size + 1 + 1, 0, none⟩ (.slice U0 l0.length C0)) := (Kb1.out).setCell (p := ⟨w.heap.size + 1 + 1, 0, none⟩) (by dsimp only; omega) _
  have a0 := (A0_1.out.keep RCode_stable hk).more RCode_stable (Nat.le_refl _) hs; have b0 := (B0_1.out.keep OCode_stable hk).more OCode_stable (Nat.le_refl _) hs
  clear hk hs A0_1 B0_1
  generalize (w1).setCell ⟨w.heap.size + 1 + 1, 0, none⟩ (.slice U0 l0.length C0) = W at k2 k3 hbW a0 b0 ⊢
  have hzW : w.heap.size + 1 + 1 < W.heap.size := k3.lt
  have HF := hide (show ∀ WF : World, KeptB (w.heap.size + 1 + 1 + 1) W.heap.size W WF → W.heap.size ≤ WF.heap.size → Below w.heap.size w WF → ∃ cs' : List Value, Ending.returned (.agg #[.slice U0 l0.length C0]) = .returned (.agg cs'.toArray) ∧ RImage WF w.heap.size WF.heap.size cs' ⟨l0⟩ ∧ OImage WF w.heap.size WF.heap.size cs' ⟨l0⟩ ∧ Below w.heap.size w WF from
    fun WF hk hs hb => ⟨[.slice U0 l0.length C0], rfl, ⟨_, rfl, (a0.keep RCode_stable hk).more RCode_stable (by omega) hs⟩, ⟨_, rfl, (b0.keep OCode_stable hk).more OCode_stable (by omega) hs⟩, hb⟩)
  have HbW := hide hbW; clear hbW a0 b0
  have c2_0 := k2.cell 0; have y2_0 := k2.frozen 0; have c3_0 := k3.cell 0
  clear k2 k3
  go_wp2
  refine bodyPost_ret (v := .agg #[.slice U0 l0.length C0]) (by simp [results, Tryz.results7, go_sem, c2_0]) rfl ?_
  exact HF.out _ ((KeptB.refl _ _ _).setr (by dsimp only; omega)) (by simp only [World.size_setCell]; exact Nat.le_refl _) ((HbW.out).setCell (by dsimp only; omega) _)


set_option maxHeartbeats 1600000 in
theorem eqImage (cs cs2 : List Value) (m : ImageM) (w : World) (hr : RImage w 0 w.heap.size cs m) (hr2 : RImage w 0 w.heap.size cs2 m) :
    Calls Tryz.prog 10 #[.agg cs.toArray, .agg cs2.toArray] w fun e w' => e = .returned (.bool true) ∧ Below w.heap.size w w' := by
  obtain ⟨y0, rfl, g0⟩ := hr2
  obtain ⟨v0, rfl, h0⟩ := hr
  obtain ⟨l0⟩ := m
  dsimp only at *
  have hl0 := h0.long; have H0 := hide h0; have G0 := hide g0; clear h0 g0
  go_enter Tryz.func10, Tryz.ntmps10
  go_wp2_with fail
  refine (eqCodeS _ _ l0 _ (H0.out.here RCode_stable (by go_grown)) (G0.out.here RCode_stable (by go_grown))).mono ?_
  rintro e w1 ⟨rfl, hb⟩
  obtain ⟨k1, k2, hz1, kb⟩ := two_below hb
  have K1_1 := hide k1; have K2_1 := hide k2; have Kb1 := hide kb; clear k1 k2 kb hb
  have c1_0 := K1_1.out.cell 0; have c2_0 := K2_1.out.cell 0
  go_wp2
  go_ret
  exact ⟨rfl, Kb1.out⟩

end Go.Proofs.YtaebmliolpgmdaaGreat
