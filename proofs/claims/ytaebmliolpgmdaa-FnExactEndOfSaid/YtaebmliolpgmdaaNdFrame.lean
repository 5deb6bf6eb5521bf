
/- Frame in memory: what toFrame, szFrame, eqFrame and their kin over slices do. No condition. -/
import Derived.Test.YtaebmliolpgmdaaNst
import Derived.Test.YtaebmliolpgmdaaNst2
import Derived.Test.YtaebmliolpgmdaaSl6
import Derived.Handy
import Derived.Deep.Light
import Derived.Deep.QuietTactic
import Derived.BigQuiet
import Derived.StillTailTactics
import Derived.Deep.RegionWith
import Derived.Test.YtaebmliolpgmdaaMem
import Derived.Test.YtaebmliolpgmdaaChecked
set_option linter.unusedSimpArgs false
set_option linter.unusedVariables false
set_option maxRecDepth 100000
namespace Go.Proofs.Ytaebmliolpgmdaa
open Go.RowKit

def bbcells (zs : List Bool) : List Value := zs.map Value.bool
theorem bbcells_length (zs : List Bool) : (bbcells zs).length = zs.length := by simp [bbcells]
theorem bbcells_get (zs : List Bool) {j : Nat} (h : j < zs.length) : (bbcells zs)[j]'(by rw [bbcells_length]; exact h) = .bool zs[j] := by simp [bbcells]
theorem bbcells_set (zs : List Bool) (j : Nat) (x : Bool) : (bbcells zs).set j (.bool x) = bbcells (zs.set j x) := by simp [bbcells, List.map_set]
theorem bbcells_flat (l : List Bool) : l.flatMap (fun z => [Value.bool z]) = bbcells l := by
  induction l with
  | nil => rfl
  | cons z l ih => rw [List.flatMap_cons, ih]; rfl
theorem sc_bbcells {l : List Bool} : ∀ x ∈ bbcells l, sc x := by intro x hx; obtain ⟨z, _, rfl⟩ := List.mem_map.1 hx; trivial
theorem made_bool (n : Nat) : (madeCells (Value.bool false).cells (n * 1)).toList = bbcells (List.replicate n false) := by
  rw [Nat.mul_one]
  have e : (Value.bool false).cells = #[.bool false] := rfl
  rw [e, toList_madeCells_one]
  simp [bbcells]
theorem okBool : SliceOk Try.prog 72 4 (.bool false) 1 1 := .mk Try.underlying72 (by kernel_rfl) rfl (by decide)

set_option maxHeartbeats 400000 in
theorem toBoolS (v : Value) (zs : List Bool) (w : World) (hr : Rd w w.heap.size v zs.length (bbcells zs)) (hl : zs.length ≤ 1048576) :
    Calls Try.prog 111 #[v] w fun e w' => ∃ v', e = .returned v' ∧ w'.ownsRow w.heap.size 4 1 v' zs.length (bbcells zs) ∧ Below w.heap.size w w' := by
  obtain ⟨A, c, rfl, hn, hc, hcell⟩ := id hr
  go_enter Try.func111, Try.ntmps111
  go_wp2_with (at_make; go_must (refine wpList_makeN rfl _ _ _ rfl okBool zs.length rfl rfl (by omega) (by unfold maxLen; omega) ?_); intro w1 hown1 hb1)
  go_loopw [4] (fun i wr => ∃ k : Nat, k ≤ zs.length ∧ i = .int .i64 k ∧ wr.ownsRow w.heap.size 4 1 (.slice (some ⟨w.heap.size, 0, none⟩) zs.length zs.length) zs.length (bbcells (filledA false zs k)) ∧ Below w.heap.size w wr) (fun i _ => zs.length - (intOf i).toNat)
  case atStart => exact ⟨0, by omega, rfl, by rw [filledA_zero, ← made_bool]; exact hown1, hb1⟩
  case round =>
    obtain ⟨k, hk, rfl, hown, hb⟩ := hrel
    by_cases hlt : k < zs.length
    · obtain ⟨b, o, rfl, hbB, hsrc0⟩ := hr.at_ (j := k) (by rw [bbcells_length]; exact hlt)
      rw [bbcells_get _ hlt] at hsrc0
      have hsrc : wr.cell? ⟨b, o + k, none⟩ = some (.bool zs[k]) := (hb.cell (p := ⟨b, o + k, none⟩) hbB).trans hsrc0
      obtain ⟨old, hdst⟩ := own_at hown (j := k) (by omega)
      have hfr := hown.frozenAt k
      have Hown := hide hown; have Hb := hide hb; clear hown hb hsrc0 hcell hr hown1 hb1
      go_wp2
      go_roundw
      case rel =>
        refine ⟨k + 1, by omega, by go_num, ?_, Hb.out.setCell (Nat.le_refl _) _⟩
        have := (Hown.out.stored k (.bool zs[k])).1
        rw [bbcells_set, filledA_set _ _ _ hlt] at this
        exact this
      case measure => simp [intOf]; omega
    · obtain rfl : k = zs.length := by omega
      go_wp2
      go_ret
      exact ⟨_, rfl, by rw [filledA_all] at hown; exact hown, hb⟩

set_option maxHeartbeats 400000 in
theorem eqBoolS0 (v v2 : Value) (zs : List Bool) (w : World) (B B2 : Nat) (hr : Rd w B v zs.length (bbcells zs)) (hr2 : Rd w B2 v2 zs.length (bbcells zs)) (hl : zs.length ≤ 9223372036854775807) :
    Calls Try.prog 112 #[v, v2] w fun e w' => e = .returned (.bool true) ∧ ∃ q, w' = w.drewN q := by
  obtain ⟨A, c, rfl, hn, hc, hcell⟩ := id hr
  obtain ⟨A2, c2, rfl, hn2, hc2, hcell2⟩ := id hr2
  go_enter Try.func112, Try.ntmps112
  go_wp2
  go_loopw [5] (fun i wr => ∃ k q : Nat, k ≤ zs.length ∧ i = .int .i64 k ∧ wr = w.drewN q) (fun i _ => zs.length - (intOf i).toNat)
  case atStart => exact ⟨0, 0, by omega, rfl, rfl⟩
  case round =>
    obtain ⟨k, q, hk, rfl, rfl⟩ := hrel
    by_cases hlt : k < zs.length
    · obtain ⟨b, o, rfl, hbB, hsrc⟩ := hr.at_ (j := k) (by rw [bbcells_length]; exact hlt)
      obtain ⟨b2, o2, rfl, hbB2, hsrc2⟩ := hr2.at_ (j := k) (by rw [bbcells_length]; exact hlt)
      rw [bbcells_get _ hlt] at hsrc hsrc2
      clear hcell hcell2 hr hr2
      go_wp2
      go_quiet (fail)
      go_wp2
      go_roundw
      case rel => exact ⟨k + 1, _, by omega, by go_num, rfl⟩
      case measure => simp [intOf]; omega
    · obtain rfl : k = zs.length := by omega
      go_wp2
      go_ret
      exact ⟨rfl, _, rfl⟩
theorem eqBoolS (v v2 : Value) (zs : List Bool) (w : World) (hr : Rd w w.heap.size v zs.length (bbcells zs)) (hr2 : Rd w w.heap.size v2 zs.length (bbcells zs)) (hl : zs.length ≤ 9223372036854775807) :
    Calls Try.prog 112 #[v, v2] w fun e w' => e = .returned (.bool true) ∧ Below w.heap.size w w' :=
  (eqBoolS0 v v2 zs w _ _ hr hr2 hl).mono fun e w' ⟨h1, q, h2⟩ => ⟨h1, by rw [h2]; exact below_drewN (Below.refl _ _) q⟩
theorem szBoolS (v : Value) (n : Nat) (cs : List Value) (left : Int) (w : World) (B : Nat) (hr : Rd w B v n cs) (h1 : 0 ≤ left) (h2 : left ≤ 4611686018427387904) :
    Calls Try.prog 110 #[v, .int .i64 left] w fun e w' => e = .returned (.int .i64 (if (n : Int) ≤ left then left - n else -1)) ∧ w = w' := by
  obtain ⟨A, c, rfl, hn, hc, hcell⟩ := id hr
  have hn' : n ≤ 9223372036854775807 := by unfold maxLen at hc; omega
  clear hcell hr hn hc
  by_cases g : (n : Int) ≤ left
  all_goals
    go_enter Try.func110, Try.ntmps110
    go_wp2
    all_goals first
      | (exfalso; omega)
      | (go_ret
         exact ⟨retI (by first | rfl | omega | rw [if_pos g] | rw [if_neg (by omega)]), rfl⟩)
end Go.Proofs.Ytaebmliolpgmdaa
set_option linter.unusedSimpArgs false
set_option linter.unusedVariables false
set_option maxRecDepth 100000
namespace Go.Proofs.Ytaebmliolpgmdaa
open Go.RowKit

structure FrameM where
  qId : Int
  qFn : Int
  qAt : Int
  qPile : List Int
  qVars : List Int
  qFlags : List Bool
  qResult : Int
  qMode : Int
  qValue : Int
  qBase : Int
  qOff : Bool
def szFrameN (m : FrameM) : Nat := m.qPile.length + (m.qVars.length + (m.qFlags.length))
def szFramesL : List FrameM → Nat
  | [] => 0
  | m :: l => szFrameN m + szFramesL l
def szFramesN (l : List FrameM) : Nat := l.length + szFramesL l
theorem szFramesL_step {l : List FrameM} {k : Nat} (h : k < l.length) : szFramesL (l.drop k) = szFrameN l[k] + szFramesL (l.drop (k + 1)) := by
  rw [List.drop_eq_getElem_cons h]; rfl
theorem szFramesL_mem : ∀ {l : List FrameM} {k : Nat} (h : k < l.length), szFrameN l[k] ≤ szFramesL l := by
  intro l
  induction l with
  | nil => intro k h; simp at h
  | cons a l ih =>
    intro k h
    cases k with
    | zero => simp [szFramesL]
    | succ k => have := ih (k := k) (by simpa using h); simp only [szFramesL, List.getElem_cons_succ]; omega
def RFrame (w : World) (lo hi : Nat) (cs : List Value) (m : FrameM) : Prop := ∃ v3 v4 v5 : Value, cs = [.int .i64 m.qId, .int .i64 m.qFn, .int .i64 m.qAt, v3, v4, v5, .int .i64 m.qResult, .int .i64 m.qMode, .int .i64 m.qValue, .int .i64 m.qBase, .bool m.qOff] ∧ Rg w lo hi v3 m.qPile.length (icells .i64 m.qPile) ∧ Rg w lo hi v4 m.qVars.length (icells .i64 m.qVars) ∧ Rg w lo hi v5 m.qFlags.length (bbcells m.qFlags)
theorem RFrame_stable : Stable RFrame :=
  ⟨fun ⟨v3, v4, v5, e, h3, h4, h5⟩ hk => ⟨v3, v4, v5, e, h3.keep hk, h4.keep hk, h5.keep hk⟩, fun ⟨v3, v4, v5, e, h3, h4, h5⟩ p1 p2 => ⟨v3, v4, v5, e, h3.more p1 p2, h4.more p1 p2, h5.more p1 p2⟩⟩
def OFrame (w : World) (lo hi : Nat) (cs : List Value) (m : FrameM) : Prop := ∃ c0 c1 c2 c3 c4 c5 c6 c7 c8 c9 c10 : Value, cs = [c0, c1, c2, c3, c4, c5, c6, c7, c8, c9, c10] ∧ sc c0 ∧ sc c1 ∧ sc c2 ∧ sc c6 ∧ sc c7 ∧ sc c8 ∧ sc c9 ∧ sc c10 ∧ Og w lo hi 3 1 c3 m.qPile.length ∧ Og w lo hi 3 1 c4 m.qVars.length ∧ Og w lo hi 4 1 c5 m.qFlags.length
theorem OFrame_stable : Stable OFrame :=
  ⟨fun ⟨c0, c1, c2, c3, c4, c5, c6, c7, c8, c9, c10, e, s0, s1, s2, s6, s7, s8, s9, s10, h3, h4, h5⟩ hk => ⟨c0, c1, c2, c3, c4, c5, c6, c7, c8, c9, c10, e, s0, s1, s2, s6, s7, s8, s9, s10, h3.keep hk, h4.keep hk, h5.keep hk⟩, fun ⟨c0, c1, c2, c3, c4, c5, c6, c7, c8, c9, c10, e, s0, s1, s2, s6, s7, s8, s9, s10, h3, h4, h5⟩ p1 p2 => ⟨c0, c1, c2, c3, c4, c5, c6, c7, c8, c9, c10, e, s0, s1, s2, s6, s7, s8, s9, s10, h3.more p1 p2, h4.more p1 p2, h5.more p1 p2⟩⟩
/-- the cells of an element of a slice that is read -/
theorem RFrame_at {w : World} {hi c i : Nat} {A : Option Addr} {l : List FrameM} (h : RL RFrame 11 w 0 hi (.slice A l.length c) l) (hl : i < l.length) :
    ∃ (b o : Nat) (v3 v4 v5 : Value), A = some ⟨b, o, none⟩ ∧ b < hi ∧ w.cell? ⟨b, o + i * 11, none⟩ = some (.int .i64 l[i].qId) ∧ w.cell? ⟨b, o + i * 11 + 1, none⟩ = some (.int .i64 l[i].qFn) ∧ w.cell? ⟨b, o + i * 11 + 2, none⟩ = some (.int .i64 l[i].qAt) ∧ w.cell? ⟨b, o + i * 11 + 3, none⟩ = some (v3) ∧ w.cell? ⟨b, o + i * 11 + 4, none⟩ = some (v4) ∧ w.cell? ⟨b, o + i * 11 + 5, none⟩ = some (v5) ∧ w.cell? ⟨b, o + i * 11 + 6, none⟩ = some (.int .i64 l[i].qResult) ∧ w.cell? ⟨b, o + i * 11 + 7, none⟩ = some (.int .i64 l[i].qMode) ∧ w.cell? ⟨b, o + i * 11 + 8, none⟩ = some (.int .i64 l[i].qValue) ∧ w.cell? ⟨b, o + i * 11 + 9, none⟩ = some (.int .i64 l[i].qBase) ∧ w.cell? ⟨b, o + i * 11 + 10, none⟩ = some (.bool l[i].qOff) ∧ RFrame w 0 hi [.int .i64 l[i].qId, .int .i64 l[i].qFn, .int .i64 l[i].qAt, v3, v4, v5, .int .i64 l[i].qResult, .int .i64 l[i].qMode, .int .i64 l[i].qValue, .int .i64 l[i].qBase, .bool l[i].qOff] l[i] := by
  obtain ⟨b, o, cs, hA, hb, hcl, hcell, hr⟩ := h.at_ hl
  have hr' := hr
  obtain ⟨v3, v4, v5, rfl, h3, h4, h5⟩ := hr
  exact ⟨b, o, v3, v4, v5, hA, hb.2, hcell 0 _ rfl, hcell 1 _ rfl, hcell 2 _ rfl, hcell 3 _ rfl, hcell 4 _ rfl, hcell 5 _ rfl, hcell 6 _ rfl, hcell 7 _ rfl, hcell 8 _ rfl, hcell 9 _ rfl, hcell 10 _ rfl, hr'⟩

set_option maxHeartbeats 1600000 in
theorem szFrame (cs : List Value) (m : FrameM) (left : Int) (w : World) (hr : RFrame w 0 w.heap.size cs m) (g1 : 0 ≤ left) (g2 : left ≤ 4611686018427387904) :
    Calls Try.prog 78 #[.agg cs.toArray, .int .i64 left] w fun e w' => e = .returned (.int .i64 (subL left (szFrameN m))) ∧ Below w.heap.size w w' := by
  obtain ⟨v3, v4, v5, rfl, h3, h4, h5⟩ := hr
  obtain ⟨m0, m1, m2, l3, l4, l5, m6, m7, m8, m9, m10⟩ := m
  obtain ⟨hT1, hT2⟩ : szFrameN ⟨m0, m1, m2, l3, l4, l5, m6, m7, m8, m9, m10⟩ ≤ l3.length + (l4.length + (l5.length)) ∧ l3.length + (l4.length + (l5.length)) ≤ szFrameN ⟨m0, m1, m2, l3, l4, l5, m6, m7, m8, m9, m10⟩ := ⟨Nat.le_refl _, Nat.le_refl _⟩
  generalize szFrameN ⟨m0, m1, m2, l3, l4, l5, m6, m7, m8, m9, m10⟩ = T at *
  dsimp only at *
  have H3 := hide h3; clear h3
  have H4 := hide h4; clear h4
  have H5 := hide h5; clear h5
  have HW := hide ((Below.refl w.heap.size w).alloc (Nat.le_refl _) (.cells #[.int .i64 m0, .int .i64 m1, .int .i64 m2, v3, v4, v5, .int .i64 m6, .int .i64 m7, .int .i64 m8, .int .i64 m9, .bool m10] 110))
  go_enter Try.func78, Try.ntmps78
  go_wp2_with fail
  refine (szIntS _ _ _ (left) _ _ (H3.out.here HW.out).rd (by omega) (by omega)).mono ?_
  rintro e w' ⟨rfl, rfl⟩
  by_cases q3 : ((l3.length : Nat) : Int) ≤ left
  case neg =>
    rw [if_neg q3]
    go_wp2
    go_ret
    exact ⟨retI (by rw [subL_no (by omega)]), HW.out⟩
  rw [if_pos q3]
  go_wp2_with fail
  refine (szIntS _ _ _ (left - l3.length) _ _ (H4.out.here HW.out).rd (by omega) (by omega)).mono ?_
  rintro e w' ⟨rfl, rfl⟩
  by_cases q4 : ((l4.length : Nat) : Int) ≤ left - l3.length
  case neg =>
    rw [if_neg q4]
    go_wp2
    go_ret
    exact ⟨retI (by rw [subL_no (by omega)]), HW.out⟩
  rw [if_pos q4]
  go_wp2_with fail
  refine (szBoolS _ _ _ (left - l3.length - l4.length) _ _ (H5.out.here HW.out).rd (by omega) (by omega)).mono ?_
  rintro e w' ⟨rfl, rfl⟩
  by_cases q5 : ((l5.length : Nat) : Int) ≤ left - l3.length - l4.length
  case neg =>
    rw [if_neg q5]
    go_wp2
    go_ret
    exact ⟨retI (by rw [subL_no (by omega)]), HW.out⟩
  rw [if_pos q5]
  go_wp2
  go_ret
  exact ⟨retI (by rw [subL_yes (by omega)]; omega), HW.out⟩
set_option maxHeartbeats 1600000 in
theorem szFrameS (v : Value) (l : List FrameM) (left : Int) (w : World) (hr : RL RFrame 11 w 0 w.heap.size v l) (g1 : 0 ≤ left) (g2 : left ≤ 4611686018427387904) :
    Calls Try.prog 35 #[v, .int .i64 left] w fun e w' => e = .returned (.int .i64 (subL left (szFramesN l))) ∧ Below w.heap.size w w' := by
  have hl := hr.long
  obtain ⟨A, c, rfl⟩ := hr.form
  have Hr := hide hr; clear hr
  have hN : szFramesN l = l.length + szFramesL l := rfl
  rw [hN]; clear hN
  by_cases q0 : (l.length : Int) ≤ left
  case neg =>
    go_enter Try.func35, Try.ntmps35
    go_wp2
    go_ret
    exact ⟨retI (by rw [subL_no (by omega)]), Below.refl _ _⟩
  obtain ⟨tt, ht⟩ : ∃ tt, tt = szFramesL l := ⟨_, rfl⟩
  rw [← ht]
  have Ht := hide ht; clear ht
  go_enter Try.func35, Try.ntmps35
  go_wp2
  go_loopw [1, 5] (fun lf i wr => ∃ (k s : Nat), k ≤ l.length ∧ i = .int .i64 k ∧ lf = .int .i64 (left - l.length - s) ∧ s + szFramesL (l.drop k) = tt ∧ (s : Int) ≤ left - l.length ∧ Below w.heap.size w wr) (fun _ i _ => l.length - (intOf i).toNat)
  case atStart => exact ⟨0, 0, by omega, rfl, congrArg (Value.int .i64) (by omega), by rw [Ht.out]; simp, by omega, Below.refl _ _⟩
  case round =>
    obtain ⟨k, s, hk, rfl, rfl, hs, hsl, hb⟩ := hrel
    by_cases hlt : k < l.length
    · have hstep := szFramesL_step hlt
      obtain ⟨b, o, v3, v4, v5, rfl, hbB, e0, e1, e2, e3, e4, e5, e6, e7, e8, e9, e10, hx⟩ := RFrame_at (Hr.out.here RFrame_stable hb) hlt
      have Hx := hide hx; have Hb := hide hb; have hbs := hb.size; clear hx hb Hr
      generalize l[k] = m at *
      have hbw : b < wr.heap.size := by omega
      obtain ⟨z, hz⟩ : ∃ z, z = szFrameN m := ⟨_, rfl⟩
      rw [← hz] at hstep
      obtain ⟨y, hy⟩ : ∃ y, y = szFramesL (l.drop (k + 1)) := ⟨_, rfl⟩
      rw [hstep, ← hy] at hs
      have Hz := hide hz; have Hy := hide hy; clear hz hy hstep
      go_wp2_with fail
      refine (szFrame _ m (left - l.length - s) _ Hx.out (by omega) (by omega)).mono ?_
      rintro e w2 ⟨rfl, hb2⟩
      rw [← Hz.out]
      have Hb2 := hide (Hb.out.trans (hb2.mono hbs)); clear hb2
      by_cases q1 : (z : Int) ≤ left - l.length - s
      · rw [subL_yes q1]
        go_wp2
        go_roundw
        case rel => exact ⟨k + 1, s + z, by omega, by go_num, congrArg (Value.int .i64) (by omega), by rw [← Hy.out]; omega, by omega, Hb2.out⟩
        case measure => simp [intOf]; omega
      · rw [subL_no q1]
        go_wp2
        go_ret
        exact ⟨retI (by rw [subL_no (by omega)]), Hb2.out⟩
    · obtain rfl : k = l.length := by omega
      rw [List.drop_length] at hs
      have hs' : s = tt := by rw [← hs]; rfl
      have Hs := hide hs'; clear hs hs'
      go_wp2
      go_ret
      exact ⟨retI (by have := Hs.out; rw [subL_yes (by omega)]; omega), hb⟩

set_option maxHeartbeats 3200000 in
theorem toFrame (cs : List Value) (m : FrameM) (w : World) (hr : RFrame w 0 w.heap.size cs m) (hz : szFrameN m ≤ 1048576) :
    Calls Try.prog 79 #[.agg cs.toArray] w fun e w' => ∃ cs' : List Value, e = .returned (.agg cs'.toArray) ∧ RFrame w' w.heap.size w'.heap.size cs' m ∧ OFrame w' w.heap.size w'.heap.size cs' m ∧ Below w.heap.size w w' := by
  obtain ⟨v3, v4, v5, rfl, h3, h4, h5⟩ := hr
  obtain ⟨m0, m1, m2, l3, l4, l5, m6, m7, m8, m9, m10⟩ := m
  dsimp only [szFrameN] at *
  have H3 := hide h3; clear h3
  have H4 := hide h4; clear h4
  have H5 := hide h5; clear h5
  go_enter Try.func79, Try.ntmps79
  go_wp2_with fail
  refine (toIntS _ l3 _ (H3.out.rd.here (by go_grown)) (by omega)).mono ?_
  rintro e w1 ⟨u3, rfl, hown, hb⟩
  obtain ⟨U3, C3, rfl⟩ := own_form hown
  obtain ⟨k1, k2, k3, hz1, kb⟩ := three_below hb
  have K1_1 := hide k1; have K2_1 := hide k2; have K3_1 := hide k3; have Kb1 := hide kb; clear k1 k2 k3 kb
  have hlo : w.heap.size + 1 + 1 + 1 ≤ (((w.alloc (.cells #[.int .i64 m0, .int .i64 m1, .int .i64 m2, v3, v4, v5, .int .i64 m6, .int .i64 m7, .int .i64 m8, .int .i64 m9, .bool m10] 110)).alloc (.cells #[.int .i64 0, .int .i64 0, .int .i64 0, .slice none 0 0, .slice none 0 0, .slice none 0 0, .int .i64 0, .int .i64 0, .int .i64 0, .int .i64 0, .bool false] 74)).alloc (.cells #[.int .i64 m0, .int .i64 m1, .int .i64 m2, .slice none 0 0, .slice none 0 0, .slice none 0 0, .int .i64 0, .int .i64 0, .int .i64 0, .int .i64 0, .bool false] 74)).heap.size := by rw [World.size_alloc, World.size_alloc, World.size_alloc]; omega
  have A3_1 := hide ((Rg.of_own hown).more (lo' := w.heap.size + 1 + 1 + 1) hlo (Nat.le_refl _)); have B3_1 := hide ((Og.of_own hown sc_icells).more (lo' := w.heap.size + 1 + 1 + 1) hlo (Nat.le_refl _)); clear hown hb hlo
  have hbx : Below w.heap.size w ((w1).setCell ⟨w.heap.size + 1 + 1, 3, none⟩ (.slice U3 l3.length C3)) := (Kb1.out.setCell (p := ⟨w.heap.size + 1 + 1, 3, none⟩) (by show _ ≤ w.heap.size + 1 + 1; omega) _)
  have Hbx := hide hbx; clear hbx
  have c1_0 := K1_1.out.cell 0; have c3_0 := K3_1.out.cell 0; have z3_0 := K3_1.out.frozen 0
  have c1_1 := K1_1.out.cell 1; have c3_1 := K3_1.out.cell 1; have z3_1 := K3_1.out.frozen 1
  have c1_2 := K1_1.out.cell 2; have c3_2 := K3_1.out.cell 2; have z3_2 := K3_1.out.frozen 2
  have c1_3 := K1_1.out.cell 3; have c3_3 := K3_1.out.cell 3; have z3_3 := K3_1.out.frozen 3
  have c1_4 := K1_1.out.cell 4; have c3_4 := K3_1.out.cell 4; have z3_4 := K3_1.out.frozen 4
  have c1_5 := K1_1.out.cell 5; have c3_5 := K3_1.out.cell 5; have z3_5 := K3_1.out.frozen 5
  have c1_6 := K1_1.out.cell 6; have c3_6 := K3_1.out.cell 6; have z3_6 := K3_1.out.frozen 6
  have c1_7 := K1_1.out.cell 7; have c3_7 := K3_1.out.cell 7; have z3_7 := K3_1.out.frozen 7
  have c1_8 := K1_1.out.cell 8; have c3_8 := K3_1.out.cell 8; have z3_8 := K3_1.out.frozen 8
  have c1_9 := K1_1.out.cell 9; have c3_9 := K3_1.out.cell 9; have z3_9 := K3_1.out.frozen 9
  have c1_10 := K1_1.out.cell 10; have c3_10 := K3_1.out.cell 10; have z3_10 := K3_1.out.frozen 10
  go_wp2_with fail
  refine (toIntS _ l4 _ (H4.out.rd.here Hbx.out) (by omega)).mono ?_
  rintro e w2 ⟨u4, rfl, hown, hb⟩
  obtain ⟨U4, C4, rfl⟩ := own_form hown
  clear c1_0 c3_0 z3_0 c1_1 c3_1 z3_1 c1_2 c3_2 z3_2 c1_3 c3_3 z3_3 c1_4 c3_4 z3_4 c1_5 c3_5 z3_5 c1_6 c3_6 z3_6 c1_7 c3_7 z3_7 c1_8 c3_8 z3_8 c1_9 c3_9 z3_9 c1_10 c3_10 z3_10
  have K1_2 := hide ((K1_1.out.far (by omega) 3 (.slice U3 l3.length C3)).below hb); have K2_2 := hide ((K2_1.out.far (by omega) 3 (.slice U3 l3.length C3)).below hb)
  have k3 : Bk w2 (w.heap.size + 1 + 1) 74 #[.int .i64 m0, .int .i64 m1, .int .i64 m2, .slice U3 l3.length C3, .slice none 0 0, .slice none 0 0, .int .i64 0, .int .i64 0, .int .i64 0, .int .i64 0, .bool false] := (K3_1.out.set 3 (.slice U3 l3.length C3)).below hb
  have K3_2 := hide k3; clear k3
  have hbs := hb.size
  have hz2 : w1.heap.size ≤ w2.heap.size := by simpa using hbs
  clear hbs
  have hk : KeptB (w.heap.size + 1 + 1 + 1) w1.heap.size w1 w2 := KeptB.below ((KeptB.refl _ _ _).setr (p := ⟨w.heap.size + 1 + 1, 3, none⟩) (by dsimp only; omega)) hb (by simp)
  have A3_2 := hide ((A3_1.out.keep hk).more (Nat.le_refl _) hz2); have B3_2 := hide ((B3_1.out.keep hk).more (Nat.le_refl _) hz2)
  clear hk
  have Kb2 := hide (Hbx.out.trans (hb.mono Hbx.out.size)); clear Hbx
  have hlo : w.heap.size + 1 + 1 + 1 ≤ ((w1).setCell ⟨w.heap.size + 1 + 1, 3, none⟩ (.slice U3 l3.length C3)).heap.size := by simp; omega
  have A4_2 := hide ((Rg.of_own hown).more (lo' := w.heap.size + 1 + 1 + 1) hlo (Nat.le_refl _)); have B4_2 := hide ((Og.of_own hown sc_icells).more (lo' := w.heap.size + 1 + 1 + 1) hlo (Nat.le_refl _)); clear hown hb hlo
  have hbx : Below w.heap.size w ((w2).setCell ⟨w.heap.size + 1 + 1, 4, none⟩ (.slice U4 l4.length C4)) := (Kb2.out.setCell (p := ⟨w.heap.size + 1 + 1, 4, none⟩) (by show _ ≤ w.heap.size + 1 + 1; omega) _)
  have Hbx := hide hbx; clear hbx
  have c1_0 := K1_2.out.cell 0; have c3_0 := K3_2.out.cell 0; have z3_0 := K3_2.out.frozen 0
  have c1_1 := K1_2.out.cell 1; have c3_1 := K3_2.out.cell 1; have z3_1 := K3_2.out.frozen 1
  have c1_2 := K1_2.out.cell 2; have c3_2 := K3_2.out.cell 2; have z3_2 := K3_2.out.frozen 2
  have c1_3 := K1_2.out.cell 3; have c3_3 := K3_2.out.cell 3; have z3_3 := K3_2.out.frozen 3
  have c1_4 := K1_2.out.cell 4; have c3_4 := K3_2.out.cell 4; have z3_4 := K3_2.out.frozen 4
  have c1_5 := K1_2.out.cell 5; have c3_5 := K3_2.out.cell 5; have z3_5 := K3_2.out.frozen 5
  have c1_6 := K1_2.out.cell 6; have c3_6 := K3_2.out.cell 6; have z3_6 := K3_2.out.frozen 6
  have c1_7 := K1_2.out.cell 7; have c3_7 := K3_2.out.cell 7; have z3_7 := K3_2.out.frozen 7
  have c1_8 := K1_2.out.cell 8; have c3_8 := K3_2.out.cell 8; have z3_8 := K3_2.out.frozen 8
  have c1_9 := K1_2.out.cell 9; have c3_9 := K3_2.out.cell 9; have z3_9 := K3_2.out.frozen 9
  have c1_10 := K1_2.out.cell 10; have c3_10 := K3_2.out.cell 10; have z3_10 := K3_2.out.frozen 10
  go_wp2_with fail
  refine (toBoolS _ l5 _ (H5.out.rd.here Hbx.out) (by omega)).mono ?_
  rintro e w3 ⟨u5, rfl, hown, hb⟩
  obtain ⟨U5, C5, rfl⟩ := own_form hown
  clear c1_0 c3_0 z3_0 c1_1 c3_1 z3_1 c1_2 c3_2 z3_2 c1_3 c3_3 z3_3 c1_4 c3_4 z3_4 c1_5 c3_5 z3_5 c1_6 c3_6 z3_6 c1_7 c3_7 z3_7 c1_8 c3_8 z3_8 c1_9 c3_9 z3_9 c1_10 c3_10 z3_10
  have K1_3 := hide ((K1_2.out.far (by omega) 4 (.slice U4 l4.length C4)).below hb); have K2_3 := hide ((K2_2.out.far (by omega) 4 (.slice U4 l4.length C4)).below hb)
  have k3 : Bk w3 (w.heap.size + 1 + 1) 74 #[.int .i64 m0, .int .i64 m1, .int .i64 m2, .slice U3 l3.length C3, .slice U4 l4.length C4, .slice none 0 0, .int .i64 0, .int .i64 0, .int .i64 0, .int .i64 0, .bool false] := (K3_2.out.set 4 (.slice U4 l4.length C4)).below hb
  have K3_3 := hide k3; clear k3
  have hbs := hb.size
  have hz3 : w2.heap.size ≤ w3.heap.size := by simpa using hbs
  clear hbs
  have hk : KeptB (w.heap.size + 1 + 1 + 1) w2.heap.size w2 w3 := KeptB.below ((KeptB.refl _ _ _).setr (p := ⟨w.heap.size + 1 + 1, 4, none⟩) (by dsimp only; omega)) hb (by simp)
  have A3_3 := hide ((A3_2.out.keep hk).more (Nat.le_refl _) hz3); have B3_3 := hide ((B3_2.out.keep hk).more (Nat.le_refl _) hz3)
  have A4_3 := hide ((A4_2.out.keep hk).more (Nat.le_refl _) hz3); have B4_3 := hide ((B4_2.out.keep hk).more (Nat.le_refl _) hz3)
  clear hk
  have Kb3 := hide (Hbx.out.trans (hb.mono Hbx.out.size)); clear Hbx
  have hlo : w.heap.size + 1 + 1 + 1 ≤ ((w2).setCell ⟨w.heap.size + 1 + 1, 4, none⟩ (.slice U4 l4.length C4)).heap.size := by simp; omega
  have A5_3 := hide ((Rg.of_own hown).more (lo' := w.heap.size + 1 + 1 + 1) hlo (Nat.le_refl _)); have B5_3 := hide ((Og.of_own hown sc_bbcells).more (lo' := w.heap.size + 1 + 1 + 1) hlo (Nat.le_refl _)); clear hown hb hlo
  have c1_0 := K1_3.out.cell 0; have c3_0 := K3_3.out.cell 0; have z3_0 := K3_3.out.frozen 0
  have c1_1 := K1_3.out.cell 1; have c3_1 := K3_3.out.cell 1; have z3_1 := K3_3.out.frozen 1
  have c1_2 := K1_3.out.cell 2; have c3_2 := K3_3.out.cell 2; have z3_2 := K3_3.out.frozen 2
  have c1_3 := K1_3.out.cell 3; have c3_3 := K3_3.out.cell 3; have z3_3 := K3_3.out.frozen 3
  have c1_4 := K1_3.out.cell 4; have c3_4 := K3_3.out.cell 4; have z3_4 := K3_3.out.frozen 4
  have c1_5 := K1_3.out.cell 5; have c3_5 := K3_3.out.cell 5; have z3_5 := K3_3.out.frozen 5
  have c1_6 := K1_3.out.cell 6; have c3_6 := K3_3.out.cell 6; have z3_6 := K3_3.out.frozen 6
  have c1_7 := K1_3.out.cell 7; have c3_7 := K3_3.out.cell 7; have z3_7 := K3_3.out.frozen 7
  have c1_8 := K1_3.out.cell 8; have c3_8 := K3_3.out.cell 8; have z3_8 := K3_3.out.frozen 8
  have c1_9 := K1_3.out.cell 9; have c3_9 := K3_3.out.cell 9; have z3_9 := K3_3.out.frozen 9
  have c1_10 := K1_3.out.cell 10; have c3_10 := K3_3.out.cell 10; have z3_10 := K3_3.out.frozen 10
  go_upto_region 13 with (fail)
  clear c1_0 c3_0 z3_0 c1_1 c3_1 z3_1 c1_2 c3_2 z3_2 c1_3 c3_3 z3_3 c1_4 c3_4 z3_4 c1_5 c3_5 z3_5 c1_6 c3_6 z3_6 c1_7 c3_7 z3_7 c1_8 c3_8 z3_8 c1_9 c3_9 z3_9 c1_10 c3_10 z3_10
  have k2 : Bk (((((((w3).setCell ⟨w.heap.size + 1 + 1, 5, none⟩ (.slice U5 l5.length C5)).setCell ⟨w.heap.size + 1 + 1, 6, none⟩ (.int .i64 m6)).setCell ⟨w.heap.size + 1 + 1, 7, none⟩ (.int .i64 m7)).setCell ⟨w.heap.size + 1 + 1, 8, none⟩ (.int .i64 m8)).setCell ⟨w.heap.size + 1 + 1, 9, none⟩ (.int .i64 m9)).setCell ⟨w.heap.size + 1 + 1, 10, none⟩ (.bool m10)) (w.heap.size + 1) 74 #[.int .i64 0, .int .i64 0, .int .i64 0, .slice none 0 0, .slice none 0 0, .slice none 0 0, .int .i64 0, .int .i64 0, .int .i64 0, .int .i64 0, .bool false] := ((((((K2_3.out.far (by omega) 5 (.slice U5 l5.length C5)).far (by omega) 6 (.int .i64 m6)).far (by omega) 7 (.int .i64 m7)).far (by omega) 8 (.int .i64 m8)).far (by omega) 9 (.int .i64 m9)).far (by omega) 10 (.bool m10))
  have k3 : Bk (((((((w3).setCell ⟨w.heap.size + 1 + 1, 5, none⟩ (.slice U5 l5.length C5)).setCell ⟨w.heap.size + 1 + 1, 6, none⟩ (.int .i64 m6)).setCell ⟨w.heap.size + 1 + 1, 7, none⟩ (.int .i64 m7)).setCell ⟨w.heap.size + 1 + 1, 8, none⟩ (.int .i64 m8)).setCell ⟨w.heap.size + 1 + 1, 9, none⟩ (.int .i64 m9)).setCell ⟨w.heap.size + 1 + 1, 10, none⟩ (.bool m10)) (w.heap.size + 1 + 1) 74 #[.int .i64 m0, .int .i64 m1, .int .i64 m2, .slice U3 l3.length C3, .slice U4 l4.length C4, .slice U5 l5.length C5, .int .i64 m6, .int .i64 m7, .int .i64 m8, .int .i64 m9, .bool m10] := ((((((K3_3.out.set 5 (.slice U5 l5.length C5)).set 6 (.int .i64 m6)).set 7 (.int .i64 m7)).set 8 (.int .i64 m8)).set 9 (.int .i64 m9)).set 10 (.bool m10))
  have hk : KeptB (w.heap.size + 1 + 1 + 1) w3.heap.size w3 (((((((w3).setCell ⟨w.heap.size + 1 + 1, 5, none⟩ (.slice U5 l5.length C5)).setCell ⟨w.heap.size + 1 + 1, 6, none⟩ (.int .i64 m6)).setCell ⟨w.heap.size + 1 + 1, 7, none⟩ (.int .i64 m7)).setCell ⟨w.heap.size + 1 + 1, 8, none⟩ (.int .i64 m8)).setCell ⟨w.heap.size + 1 + 1, 9, none⟩ (.int .i64 m9)).setCell ⟨w.heap.size + 1 + 1, 10, none⟩ (.bool m10)) := ((((((KeptB.refl _ _ _).setr (p := ⟨w.heap.size + 1 + 1, 5, none⟩) (by dsimp only; omega)).setr (p := ⟨w.heap.size + 1 + 1, 6, none⟩) (by dsimp only; omega)).setr (p := ⟨w.heap.size + 1 + 1, 7, none⟩) (by dsimp only; omega)).setr (p := ⟨w.heap.size + 1 + 1, 8, none⟩) (by dsimp only; omega)).setr (p := ⟨w.heap.size + 1 + 1, 9, none⟩) (by dsimp only; omega)).setr (p := ⟨w.heap.size + 1 + 1, 10, none⟩) (by dsimp only; omega)
  have hs : w3.heap.size ≤ (((((((w3).setCell ⟨w.heap.size + 1 + 1, 5, none⟩ (.slice U5 l5.length C5)).setCell ⟨w.heap.size + 1 + 1, 6, none⟩ (.int .i64 m6)).setCell ⟨w.heap.size + 1 + 1, 7, none⟩ (.int .i64 m7)).setCell ⟨w.heap.size + 1 + 1, 8, none⟩ (.int .i64 m8)).setCell ⟨w.heap.size + 1 + 1, 9, none⟩ (.int .i64 m9)).setCell ⟨w.heap.size + 1 + 1, 10, none⟩ (.bool m10)).heap.size := by simp only [World.size_setCell]; exact Nat.le_refl _
  have hbW : Below w.heap.size w (((((((w3).setCell ⟨w.heap.size + 1 + 1, 5, none⟩ (.slice U5 l5.length C5)).setCell ⟨w.heap.size + 1 + 1, 6, none⟩ (.int .i64 m6)).setCell ⟨w.heap.size + 1 + 1, 7, none⟩ (.int .i64 m7)).setCell ⟨w.heap.size + 1 + 1, 8, none⟩ (.int .i64 m8)).setCell ⟨w.heap.size + 1 + 1, 9, none⟩ (.int .i64 m9)).setCell ⟨w.heap.size + 1 + 1, 10, none⟩ (.bool m10)) := ((((((Kb3.out).setCell (p := ⟨w.heap.size + 1 + 1, 5, none⟩) (by dsimp only; omega) _).setCell (p := ⟨w.heap.size + 1 + 1, 6, none⟩) (by dsimp only; omega) _).setCell (p := ⟨w.heap.size + 1 + 1, 7, none⟩) (by dsimp only; omega) _).setCell (p := ⟨w.heap.size + 1 + 1, 8, none⟩) (by dsimp only; omega) _).setCell (p := ⟨w.heap.size + 1 + 1, 9, none⟩) (by dsimp only; omega) _).setCell (p := ⟨w.heap.size + 1 + 1, 10, none⟩) (by dsimp only; omega) _
  have a3 := (A3_3.out.keep hk).more (Nat.le_refl _) hs; have b3 := (B3_3.out.keep hk).more (Nat.le_refl _) hs
  have a4 := (A4_3.out.keep hk).more (Nat.le_refl _) hs; have b4 := (B4_3.out.keep hk).more (Nat.le_refl _) hs
  have a5 := (A5_3.out.keep hk).more (Nat.le_refl _) hs; have b5 := (B5_3.out.keep hk).more (Nat.le_refl _) hs
  clear hk hs A3_3 B3_3 A4_3 B4_3 A5_3 B5_3
  generalize ((((((w3).setCell ⟨w.heap.size + 1 + 1, 5, none⟩ (.slice U5 l5.length C5)).setCell ⟨w.heap.size + 1 + 1, 6, none⟩ (.int .i64 m6)).setCell ⟨w.heap.size + 1 + 1, 7, none⟩ (.int .i64 m7)).setCell ⟨w.heap.size + 1 + 1, 8, none⟩ (.int .i64 m8)).setCell ⟨w.heap.size + 1 + 1, 9, none⟩ (.int .i64 m9)).setCell ⟨w.heap.size + 1 + 1, 10, none⟩ (.bool m10) = W at k2 k3 hbW a3 b3 a4 b4 a5 b5 ⊢
  have hzW : w.heap.size + 1 + 1 < W.heap.size := k3.lt
  have HF := hide (show ∀ WF : World, KeptB (w.heap.size + 1 + 1 + 1) W.heap.size W WF → W.heap.size ≤ WF.heap.size → Below w.heap.size w WF → ∃ cs' : List Value, Ending.returned (.agg #[.int .i64 m0, .int .i64 m1, .int .i64 m2, .slice U3 l3.length C3, .slice U4 l4.length C4, .slice U5 l5.length C5, .int .i64 m6, .int .i64 m7, .int .i64 m8, .int .i64 m9, .bool m10]) = .returned (.agg cs'.toArray) ∧ RFrame WF w.heap.size WF.heap.size cs' ⟨m0, m1, m2, l3, l4, l5, m6, m7, m8, m9, m10⟩ ∧ OFrame WF w.heap.size WF.heap.size cs' ⟨m0, m1, m2, l3, l4, l5, m6, m7, m8, m9, m10⟩ ∧ Below w.heap.size w WF from
    fun WF hk hs hb => ⟨[.int .i64 m0, .int .i64 m1, .int .i64 m2, .slice U3 l3.length C3, .slice U4 l4.length C4, .slice U5 l5.length C5, .int .i64 m6, .int .i64 m7, .int .i64 m8, .int .i64 m9, .bool m10], rfl, ⟨_, _, _, rfl, (a3.keep hk).more (by omega) hs, (a4.keep hk).more (by omega) hs, (a5.keep hk).more (by omega) hs⟩, ⟨_, _, _, _, _, _, _, _, _, _, _, rfl, trivial, trivial, trivial, trivial, trivial, trivial, trivial, trivial, (b3.keep hk).more (by omega) hs, (b4.keep hk).more (by omega) hs, (b5.keep hk).more (by omega) hs⟩, hb⟩)
  have HbW := hide hbW; clear hbW a3 b3 a4 b4 a5 b5
  have c2_0 := k2.cell 0; have y2_0 := k2.frozen 0; have c3_0 := k3.cell 0
  have c2_1 := k2.cell 1; have y2_1 := k2.frozen 1; have c3_1 := k3.cell 1
  have c2_2 := k2.cell 2; have y2_2 := k2.frozen 2; have c3_2 := k3.cell 2
  have c2_3 := k2.cell 3; have y2_3 := k2.frozen 3; have c3_3 := k3.cell 3
  have c2_4 := k2.cell 4; have y2_4 := k2.frozen 4; have c3_4 := k3.cell 4
  have c2_5 := k2.cell 5; have y2_5 := k2.frozen 5; have c3_5 := k3.cell 5
  have c2_6 := k2.cell 6; have y2_6 := k2.frozen 6; have c3_6 := k3.cell 6
  have c2_7 := k2.cell 7; have y2_7 := k2.frozen 7; have c3_7 := k3.cell 7
  have c2_8 := k2.cell 8; have y2_8 := k2.frozen 8; have c3_8 := k3.cell 8
  have c2_9 := k2.cell 9; have y2_9 := k2.frozen 9; have c3_9 := k3.cell 9
  have c2_10 := k2.cell 10; have y2_10 := k2.frozen 10; have c3_10 := k3.cell 10
  clear k2 k3
  go_wp2
  refine bodyPost_ret (v := .agg #[.int .i64 m0, .int .i64 m1, .int .i64 m2, .slice U3 l3.length C3, .slice U4 l4.length C4, .slice U5 l5.length C5, .int .i64 m6, .int .i64 m7, .int .i64 m8, .int .i64 m9, .bool m10]) (by simp [results, Try.results79, go_sem, c2_0, c2_1, c2_2, c2_3, c2_4, c2_5, c2_6, c2_7, c2_8, c2_9, c2_10]) rfl ?_
  exact HF.out _ ((((((((((((KeptB.refl _ _ _).setr (by dsimp only; omega)).setr (by dsimp only; omega)).setr (by dsimp only; omega)).setr (by dsimp only; omega)).setr (by dsimp only; omega)).setr (by dsimp only; omega)).setr (by dsimp only; omega)).setr (by dsimp only; omega)).setr (by dsimp only; omega)).setr (by dsimp only; omega)).setr (by dsimp only; omega)) (by simp only [World.size_setCell]; exact Nat.le_refl _) ((((((((((((HbW.out).setCell (by dsimp only; omega) _).setCell (by dsimp only; omega) _).setCell (by dsimp only; omega) _).setCell (by dsimp only; omega) _).setCell (by dsimp only; omega) _).setCell (by dsimp only; omega) _).setCell (by dsimp only; omega) _).setCell (by dsimp only; omega) _).setCell (by dsimp only; omega) _).setCell (by dsimp only; omega) _).setCell (by dsimp only; omega) _)

theorem okFrame : SliceOk Try.prog 43 74 (.agg #[.int .i64 0, .int .i64 0, .int .i64 0, .slice none 0 0, .slice none 0 0, .slice none 0 0, .int .i64 0, .int .i64 0, .int .i64 0, .int .i64 0, .bool false]) 11 136 := .mk Try.underlying43 (by kernel_rfl) rfl (by decide)
set_option maxHeartbeats 3200000 in
theorem toFrameS (v : Value) (l : List FrameM) (w : World) (hr : RL RFrame 11 w 0 w.heap.size v l) (hz : szFramesN l ≤ 1048576) :
    Calls Try.prog 40 #[v] w fun e w' => ∃ v', e = .returned v' ∧ RL RFrame 11 w' w.heap.size w'.heap.size v' l ∧ OL OFrame 74 11 w' w.heap.size w'.heap.size v' l ∧ Below w.heap.size w w' := by
  have hlen : l.length ≤ 1048576 := by have : szFramesN l = l.length + szFramesL l := rfl; omega
  have hel : ∀ k (h : k < l.length), szFrameN l[k] ≤ 1048576 := fun k h => by have := szFramesL_mem h; have : szFramesN l = l.length + szFramesL l := rfl; omega
  obtain ⟨A, c, rfl⟩ := hr.form
  have Hr := hide hr; have Hel := hide hel; clear hr hz hel
  go_enter Try.func40, Try.ntmps40
  go_wp2_with (at_make; go_must (refine wpList_makeN rfl _ _ _ rfl okFrame l.length rfl rfl (by omega) (by unfold maxLen; omega) ?_); intro w1 hown1 hb1)
  go_loopw [4] (fun i wr => ∃ (k : Nat) (css : List (List Value)), k ≤ l.length ∧ i = .int .i64 k ∧ css.length = l.length ∧ (∀ x ∈ css, x.length = 11) ∧ wr.ownsRow w.heap.size 74 11 (.slice (some ⟨w.heap.size, 0, none⟩) l.length l.length) l.length css.flatten ∧
      (∀ j (h : j < l.length), j < k → ∃ cs, css[j]? = some cs ∧ RFrame wr (w.heap.size + 1) wr.heap.size cs l[j] ∧ OFrame wr (w.heap.size + 1) wr.heap.size cs l[j]) ∧ Below w.heap.size w wr) (fun i _ => l.length - (intOf i).toNat)
  case atStart =>
    refine ⟨0, List.replicate l.length [.int .i64 0, .int .i64 0, .int .i64 0, .slice none 0 0, .slice none 0 0, .slice none 0 0, .int .i64 0, .int .i64 0, .int .i64 0, .int .i64 0, .bool false], by omega, rfl, by simp, fun x hx => by rw [List.eq_of_mem_replicate hx]; rfl, ?_, fun j _ hj => by omega, hb1⟩
    have := made_cells #[.int .i64 0, .int .i64 0, .int .i64 0, .slice none 0 0, .slice none 0 0, .slice none 0 0, .int .i64 0, .int .i64 0, .int .i64 0, .int .i64 0, .bool false] l.length (by decide)
    rw [← this]
    exact hown1
  case round =>
    obtain ⟨k, css, hk, rfl, hcl, hce, hown, hel, hb⟩ := hrel
    by_cases hlt : k < l.length
    · have hm := Hel.out k hlt
      obtain ⟨b, o, v3, v4, v5, rfl, hbB, e0, e1, e2, e3, e4, e5, e6, e7, e8, e9, e10, hx⟩ := RFrame_at (Hr.out.here RFrame_stable hb) hlt
      have hg := hown.lt w.heap.size rfl
      have Hel2 := hide hel; have Hown := hide hown; have Hb := hide hb; have Hx := hide hx; have hbs := hb.size; have Hcl := hide hcl; have Hce := hide hce
      clear hel hown hb hx hown1 hb1 hcl hce
      generalize hm0 : l[k] = m at *
      have Hm0 := hide hm0; clear hm0
      go_wp2_with fail
      refine (toFrame _ m _ Hx.out hm).mono ?_
      rintro e w2 ⟨cs', rfl, hrd, hog, hb2⟩
      have hown2 := own_keep Hown.out hb2
      have hks : KeptB (w.heap.size + 1) wr.heap.size wr w2 := (KeptB.refl _ _ _).below hb2 (Nat.le_refl _)
      have hsz2 := hb2.size
      obtain ⟨u3, u4, u5, rfl, r3, r4, r5⟩ := id hrd
      obtain ⟨U3, C3, rfl⟩ := r3.form
      obtain ⟨U4, C4, rfl⟩ := r4.form
      obtain ⟨U5, C5, rfl⟩ := r5.form
      obtain ⟨d0, hd0⟩ := own_at hown2 (j := k * 11) (by omega)
      have hf0 := hown2.frozenAt (k * 11)
      obtain ⟨d1, hd1⟩ := own_at hown2 (j := k * 11 + 1) (by omega)
      have hf1 := hown2.frozenAt (k * 11 + 1)
      obtain ⟨d2, hd2⟩ := own_at hown2 (j := k * 11 + 2) (by omega)
      have hf2 := hown2.frozenAt (k * 11 + 2)
      obtain ⟨d3, hd3⟩ := own_at hown2 (j := k * 11 + 3) (by omega)
      have hf3 := hown2.frozenAt (k * 11 + 3)
      obtain ⟨d4, hd4⟩ := own_at hown2 (j := k * 11 + 4) (by omega)
      have hf4 := hown2.frozenAt (k * 11 + 4)
      obtain ⟨d5, hd5⟩ := own_at hown2 (j := k * 11 + 5) (by omega)
      have hf5 := hown2.frozenAt (k * 11 + 5)
      obtain ⟨d6, hd6⟩ := own_at hown2 (j := k * 11 + 6) (by omega)
      have hf6 := hown2.frozenAt (k * 11 + 6)
      obtain ⟨d7, hd7⟩ := own_at hown2 (j := k * 11 + 7) (by omega)
      have hf7 := hown2.frozenAt (k * 11 + 7)
      obtain ⟨d8, hd8⟩ := own_at hown2 (j := k * 11 + 8) (by omega)
      have hf8 := hown2.frozenAt (k * 11 + 8)
      obtain ⟨d9, hd9⟩ := own_at hown2 (j := k * 11 + 9) (by omega)
      have hf9 := hown2.frozenAt (k * 11 + 9)
      obtain ⟨d10, hd10⟩ := own_at hown2 (j := k * 11 + 10) (by omega)
      have hf10 := hown2.frozenAt (k * 11 + 10)
      have hgb : w.heap.size + 1 ≤ wr.heap.size := by omega
      have HKF := hide (show KeptB wr.heap.size w2.heap.size w2 ((((((((((((w2).setCell ⟨w.heap.size, k * 11, none⟩ (.int .i64 m.qId)).setCell ⟨w.heap.size, k * 11 + 1, none⟩ (.int .i64 m.qFn)).setCell ⟨w.heap.size, k * 11 + 2, none⟩ (.int .i64 m.qAt)).setCell ⟨w.heap.size, k * 11 + 3, none⟩ (.slice U3 m.qPile.length C3)).setCell ⟨w.heap.size, k * 11 + 4, none⟩ (.slice U4 m.qVars.length C4)).setCell ⟨w.heap.size, k * 11 + 5, none⟩ (.slice U5 m.qFlags.length C5)).setCell ⟨w.heap.size, k * 11 + 6, none⟩ (.int .i64 m.qResult)).setCell ⟨w.heap.size, k * 11 + 7, none⟩ (.int .i64 m.qMode)).setCell ⟨w.heap.size, k * 11 + 8, none⟩ (.int .i64 m.qValue)).setCell ⟨w.heap.size, k * 11 + 9, none⟩ (.int .i64 m.qBase)).setCell ⟨w.heap.size, k * 11 + 10, none⟩ (.bool m.qOff)) from (((((((((((KeptB.refl _ _ _).setr (by dsimp only; omega)).setr (by dsimp only; omega)).setr (by dsimp only; omega)).setr (by dsimp only; omega)).setr (by dsimp only; omega)).setr (by dsimp only; omega)).setr (by dsimp only; omega)).setr (by dsimp only; omega)).setr (by dsimp only; omega)).setr (by dsimp only; omega)).setr (by dsimp only; omega))
      have HZF := hide (show w2.heap.size ≤ ((((((((((((w2).setCell ⟨w.heap.size, k * 11, none⟩ (.int .i64 m.qId)).setCell ⟨w.heap.size, k * 11 + 1, none⟩ (.int .i64 m.qFn)).setCell ⟨w.heap.size, k * 11 + 2, none⟩ (.int .i64 m.qAt)).setCell ⟨w.heap.size, k * 11 + 3, none⟩ (.slice U3 m.qPile.length C3)).setCell ⟨w.heap.size, k * 11 + 4, none⟩ (.slice U4 m.qVars.length C4)).setCell ⟨w.heap.size, k * 11 + 5, none⟩ (.slice U5 m.qFlags.length C5)).setCell ⟨w.heap.size, k * 11 + 6, none⟩ (.int .i64 m.qResult)).setCell ⟨w.heap.size, k * 11 + 7, none⟩ (.int .i64 m.qMode)).setCell ⟨w.heap.size, k * 11 + 8, none⟩ (.int .i64 m.qValue)).setCell ⟨w.heap.size, k * 11 + 9, none⟩ (.int .i64 m.qBase)).setCell ⟨w.heap.size, k * 11 + 10, none⟩ (.bool m.qOff)).heap.size from by simp only [World.size_setCell]; exact Nat.le_refl _)
      have HKG := hide (show KeptB (w.heap.size + 1) wr.heap.size wr ((((((((((((w2).setCell ⟨w.heap.size, k * 11, none⟩ (.int .i64 m.qId)).setCell ⟨w.heap.size, k * 11 + 1, none⟩ (.int .i64 m.qFn)).setCell ⟨w.heap.size, k * 11 + 2, none⟩ (.int .i64 m.qAt)).setCell ⟨w.heap.size, k * 11 + 3, none⟩ (.slice U3 m.qPile.length C3)).setCell ⟨w.heap.size, k * 11 + 4, none⟩ (.slice U4 m.qVars.length C4)).setCell ⟨w.heap.size, k * 11 + 5, none⟩ (.slice U5 m.qFlags.length C5)).setCell ⟨w.heap.size, k * 11 + 6, none⟩ (.int .i64 m.qResult)).setCell ⟨w.heap.size, k * 11 + 7, none⟩ (.int .i64 m.qMode)).setCell ⟨w.heap.size, k * 11 + 8, none⟩ (.int .i64 m.qValue)).setCell ⟨w.heap.size, k * 11 + 9, none⟩ (.int .i64 m.qBase)).setCell ⟨w.heap.size, k * 11 + 10, none⟩ (.bool m.qOff)) from (((((((((((hks).setr (by dsimp only; omega)).setr (by dsimp only; omega)).setr (by dsimp only; omega)).setr (by dsimp only; omega)).setr (by dsimp only; omega)).setr (by dsimp only; omega)).setr (by dsimp only; omega)).setr (by dsimp only; omega)).setr (by dsimp only; omega)).setr (by dsimp only; omega)).setr (by dsimp only; omega))
      have HZG := hide (show wr.heap.size ≤ ((((((((((((w2).setCell ⟨w.heap.size, k * 11, none⟩ (.int .i64 m.qId)).setCell ⟨w.heap.size, k * 11 + 1, none⟩ (.int .i64 m.qFn)).setCell ⟨w.heap.size, k * 11 + 2, none⟩ (.int .i64 m.qAt)).setCell ⟨w.heap.size, k * 11 + 3, none⟩ (.slice U3 m.qPile.length C3)).setCell ⟨w.heap.size, k * 11 + 4, none⟩ (.slice U4 m.qVars.length C4)).setCell ⟨w.heap.size, k * 11 + 5, none⟩ (.slice U5 m.qFlags.length C5)).setCell ⟨w.heap.size, k * 11 + 6, none⟩ (.int .i64 m.qResult)).setCell ⟨w.heap.size, k * 11 + 7, none⟩ (.int .i64 m.qMode)).setCell ⟨w.heap.size, k * 11 + 8, none⟩ (.int .i64 m.qValue)).setCell ⟨w.heap.size, k * 11 + 9, none⟩ (.int .i64 m.qBase)).setCell ⟨w.heap.size, k * 11 + 10, none⟩ (.bool m.qOff)).heap.size from by simp only [World.size_setCell]; exact hsz2)
      have Hrd := hide hrd; have Hog := hide hog; have Hown2 := hide hown2; have Hks := hide hks; have Hb2 := hide (Hb.out.trans (hb2.mono hbs)); clear hrd hog hown2 hks hb2 r3 r4 r5
      go_wp2
      go_roundw
      case rel =>
        refine ⟨k + 1, css.set k [.int .i64 m.qId, .int .i64 m.qFn, .int .i64 m.qAt, .slice U3 m.qPile.length C3, .slice U4 m.qVars.length C4, .slice U5 m.qFlags.length C5, .int .i64 m.qResult, .int .i64 m.qMode, .int .i64 m.qValue, .int .i64 m.qBase, .bool m.qOff], by omega, by go_num, by rw [List.length_set]; exact Hcl.out, fun x hx => ?_, ?_, fun j hj hjk => ?_, ?_⟩
        · rcases List.mem_or_eq_of_mem_set hx with h | h
          · exact Hce.out x h
          · rw [h]; rfl
        · have := flatten_set css k [.int .i64 m.qId, .int .i64 m.qFn, .int .i64 m.qAt, .slice U3 m.qPile.length C3, .slice U4 m.qVars.length C4, .slice U5 m.qFlags.length C5, .int .i64 m.qResult, .int .i64 m.qMode, .int .i64 m.qValue, .int .i64 m.qBase, .bool m.qOff] 11 Hce.out rfl (by rw [Hcl.out]; exact hlt)
          rw [← this]
          simp only [setAll, List.zipIdx, List.foldl]
          exact own_set (own_set (own_set (own_set (own_set (own_set (own_set (own_set (own_set (own_set (own_set Hown2.out (k * 11) _) (k * 11 + 1) _) (k * 11 + 2) _) (k * 11 + 3) _) (k * 11 + 4) _) (k * 11 + 5) _) (k * 11 + 6) _) (k * 11 + 7) _) (k * 11 + 8) _) (k * 11 + 9) _) (k * 11 + 10) _
        · by_cases ejk : j = k
          · subst ejk
            refine ⟨[.int .i64 m.qId, .int .i64 m.qFn, .int .i64 m.qAt, .slice U3 m.qPile.length C3, .slice U4 m.qVars.length C4, .slice U5 m.qFlags.length C5, .int .i64 m.qResult, .int .i64 m.qMode, .int .i64 m.qValue, .int .i64 m.qBase, .bool m.qOff], by rw [List.getElem?_set_self (by rw [Hcl.out]; exact hlt)], ?_, ?_⟩
            · rw [Hm0.out]; exact RFrame_stable.more (RFrame_stable.keep Hrd.out HKF.out) hgb HZF.out
            · rw [Hm0.out]; exact OFrame_stable.more (OFrame_stable.keep Hog.out HKF.out) hgb HZF.out
          · obtain ⟨cs, h1, h2, h3⟩ := Hel2.out j hj (by omega)
            refine ⟨cs, by rw [List.getElem?_set, if_neg (by omega)]; exact h1, ?_, ?_⟩
            · exact RFrame_stable.more (RFrame_stable.keep h2 HKG.out) (Nat.le_refl _) HZG.out
            · exact OFrame_stable.more (OFrame_stable.keep h3 HKG.out) (Nat.le_refl _) HZG.out
        · exact (((((((((((Hb2.out).setCell (by dsimp only; omega) _).setCell (by dsimp only; omega) _).setCell (by dsimp only; omega) _).setCell (by dsimp only; omega) _).setCell (by dsimp only; omega) _).setCell (by dsimp only; omega) _).setCell (by dsimp only; omega) _).setCell (by dsimp only; omega) _).setCell (by dsimp only; omega) _).setCell (by dsimp only; omega) _).setCell (by dsimp only; omega) _
      case measure => simp [intOf]; omega
    · obtain rfl : k = l.length := by omega
      have HF := hide (own_finish hcl hce hown (fun j h => hel j h h) RFrame_stable OFrame_stable); have Hb := hide hb
      clear hel hce hcl hown hb hown1 hb1
      go_wp2
      go_ret
      exact ⟨_, rfl, HF.out.1, HF.out.2, Hb.out⟩

set_option maxHeartbeats 1600000 in
theorem eqFrame (cs cs2 : List Value) (m : FrameM) (w : World) (hr : RFrame w 0 w.heap.size cs m) (hr2 : RFrame w 0 w.heap.size cs2 m) :
    Calls Try.prog 82 #[.agg cs.toArray, .agg cs2.toArray] w fun e w' => e = .returned (.bool true) ∧ Below w.heap.size w w' := by
  obtain ⟨y3, y4, y5, rfl, g3, g4, g5⟩ := hr2
  obtain ⟨v3, v4, v5, rfl, h3, h4, h5⟩ := hr
  obtain ⟨m0, m1, m2, l3, l4, l5, m6, m7, m8, m9, m10⟩ := m
  dsimp only at *
  have hl3 := h3.long; have H3 := hide h3; have G3 := hide g3; clear h3 g3
  have hl4 := h4.long; have H4 := hide h4; have G4 := hide g4; clear h4 g4
  have hl5 := h5.long; have H5 := hide h5; have G5 := hide g5; clear h5 g5
  go_enter Try.func82, Try.ntmps82
  go_wp2_with fail
  refine (eqIntSB _ _ l3 _ (H3.out.rd.here (by go_grown)) (G3.out.rd.here (by go_grown)) hl3).mono ?_
  rintro e w1 ⟨rfl, hb⟩
  obtain ⟨k1, k2, hz1, kb⟩ := two_below hb
  have K1_1 := hide k1; have K2_1 := hide k2; have Kb1 := hide kb; clear k1 k2 kb hb
  have c1_0 := K1_1.out.cell 0; have c2_0 := K2_1.out.cell 0
  have c1_1 := K1_1.out.cell 1; have c2_1 := K2_1.out.cell 1
  have c1_2 := K1_1.out.cell 2; have c2_2 := K2_1.out.cell 2
  have c1_3 := K1_1.out.cell 3; have c2_3 := K2_1.out.cell 3
  have c1_4 := K1_1.out.cell 4; have c2_4 := K2_1.out.cell 4
  have c1_5 := K1_1.out.cell 5; have c2_5 := K2_1.out.cell 5
  have c1_6 := K1_1.out.cell 6; have c2_6 := K2_1.out.cell 6
  have c1_7 := K1_1.out.cell 7; have c2_7 := K2_1.out.cell 7
  have c1_8 := K1_1.out.cell 8; have c2_8 := K2_1.out.cell 8
  have c1_9 := K1_1.out.cell 9; have c2_9 := K2_1.out.cell 9
  have c1_10 := K1_1.out.cell 10; have c2_10 := K2_1.out.cell 10
  go_wp2_with fail
  refine (eqIntSB _ _ l4 _ (H4.out.rd.here Kb1.out) (G4.out.rd.here Kb1.out) hl4).mono ?_
  rintro e w2 ⟨rfl, hb⟩
  clear c1_0 c2_0 c1_1 c2_1 c1_2 c2_2 c1_3 c2_3 c1_4 c2_4 c1_5 c2_5 c1_6 c2_6 c1_7 c2_7 c1_8 c2_8 c1_9 c2_9 c1_10 c2_10
  have K1_2 := hide (K1_1.out.below hb); have K2_2 := hide (K2_1.out.below hb); have Kb2 := hide (Kb1.out.trans (hb.mono Kb1.out.size)); clear hb
  have c1_0 := K1_2.out.cell 0; have c2_0 := K2_2.out.cell 0
  have c1_1 := K1_2.out.cell 1; have c2_1 := K2_2.out.cell 1
  have c1_2 := K1_2.out.cell 2; have c2_2 := K2_2.out.cell 2
  have c1_3 := K1_2.out.cell 3; have c2_3 := K2_2.out.cell 3
  have c1_4 := K1_2.out.cell 4; have c2_4 := K2_2.out.cell 4
  have c1_5 := K1_2.out.cell 5; have c2_5 := K2_2.out.cell 5
  have c1_6 := K1_2.out.cell 6; have c2_6 := K2_2.out.cell 6
  have c1_7 := K1_2.out.cell 7; have c2_7 := K2_2.out.cell 7
  have c1_8 := K1_2.out.cell 8; have c2_8 := K2_2.out.cell 8
  have c1_9 := K1_2.out.cell 9; have c2_9 := K2_2.out.cell 9
  have c1_10 := K1_2.out.cell 10; have c2_10 := K2_2.out.cell 10
  go_wp2_with fail
  refine (eqBoolS _ _ l5 _ (H5.out.rd.here Kb2.out) (G5.out.rd.here Kb2.out) hl5).mono ?_
  rintro e w3 ⟨rfl, hb⟩
  clear c1_0 c2_0 c1_1 c2_1 c1_2 c2_2 c1_3 c2_3 c1_4 c2_4 c1_5 c2_5 c1_6 c2_6 c1_7 c2_7 c1_8 c2_8 c1_9 c2_9 c1_10 c2_10
  have K1_3 := hide (K1_2.out.below hb); have K2_3 := hide (K2_2.out.below hb); have Kb3 := hide (Kb2.out.trans (hb.mono Kb2.out.size)); clear hb
  have c1_0 := K1_3.out.cell 0; have c2_0 := K2_3.out.cell 0
  have c1_1 := K1_3.out.cell 1; have c2_1 := K2_3.out.cell 1
  have c1_2 := K1_3.out.cell 2; have c2_2 := K2_3.out.cell 2
  have c1_3 := K1_3.out.cell 3; have c2_3 := K2_3.out.cell 3
  have c1_4 := K1_3.out.cell 4; have c2_4 := K2_3.out.cell 4
  have c1_5 := K1_3.out.cell 5; have c2_5 := K2_3.out.cell 5
  have c1_6 := K1_3.out.cell 6; have c2_6 := K2_3.out.cell 6
  have c1_7 := K1_3.out.cell 7; have c2_7 := K2_3.out.cell 7
  have c1_8 := K1_3.out.cell 8; have c2_8 := K2_3.out.cell 8
  have c1_9 := K1_3.out.cell 9; have c2_9 := K2_3.out.cell 9
  have c1_10 := K1_3.out.cell 10; have c2_10 := K2_3.out.cell 10
  go_wp2
  go_ret
  exact ⟨rfl, Kb3.out⟩

set_option maxHeartbeats 1600000 in
theorem eqFrameS (v v2 : Value) (l : List FrameM) (w : World) (hr : RL RFrame 11 w 0 w.heap.size v l) (hr2 : RL RFrame 11 w 0 w.heap.size v2 l) :
    Calls Try.prog 47 #[v, v2] w fun e w' => e = .returned (.bool true) ∧ Below w.heap.size w w' := by
  have hl := hr.long
  obtain ⟨A, c, rfl⟩ := hr.form
  obtain ⟨A2, c2, rfl⟩ := hr2.form
  have Hr := hide hr; have Hr2 := hide hr2; clear hr hr2
  go_enter Try.func47, Try.ntmps47
  go_wp2
  go_loopw [5] (fun i wr => ∃ k : Nat, k ≤ l.length ∧ i = .int .i64 k ∧ Below w.heap.size w wr) (fun i _ => l.length - (intOf i).toNat)
  case atStart => exact ⟨0, by omega, rfl, Below.refl _ _⟩
  case round =>
    obtain ⟨k, hk, rfl, hb⟩ := hrel
    by_cases hlt : k < l.length
    · obtain ⟨b, o, v3, v4, v5, rfl, hbB, e0, e1, e2, e3, e4, e5, e6, e7, e8, e9, e10, hx⟩ := RFrame_at (Hr.out.here RFrame_stable hb) hlt
      obtain ⟨b2, o2, y3, y4, y5, rfl, hbB2, d0, d1, d2, d3, d4, d5, d6, d7, d8, d9, d10, hx2⟩ := RFrame_at (Hr2.out.here RFrame_stable hb) hlt
      have Hb := hide hb; have hbs := hb.size
      have Hx := hide (RFrame_stable.here hx ((Below.refl _ _).drew)); have Hx2 := hide (RFrame_stable.here hx2 ((Below.refl _ _).drew)); clear hb Hr Hr2 hx hx2
      generalize l[k] = m at *
      go_wp2_with fail
      go_still_tail 8, (by kernel_rfl)
      change wpList _ _ _ _ _ wr.drew
      go_wp2_with fail
      refine (eqFrame _ _ m _ Hx.out Hx2.out).mono ?_
      rintro e w2 ⟨rfl, hb2⟩
      have Hb2 := hide ((Hb.out.drew).trans (hb2.mono hbs)); clear hb2
      go_wp2
      go_roundw
      case rel => exact ⟨k + 1, by omega, by go_num, Hb2.out⟩
      case measure => simp [intOf]; omega
    · obtain rfl : k = l.length := by omega
      go_wp2
      go_ret
      exact ⟨rfl, hb⟩
end Go.Proofs.Ytaebmliolpgmdaa
