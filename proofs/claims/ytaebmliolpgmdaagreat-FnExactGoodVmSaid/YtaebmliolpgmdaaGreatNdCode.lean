
/- Code in memory: what toCode, szCode, eqCode and their kin over slices do. No condition. -/
import Derived.Test.YtaebmliolpgmdaaGreatNst
import Derived.Test.YtaebmliolpgmdaaGreatNst2
import Derived.Test.YtaebmliolpgmdaaGreatSl6
import Derived.Test.YtaebmliolpgmdaaGreatRowM
import Derived.Handy
import Derived.Deep.Light
import Derived.Deep.QuietTactic
import Derived.BigQuiet
import Derived.StillTailTactics
import Derived.Deep.RegionWith
import Derived.Test.YtaebmliolpgmdaaGreatP2
import Derived.Test.YtaebmliolpgmdaaGreatChecked
set_option linter.unusedSimpArgs false
set_option linter.unusedVariables false
set_option maxRecDepth 100000
namespace Go.Proofs.YtaebmliolpgmdaaGreat
open Go.RowKit

theorem okIns : SliceOk Tryz.prog 55 84 (.agg #[.int .i64 0, .int .i64 0]) 2 16 := .mk Tryz.underlying55 (by kernel_rfl) rfl (by decide)

set_option maxHeartbeats 400000 in
theorem toIns (a b : Int) (w : World) :
    Calls Tryz.prog 105 #[.agg #[.int .i64 a, .int .i64 b]] w fun e w' => e = .returned (.agg #[.int .i64 a, .int .i64 b]) ∧ Below w.heap.size w w' := by
  go_enter Tryz.func105, Tryz.ntmps105
  go_wp2
  go_returns
  exact ⟨rfl, by go_grown⟩

set_option maxHeartbeats 400000 in
theorem toInsS (v : Value) (l : List P2) (w : World) (hr : Rd w w.heap.size v l.length (pcells l)) (hl : l.length ≤ 1048576) :
    Calls Tryz.prog 83 #[v] w fun e w' => ∃ v', e = .returned v' ∧ w'.ownsRow w.heap.size 84 2 v' l.length (pcells l) ∧ Below w.heap.size w w' := by
  obtain ⟨A, c, rfl, hn, hc, hcell⟩ := id hr
  have Hr := hide hr; clear hr hcell
  go_enter Tryz.func83, Tryz.ntmps83
  go_wp2_with (at_make; go_must (refine wpList_makeN rfl _ _ _ rfl okIns l.length rfl rfl (by omega) (by unfold maxLen; omega) ?_); intro w1 hown1 hb1)
  go_loopw [4] (fun i wr => ∃ k : Nat, k ≤ l.length ∧ i = .int .i64 k ∧ wr.ownsRow w.heap.size 84 2 (.slice (some ⟨w.heap.size, 0, none⟩) l.length l.length) l.length (pcells (filledA ⟨0, 0⟩ l k)) ∧ Below w.heap.size w wr) (fun i _ => l.length - (intOf i).toNat)
  case atStart => exact ⟨0, by omega, rfl, by rw [filledA_zero]; have := made_cells #[.int .i64 0, .int .i64 0] l.length (by decide); rw [show pcells (List.replicate l.length ⟨0, 0⟩) = (List.replicate l.length [.int .i64 0, .int .i64 0]).flatten by rw [pcells, List.flatMap_replicate]; rfl]; rw [← this]; exact hown1, hb1⟩
  case round =>
    obtain ⟨k, hk, rfl, hown, hb⟩ := hrel
    by_cases hlt : k < l.length
    · obtain ⟨b, o, rfl, hbB, hs0, hs1⟩ := Hr.out.two' hb (Nat.le_refl _) hlt
      have Hown := hide hown; have Hb := hide hb; clear hown hb Hr hown1 hb1
      go_wp2_with fail
      refine (toIns _ _ _).mono ?_
      rintro e w2 ⟨rfl, hb2⟩
      have hown2 := own_keep Hown.out hb2
      obtain ⟨d0, hd0⟩ := own_at hown2 (j := k * 2) (by omega)
      obtain ⟨d1, hd1⟩ := own_at hown2 (j := k * 2 + 1) (by omega)
      have hf0 := hown2.frozenAt (k * 2)
      have hf1 := hown2.frozenAt (k * 2 + 1)
      have Hown2 := hide hown2; have Hb2 := hide (Hb.out.trans (hb2.mono Hb.out.size)); clear hown2 hb2
      go_wp2
      go_roundw
      case rel =>
        refine ⟨k + 1, by omega, by go_num, ?_, (Hb2.out.setCell (Nat.le_refl _) _).setCell (Nat.le_refl _) _⟩
        have := own_set (own_set Hown2.out (k * 2) (.int .i64 l[k].o)) (k * 2 + 1) (.int .i64 l[k].n)
        rw [pcells_set _ _ _ (by rw [filledA_length _ _ _ (by omega)]; exact hlt), filledA_set _ _ _ hlt] at this
        exact this
      case measure => simp [intOf]; omega
    · obtain rfl : k = l.length := by omega
      go_wp2
      go_ret
      exact ⟨_, rfl, by rw [filledA_all] at hown; exact hown, hb⟩

set_option maxHeartbeats 400000 in
theorem eqIns (a b : Int) (w : World) :
    Calls Tryz.prog 113 #[.agg #[.int .i64 a, .int .i64 b], .agg #[.int .i64 a, .int .i64 b]] w fun e w' => e = .returned (.bool true) ∧ Below w.heap.size w w' := by
  go_enter Tryz.func113, Tryz.ntmps113
  go_wp2
  go_returns
  exact ⟨rfl, by go_grown⟩

set_option maxHeartbeats 400000 in
theorem eqInsS (v v2 : Value) (l : List P2) (w : World) (hr : Rd w w.heap.size v l.length (pcells l)) (hr2 : Rd w w.heap.size v2 l.length (pcells l)) (hl : l.length ≤ 9223372036854775807) :
    Calls Tryz.prog 97 #[v, v2] w fun e w' => e = .returned (.bool true) ∧ Below w.heap.size w w' := by
  obtain ⟨A, c, rfl, hn, hc, hcell⟩ := id hr
  obtain ⟨A2, c2, rfl, hn2, hc2, hcell2⟩ := id hr2
  have Hr := hide hr; have Hr2 := hide hr2; clear hr hr2 hcell hcell2
  go_enter Tryz.func97, Tryz.ntmps97
  go_wp2
  go_loopw [5] (fun i wr => ∃ k : Nat, k ≤ l.length ∧ i = .int .i64 k ∧ Below w.heap.size w wr) (fun i _ => l.length - (intOf i).toNat)
  case atStart => exact ⟨0, by omega, rfl, Below.refl _ _⟩
  case round =>
    obtain ⟨k, hk, rfl, hb⟩ := hrel
    by_cases hlt : k < l.length
    · obtain ⟨b, o, rfl, hbB, hs0, hs1⟩ := Hr.out.two' hb (Nat.le_refl _) hlt
      obtain ⟨b2, o2, rfl, hbB2, hz0, hz1⟩ := Hr2.out.two' hb (Nat.le_refl _) hlt
      have Hb := hide hb; clear hb Hr Hr2
      go_wp2_with fail
      go_still_tail 8, (by kernel_rfl)
      change wpList _ _ _ _ _ wr.drew
      go_wp2_with (go_at_call 113; refine (eqIns _ _ _).mono ?_; rintro e w2 ⟨rfl, hb2⟩)
      go_roundw
      case rel => exact ⟨k + 1, by omega, by go_num, (Hb.out.drew).trans (hb2.mono Hb.out.size)⟩
      case measure => simp [intOf]; omega
    · obtain rfl : k = l.length := by omega
      go_wp2
      go_ret
      exact ⟨rfl, hb⟩

theorem szInsS (v : Value) (n : Nat) (cs : List Value) (left : Int) (w : World) (B : Nat) (hr : Rd w B v n cs) (h1 : 0 ≤ left) (h2 : left ≤ 4611686018427387904) :
    Calls Tryz.prog 73 #[v, .int .i64 left] w fun e w' => e = .returned (.int .i64 (if (n : Int) ≤ left then left - n else -1)) ∧ w = w' := by
  obtain ⟨A, c, rfl, hn, hc, hcell⟩ := id hr
  have hn' : n ≤ 9223372036854775807 := by unfold maxLen at hc; omega
  clear hcell hr hn hc
  by_cases g : (n : Int) ≤ left
  all_goals
    go_enter Tryz.func73, Tryz.ntmps73
    go_wp2
    all_goals first
      | (exfalso; omega)
      | (go_ret
         exact ⟨retI (by first | rfl | omega | rw [if_pos g] | rw [if_neg (by omega)]), rfl⟩)

set_option maxHeartbeats 800000 in
theorem markInsS (v : Value) (l : List P2) (k0 : Int) (w : World) (base : Nat) (hown : w.ownsRow base 84 2 v l.length (pcells l)) (hk : 0 ≤ k0) (hk2 : k0 + 2 * l.length ≤ 4000000000000000000) :
    Calls Tryz.prog 59 #[v, .int .i64 k0] w fun e w' => e = .returned (.int .i64 (k0 + 2 * l.length)) ∧ w'.ownsRow base 84 2 v l.length (pcells (iotaP k0 l.length)) ∧ w.grownBy w' v.ownBlock := by
  rcases id hown.2 with ⟨rfl, h0⟩ | ⟨g, cap, cur, rfl, hg, hh, hn, hc, _⟩
  · obtain rfl := List.eq_nil_of_length_eq_zero h0
    go_enter Tryz.func59, Tryz.ntmps59
    go_wp2
    go_rounds 1
    go_ret
    exact ⟨retI (by simp), World.ownsRow_nil _ _ _ _, World.grownBy.refl _ _⟩
  · have Hown := hide hown; clear hown hh
    go_enter Tryz.func59, Tryz.ntmps59
    go_wp2
    go_loopw [1, 5] (fun c i wr => ∃ j : Nat, j ≤ l.length ∧ i = .int .i64 j ∧ c = .int .i64 (k0 + 2 * j) ∧ wr.ownsRow base 84 2 (.slice (some ⟨g, 0, none⟩) l.length cap) l.length (pcells (iotaP k0 j ++ l.drop j)) ∧ w.grownBy wr (some g)) (fun _ i _ => l.length - (intOf i).toNat)
    case atStart => exact ⟨0, by omega, rfl, by simp, by simpa [iotaP] using Hown.out, World.grownBy.refl _ _⟩
    case round =>
      obtain ⟨j, hj, rfl, rfl, hown, hgr⟩ := hrel
      by_cases hlt : j < l.length
      · obtain ⟨d0, hd0⟩ := own_at hown (j := j * 2) (by omega)
        obtain ⟨d1, hd1⟩ := own_at hown (j := j * 2 + 1) (by omega)
        have hf0 := hown.frozenAt (j * 2)
        have hf1 := hown.frozenAt (j * 2 + 1)
        have Ho := hide hown; have Hg := hide hgr; clear hown hgr
        go_wp2
        go_roundw
        case rel =>
          refine ⟨j + 1, by omega, by go_num, by go_num, ?_, grown_setP (grown_setP Hg.out rfl _) rfl _⟩
          have := own_set (own_set Ho.out (j * 2) (.int .i64 (k0 + 2 * j))) (j * 2 + 1) (.int .i64 (k0 + 2 * j + 1))
          have e := pcells_set (iotaP k0 j ++ l.drop j) j ⟨k0 + 2 * (j : Int), k0 + 2 * (j : Int) + 1⟩ (by rw [List.length_append, iotaP_length, List.length_drop]; omega)
          rw [e, markP_set _ _ _ hlt] at this
          exact this
        case measure => simp [intOf]; omega
      · obtain rfl : j = l.length := by omega
        rw [List.drop_length, List.append_nil] at hown
        have Ho := hide hown; have Hg := hide hgr; clear hown hgr
        go_wp2
        go_ret
        exact ⟨rfl, Ho.out, Hg.out⟩

end Go.Proofs.YtaebmliolpgmdaaGreat
set_option linter.unusedSimpArgs false
set_option linter.unusedVariables false
set_option maxRecDepth 100000
namespace Go.Proofs.YtaebmliolpgmdaaGreat
open Go.RowKit

structure CodeM where
  qParams : Int
  qVars : Int
  qSites : List Int
  qIns : List P2
  qRows : List R3
def szCodeN (m : CodeM) : Nat := m.qSites.length + (m.qIns.length + (m.qRows.length))
def szCodesL : List CodeM → Nat
  | [] => 0
  | m :: l => szCodeN m + szCodesL l
def szCodesN (l : List CodeM) : Nat := l.length + szCodesL l
theorem szCodesL_step {l : List CodeM} {k : Nat} (h : k < l.length) : szCodesL (l.drop k) = szCodeN l[k] + szCodesL (l.drop (k + 1)) := by
  rw [List.drop_eq_getElem_cons h]; rfl
theorem szCodesL_mem : ∀ {l : List CodeM} {k : Nat} (h : k < l.length), szCodeN l[k] ≤ szCodesL l := by
  intro l
  induction l with
  | nil => intro k h; simp at h
  | cons a l ih =>
    intro k h
    cases k with
    | zero => simp [szCodesL]
    | succ k => have := ih (k := k) (by simpa using h); simp only [szCodesL, List.getElem_cons_succ]; omega
def RCode (w : World) (lo hi : Nat) (cs : List Value) (m : CodeM) : Prop := ∃ v2 v3 v4 : Value, cs = [.int .i64 m.qParams, .int .i64 m.qVars, v2, v3, v4] ∧ Rg w lo hi v2 m.qSites.length (icells .i64 m.qSites) ∧ Rg w lo hi v3 m.qIns.length (pcells m.qIns) ∧ Rg w lo hi v4 m.qRows.length (rcells m.qRows)
theorem RCode_stable : Stable RCode :=
  ⟨fun ⟨v2, v3, v4, e, h2, h3, h4⟩ hk => ⟨v2, v3, v4, e, h2.keep hk, h3.keep hk, h4.keep hk⟩, fun ⟨v2, v3, v4, e, h2, h3, h4⟩ p1 p2 => ⟨v2, v3, v4, e, h2.more p1 p2, h3.more p1 p2, h4.more p1 p2⟩⟩
def OCode (w : World) (lo hi : Nat) (cs : List Value) (m : CodeM) : Prop := ∃ c0 c1 c2 c3 c4 : Value, cs = [c0, c1, c2, c3, c4] ∧ sc c0 ∧ sc c1 ∧ Og w lo hi 3 1 c2 m.qSites.length ∧ Og w lo hi 84 2 c3 m.qIns.length ∧ Og w lo hi 80 3 c4 m.qRows.length
theorem OCode_stable : Stable OCode :=
  ⟨fun ⟨c0, c1, c2, c3, c4, e, s0, s1, h2, h3, h4⟩ hk => ⟨c0, c1, c2, c3, c4, e, s0, s1, h2.keep hk, h3.keep hk, h4.keep hk⟩, fun ⟨c0, c1, c2, c3, c4, e, s0, s1, h2, h3, h4⟩ p1 p2 => ⟨c0, c1, c2, c3, c4, e, s0, s1, h2.more p1 p2, h3.more p1 p2, h4.more p1 p2⟩⟩
/-- the cells of an element of a slice that is read -/
theorem RCode_at {w : World} {hi c i : Nat} {A : Option Addr} {l : List CodeM} (h : RL RCode 5 w 0 hi (.slice A l.length c) l) (hl : i < l.length) :
    ∃ (b o : Nat) (v2 v3 v4 : Value), A = some ⟨b, o, none⟩ ∧ b < hi ∧ w.cell? ⟨b, o + i * 5, none⟩ = some (.int .i64 l[i].qParams) ∧ w.cell? ⟨b, o + i * 5 + 1, none⟩ = some (.int .i64 l[i].qVars) ∧ w.cell? ⟨b, o + i * 5 + 2, none⟩ = some (v2) ∧ w.cell? ⟨b, o + i * 5 + 3, none⟩ = some (v3) ∧ w.cell? ⟨b, o + i * 5 + 4, none⟩ = some (v4) ∧ RCode w 0 hi [.int .i64 l[i].qParams, .int .i64 l[i].qVars, v2, v3, v4] l[i] := by
  obtain ⟨b, o, cs, hA, hb, hcl, hcell, hr⟩ := h.at_ hl
  have hr' := hr
  obtain ⟨v2, v3, v4, rfl, h2, h3, h4⟩ := hr
  exact ⟨b, o, v2, v3, v4, hA, hb.2, hcell 0 _ rfl, hcell 1 _ rfl, hcell 2 _ rfl, hcell 3 _ rfl, hcell 4 _ rfl, hr'⟩

set_option maxHeartbeats 1600000 in
theorem szCode (cs : List Value) (m : CodeM) (left : Int) (w : World) (hr : RCode w 0 w.heap.size cs m) (g1 : 0 ≤ left) (g2 : left ≤ 4611686018427387904) :
    Calls Tryz.prog 40 #[.agg cs.toArray, .int .i64 left] w fun e w' => e = .returned (.int .i64 (subL left (szCodeN m))) ∧ Below w.heap.size w w' := by
  obtain ⟨v2, v3, v4, rfl, h2, h3, h4⟩ := hr
  obtain ⟨m0, m1, l2, l3, l4⟩ := m
  obtain ⟨hT1, hT2⟩ : szCodeN ⟨m0, m1, l2, l3, l4⟩ ≤ l2.length + (l3.length + (l4.length)) ∧ l2.length + (l3.length + (l4.length)) ≤ szCodeN ⟨m0, m1, l2, l3, l4⟩ := ⟨Nat.le_refl _, Nat.le_refl _⟩
  generalize szCodeN ⟨m0, m1, l2, l3, l4⟩ = T at *
  dsimp only at *
  have H2 := hide h2; clear h2
  have H3 := hide h3; clear h3
  have H4 := hide h4; clear h4
  have HW := hide ((Below.refl w.heap.size w).alloc (Nat.le_refl _) (.cells #[.int .i64 m0, .int .i64 m1, v2, v3, v4] 77))
  go_enter Tryz.func40, Tryz.ntmps40
  go_wp2_with fail
  refine (szIntS _ _ _ (left) _ _ (H2.out.here HW.out).rd (by omega) (by omega)).mono ?_
  rintro e w' ⟨rfl, rfl⟩
  by_cases q2 : ((l2.length : Nat) : Int) ≤ left
  case neg =>
    rw [if_neg q2]
    go_wp2
    go_ret
    exact ⟨retI (by rw [subL_no (by omega)]), HW.out⟩
  rw [if_pos q2]
  go_wp2_with fail
  refine (szInsS _ _ _ (left - l2.length) _ _ (H3.out.here HW.out).rd (by omega) (by omega)).mono ?_
  rintro e w' ⟨rfl, rfl⟩
  by_cases q3 : ((l3.length : Nat) : Int) ≤ left - l2.length
  case neg =>
    rw [if_neg q3]
    go_wp2
    go_ret
    exact ⟨retI (by rw [subL_no (by omega)]), HW.out⟩
  rw [if_pos q3]
  go_wp2_with fail
  refine (szRowS _ _ _ (left - l2.length - l3.length) _ _ (H4.out.here HW.out).rd (by omega) (by omega)).mono ?_
  rintro e w' ⟨rfl, rfl⟩
  by_cases q4 : ((l4.length : Nat) : Int) ≤ left - l2.length - l3.length
  case neg =>
    rw [if_neg q4]
    go_wp2
    go_ret
    exact ⟨retI (by rw [subL_no (by omega)]), HW.out⟩
  rw [if_pos q4]
  go_wp2
  go_ret
  exact ⟨retI (by rw [subL_yes (by omega)]; omega), HW.out⟩
set_option maxHeartbeats 1600000 in
theorem szCodeS (v : Value) (l : List CodeM) (left : Int) (w : World) (hr : RL RCode 5 w 0 w.heap.size v l) (g1 : 0 ≤ left) (g2 : left ≤ 4611686018427387904) :
    Calls Tryz.prog 19 #[v, .int .i64 left] w fun e w' => e = .returned (.int .i64 (subL left (szCodesN l))) ∧ Below w.heap.size w w' := by
  have hl := hr.long
  obtain ⟨A, c, rfl⟩ := hr.form
  have Hr := hide hr; clear hr
  have hN : szCodesN l = l.length + szCodesL l := rfl
  rw [hN]; clear hN
  by_cases q0 : (l.length : Int) ≤ left
  case neg =>
    go_enter Tryz.func19, Tryz.ntmps19
    go_wp2
    go_ret
    exact ⟨retI (by rw [subL_no (by omega)]), Below.refl _ _⟩
  obtain ⟨tt, ht⟩ : ∃ tt, tt = szCodesL l := ⟨_, rfl⟩
  rw [← ht]
  have Ht := hide ht; clear ht
  go_enter Tryz.func19, Tryz.ntmps19
  go_wp2
  go_loopw [1, 5] (fun lf i wr => ∃ (k s : Nat), k ≤ l.length ∧ i = .int .i64 k ∧ lf = .int .i64 (left - l.length - s) ∧ s + szCodesL (l.drop k) = tt ∧ (s : Int) ≤ left - l.length ∧ Below w.heap.size w wr) (fun _ i _ => l.length - (intOf i).toNat)
  case atStart => exact ⟨0, 0, by omega, rfl, congrArg (Value.int .i64) (by omega), by rw [Ht.out]; simp, by omega, Below.refl _ _⟩
  case round =>
    obtain ⟨k, s, hk, rfl, rfl, hs, hsl, hb⟩ := hrel
    by_cases hlt : k < l.length
    · have hstep := szCodesL_step hlt
      obtain ⟨b, o, v2, v3, v4, rfl, hbB, e0, e1, e2, e3, e4, hx⟩ := RCode_at (Hr.out.here RCode_stable hb) hlt
      have Hx := hide hx; have Hb := hide hb; have hbs := hb.size; clear hx hb Hr
      generalize l[k] = m at *
      have hbw : b < wr.heap.size := by omega
      obtain ⟨z, hz⟩ : ∃ z, z = szCodeN m := ⟨_, rfl⟩
      rw [← hz] at hstep
      obtain ⟨y, hy⟩ : ∃ y, y = szCodesL (l.drop (k + 1)) := ⟨_, rfl⟩
      rw [hstep, ← hy] at hs
      have Hz := hide hz; have Hy := hide hy; clear hz hy hstep
      go_wp2_with fail
      refine (szCode _ m (left - l.length - s) _ Hx.out (by omega) (by omega)).mono ?_
      rintro e w2 ⟨rfl, hb2⟩
      rw [← Hz.out]
      have Hb2 := hide (Hb.out.trans (hb2.mono hbs)); clear hb2
      by_cases q1 : (z : Int) ≤ left - l.length - s
      · rw [subL_yes q1]
        go_wp2
        go_roundw
        case rel => exact ⟨k + 1, s + z, by omega, by go_num, congrArg (Value.int .i64) (by omega), by rw [← Hy.out]; omega, by omega, Hb2.out⟩
        case measure => simp [intOf]; omega
      · rw [subL_no q1]
        go_wp2
        go_ret
        exact ⟨retI (by rw [subL_no (by omega)]), Hb2.out⟩
    · obtain rfl : k = l.length := by omega
      rw [List.drop_length] at hs
      have hs' : s = tt := by rw [← hs]; rfl
      have Hs := hide hs'; clear hs hs'
      go_wp2
      go_ret
      exact ⟨retI (by have := Hs.out; rw [subL_yes (by omega)]; omega), hb⟩

set_option maxHeartbeats 3200000 in
theorem toCode (cs : List Value) (m : CodeM) (w : World) (hr : RCode w 0 w.heap.size cs m) (hz : szCodeN m ≤ 1048576) :
    Calls Tryz.prog 46 #[.agg cs.toArray] w fun e w' => ∃ cs' : List Value, e = .returned (.agg cs'.toArray) ∧ RCode w' w.heap.size w'.heap.size cs' m ∧ OCode w' w.heap.size w'.heap.size cs' m ∧ Below w.heap.size w w' := by
  obtain ⟨v2, v3, v4, rfl, h2, h3, h4⟩ := hr
  obtain ⟨m0, m1, l2, l3, l4⟩ := m
  dsimp only [szCodeN] at *
  have H2 := hide h2; clear h2
  have H3 := hide h3; clear h3
  have H4 := hide h4; clear h4
  go_enter Tryz.func46, Tryz.ntmps46
  go_wp2_with fail
  refine (toIntS _ l2 _ (H2.out.rd.here (by go_grown)) (by omega)).mono ?_
  rintro e w1 ⟨u2, rfl, hown, hb⟩
  obtain ⟨U2, C2, rfl⟩ := own_form hown
  obtain ⟨k1, k2, k3, hz1, kb⟩ := three_below hb
  have K1_1 := hide k1; have K2_1 := hide k2; have K3_1 := hide k3; have Kb1 := hide kb; clear k1 k2 k3 kb
  have hlo : w.heap.size + 1 + 1 + 1 ≤ (((w.alloc (.cells #[.int .i64 m0, .int .i64 m1, v2, v3, v4] 77)).alloc (.cells #[.int .i64 0, .int .i64 0, .slice none 0 0, .slice none 0 0, .slice none 0 0] 58)).alloc (.cells #[.int .i64 m0, .int .i64 m1, .slice none 0 0, .slice none 0 0, .slice none 0 0] 58)).heap.size := by rw [World.size_alloc, World.size_alloc, World.size_alloc]; omega
  have A2_1 := hide ((Rg.of_own hown).more (lo' := w.heap.size + 1 + 1 + 1) hlo (Nat.le_refl _)); have B2_1 := hide ((Og.of_own hown sc_icells).more (lo' := w.heap.size + 1 + 1 + 1) hlo (Nat.le_refl _)); clear hown hb hlo
  have hbx : Below w.heap.size w ((w1).setCell ⟨w.heap.size + 1 + 1, 2, none⟩ (.slice U2 l2.length C2)) := (Kb1.out.setCell (p := ⟨w.heap.size + 1 + 1, 2, none⟩) (by show _ ≤ w.heap.size + 1 + 1; omega) _)
  have Hbx := hide hbx; clear hbx
  have c1_0 := K1_1.out.cell 0; have c3_0 := K3_1.out.cell 0; have z3_0 := K3_1.out.frozen 0
  have c1_1 := K1_1.out.cell 1; have c3_1 := K3_1.out.cell 1; have z3_1 := K3_1.out.frozen 1
  have c1_2 := K1_1.out.cell 2; have c3_2 := K3_1.out.cell 2; have z3_2 := K3_1.out.frozen 2
  have c1_3 := K1_1.out.cell 3; have c3_3 := K3_1.out.cell 3; have z3_3 := K3_1.out.frozen 3
  have c1_4 := K1_1.out.cell 4; have c3_4 := K3_1.out.cell 4; have z3_4 := K3_1.out.frozen 4
  go_wp2_with fail
  refine (toInsS _ l3 _ (H3.out.rd.here Hbx.out) (by omega)).mono ?_
  rintro e w2 ⟨u3, rfl, hown, hb⟩
  obtain ⟨U3, C3, rfl⟩ := own_form hown
  clear c1_0 c3_0 z3_0 c1_1 c3_1 z3_1 c1_2 c3_2 z3_2 c1_3 c3_3 z3_3 c1_4 c3_4 z3_4
  have K1_2 := hide ((K1_1.out.far (by omega) 2 (.slice U2 l2.length C2)).below hb); have K2_2 := hide ((K2_1.out.far (by omega) 2 (.slice U2 l2.length C2)).below hb)
  have k3 : Bk w2 (w.heap.size + 1 + 1) 58 #[.int .i64 m0, .int .i64 m1, .slice U2 l2.length C2, .slice none 0 0, .slice none 0 0] := (K3_1.out.set 2 (.slice U2 l2.length C2)).below hb
  have K3_2 := hide k3; clear k3
  have hbs := hb.size
  have hz2 : w1.heap.size ≤ w2.heap.size := by simpa using hbs
  clear hbs
  have hk : KeptB (w.heap.size + 1 + 1 + 1) w1.heap.size w1 w2 := KeptB.below ((KeptB.refl _ _ _).setr (p := ⟨w.heap.size + 1 + 1, 2, none⟩) (by dsimp only; omega)) hb (by simp)
  have A2_2 := hide ((A2_1.out.keep hk).more (Nat.le_refl _) hz2); have B2_2 := hide ((B2_1.out.keep hk).more (Nat.le_refl _) hz2)
  clear hk
  have Kb2 := hide (Hbx.out.trans (hb.mono Hbx.out.size)); clear Hbx
  have hlo : w.heap.size + 1 + 1 + 1 ≤ ((w1).setCell ⟨w.heap.size + 1 + 1, 2, none⟩ (.slice U2 l2.length C2)).heap.size := by simp; omega
  have A3_2 := hide ((Rg.of_own hown).more (lo' := w.heap.size + 1 + 1 + 1) hlo (Nat.le_refl _)); have B3_2 := hide ((Og.of_own hown sc_pcells).more (lo' := w.heap.size + 1 + 1 + 1) hlo (Nat.le_refl _)); clear hown hb hlo
  have hbx : Below w.heap.size w ((w2).setCell ⟨w.heap.size + 1 + 1, 3, none⟩ (.slice U3 l3.length C3)) := (Kb2.out.setCell (p := ⟨w.heap.size + 1 + 1, 3, none⟩) (by show _ ≤ w.heap.size + 1 + 1; omega) _)
  have Hbx := hide hbx; clear hbx
  have c1_0 := K1_2.out.cell 0; have c3_0 := K3_2.out.cell 0; have z3_0 := K3_2.out.frozen 0
  have c1_1 := K1_2.out.cell 1; have c3_1 := K3_2.out.cell 1; have z3_1 := K3_2.out.frozen 1
  have c1_2 := K1_2.out.cell 2; have c3_2 := K3_2.out.cell 2; have z3_2 := K3_2.out.frozen 2
  have c1_3 := K1_2.out.cell 3; have c3_3 := K3_2.out.cell 3; have z3_3 := K3_2.out.frozen 3
  have c1_4 := K1_2.out.cell 4; have c3_4 := K3_2.out.cell 4; have z3_4 := K3_2.out.frozen 4
  go_wp2_with fail
  refine (toRowS _ l4 _ (H4.out.rd.here Hbx.out) (by omega)).mono ?_
  rintro e w3 ⟨u4, rfl, hown, hb⟩
  obtain ⟨U4, C4, rfl⟩ := own_form hown
  clear c1_0 c3_0 z3_0 c1_1 c3_1 z3_1 c1_2 c3_2 z3_2 c1_3 c3_3 z3_3 c1_4 c3_4 z3_4
  have K1_3 := hide ((K1_2.out.far (by omega) 3 (.slice U3 l3.length C3)).below hb); have K2_3 := hide ((K2_2.out.far (by omega) 3 (.slice U3 l3.length C3)).below hb)
  have k3 : Bk w3 (w.heap.size + 1 + 1) 58 #[.int .i64 m0, .int .i64 m1, .slice U2 l2.length C2, .slice U3 l3.length C3, .slice none 0 0] := (K3_2.out.set 3 (.slice U3 l3.length C3)).below hb
  have K3_3 := hide k3; clear k3
  have hbs := hb.size
  have hz3 : w2.heap.size ≤ w3.heap.size := by simpa using hbs
  clear hbs
  have hk : KeptB (w.heap.size + 1 + 1 + 1) w2.heap.size w2 w3 := KeptB.below ((KeptB.refl _ _ _).setr (p := ⟨w.heap.size + 1 + 1, 3, none⟩) (by dsimp only; omega)) hb (by simp)
  have A2_3 := hide ((A2_2.out.keep hk).more (Nat.le_refl _) hz3); have B2_3 := hide ((B2_2.out.keep hk).more (Nat.le_refl _) hz3)
  have A3_3 := hide ((A3_2.out.keep hk).more (Nat.le_refl _) hz3); have B3_3 := hide ((B3_2.out.keep hk).more (Nat.le_refl _) hz3)
  clear hk
  have Kb3 := hide (Hbx.out.trans (hb.mono Hbx.out.size)); clear Hbx
  have hlo : w.heap.size + 1 + 1 + 1 ≤ ((w2).setCell ⟨w.heap.size + 1 + 1, 3, none⟩ (.slice U3 l3.length C3)).heap.size := by simp; omega
  have A4_3 := hide ((Rg.of_own hown).more (lo' := w.heap.size + 1 + 1 + 1) hlo (Nat.le_refl _)); have B4_3 := hide ((Og.of_own hown sc_rcells).more (lo' := w.heap.size + 1 + 1 + 1) hlo (Nat.le_refl _)); clear hown hb hlo
  have c1_0 := K1_3.out.cell 0; have c3_0 := K3_3.out.cell 0; have z3_0 := K3_3.out.frozen 0
  have c1_1 := K1_3.out.cell 1; have c3_1 := K3_3.out.cell 1; have z3_1 := K3_3.out.frozen 1
  have c1_2 := K1_3.out.cell 2; have c3_2 := K3_3.out.cell 2; have z3_2 := K3_3.out.frozen 2
  have c1_3 := K1_3.out.cell 3; have c3_3 := K3_3.out.cell 3; have z3_3 := K3_3.out.frozen 3
  have c1_4 := K1_3.out.cell 4; have c3_4 := K3_3.out.cell 4; have z3_4 := K3_3.out.frozen 4
  go_upto_region 7 with (fail)
  clear c1_0 c3_0 z3_0 c1_1 c3_1 z3_1 c1_2 c3_2 z3_2 c1_3 c3_3 z3_3 c1_4 c3_4 z3_4
  have k2 : Bk ((w3).setCell ⟨w.heap.size + 1 + 1, 4, none⟩ (.slice U4 l4.length C4)) (w.heap.size + 1) 58 #[.int .i64 0, .int .i64 0, .slice none 0 0, .slice none 0 0, .slice none 0 0] := (K2_3.out.far (by omega) 4 (.slice U4 l4.length C4))
  have k3 : Bk ((w3).setCell ⟨w.heap.size + 1 + 1, 4, none⟩ (.slice U4 l4.length C4)) (w.heap.size + 1 + 1) 58 #[.int .i64 m0, .int .i64 m1, .slice U2 l2.length C2, .slice U3 l3.length C3, .slice U4 l4.length C4] := (K3_3.out.set 4 (.slice U4 l4.length C4))
  have hk : KeptB (w.heap.size + 1 + 1 + 1) w3.heap.size w3 ((w3).setCell ⟨w.heap.size + 1 + 1, 4, none⟩ (.slice U4 l4.length C4)) := (KeptB.refl _ _ _).setr (p := ⟨w.heap.size + 1 + 1, 4, none⟩) (by dsimp only; omega)
  have hs : w3.heap.size ≤ ((w3).setCell ⟨w.heap.size + 1 + 1, 4, none⟩ (.slice U4 l4.length C4)).heap.size := by simp only [World.size_setCell]; exact Nat.le_refl _
  have hbW : Below w.heap.size w ((w3).setCell ⟨w.heap.size + 1 + 1, 4, none⟩ (.slice U4 l4.length C4)) := (Kb3.out).setCell (p := ⟨w.heap.size + 1 + 1, 4, none⟩) (by dsimp only; omega) _
  have a2 := (A2_3.out.keep hk).more (Nat.le_refl _) hs; have b2 := (B2_3.out.keep hk).more (Nat.le_refl _) hs
  have a3 := (A3_3.out.keep hk).more (Nat.le_refl _) hs; have b3 := (B3_3.out.keep hk).more (Nat.le_refl _) hs
  have a4 := (A4_3.out.keep hk).more (Nat.le_refl _) hs; have b4 := (B4_3.out.keep hk).more (Nat.le_refl _) hs
  clear hk hs A2_3 B2_3 A3_3 B3_3 A4_3 B4_3
  generalize (w3).setCell ⟨w.heap.size + 1 + 1, 4, none⟩ (.slice U4 l4.length C4) = W at k2 k3 hbW a2 b2 a3 b3 a4 b4 ⊢
  have hzW : w.heap.size + 1 + 1 < W.heap.size := k3.lt
  have HF := hide (show ∀ WF : World, KeptB (w.heap.size + 1 + 1 + 1) W.heap.size W WF → W.heap.size ≤ WF.heap.size → Below w.heap.size w WF → ∃ cs' : List Value, Ending.returned (.agg #[.int .i64 m0, .int .i64 m1, .slice U2 l2.length C2, .slice U3 l3.length C3, .slice U4 l4.length C4]) = .returned (.agg cs'.toArray) ∧ RCode WF w.heap.size WF.heap.size cs' ⟨m0, m1, l2, l3, l4⟩ ∧ OCode WF w.heap.size WF.heap.size cs' ⟨m0, m1, l2, l3, l4⟩ ∧ Below w.heap.size w WF from
    fun WF hk hs hb => ⟨[.int .i64 m0, .int .i64 m1, .slice U2 l2.length C2, .slice U3 l3.length C3, .slice U4 l4.length C4], rfl, ⟨_, _, _, rfl, (a2.keep hk).more (by omega) hs, (a3.keep hk).more (by omega) hs, (a4.keep hk).more (by omega) hs⟩, ⟨_, _, _, _, _, rfl, trivial, trivial, (b2.keep hk).more (by omega) hs, (b3.keep hk).more (by omega) hs, (b4.keep hk).more (by omega) hs⟩, hb⟩)
  have HbW := hide hbW; clear hbW a2 b2 a3 b3 a4 b4
  have c2_0 := k2.cell 0; have y2_0 := k2.frozen 0; have c3_0 := k3.cell 0
  have c2_1 := k2.cell 1; have y2_1 := k2.frozen 1; have c3_1 := k3.cell 1
  have c2_2 := k2.cell 2; have y2_2 := k2.frozen 2; have c3_2 := k3.cell 2
  have c2_3 := k2.cell 3; have y2_3 := k2.frozen 3; have c3_3 := k3.cell 3
  have c2_4 := k2.cell 4; have y2_4 := k2.frozen 4; have c3_4 := k3.cell 4
  clear k2 k3
  go_wp2
  refine bodyPost_ret (v := .agg #[.int .i64 m0, .int .i64 m1, .slice U2 l2.length C2, .slice U3 l3.length C3, .slice U4 l4.length C4]) (by simp [results, Tryz.results46, go_sem, c2_0, c2_1, c2_2, c2_3, c2_4]) rfl ?_
  exact HF.out _ ((((((KeptB.refl _ _ _).setr (by dsimp only; omega)).setr (by dsimp only; omega)).setr (by dsimp only; omega)).setr (by dsimp only; omega)).setr (by dsimp only; omega)) (by simp only [World.size_setCell]; exact Nat.le_refl _) ((((((HbW.out).setCell (by dsimp only; omega) _).setCell (by dsimp only; omega) _).setCell (by dsimp only; omega) _).setCell (by dsimp only; omega) _).setCell (by dsimp only; omega) _)

theorem okCode : SliceOk Tryz.prog 29 58 (.agg #[.int .i64 0, .int .i64 0, .slice none 0 0, .slice none 0 0, .slice none 0 0]) 5 88 := .mk Tryz.underlying29 (by kernel_rfl) rfl (by decide)
set_option maxHeartbeats 3200000 in
theorem toCodeS (v : Value) (l : List CodeM) (w : World) (hr : RL RCode 5 w 0 w.heap.size v l) (hz : szCodesN l ≤ 1048576) :
    Calls Tryz.prog 22 #[v] w fun e w' => ∃ v', e = .returned v' ∧ RL RCode 5 w' w.heap.size w'.heap.size v' l ∧ OL OCode 58 5 w' w.heap.size w'.heap.size v' l ∧ Below w.heap.size w w' := by
  have hlen : l.length ≤ 1048576 := by have : szCodesN l = l.length + szCodesL l := rfl; omega
  have hel : ∀ k (h : k < l.length), szCodeN l[k] ≤ 1048576 := fun k h => by have := szCodesL_mem h; have : szCodesN l = l.length + szCodesL l := rfl; omega
  obtain ⟨A, c, rfl⟩ := hr.form
  have Hr := hide hr; have Hel := hide hel; clear hr hz hel
  go_enter Tryz.func22, Tryz.ntmps22
  go_wp2_with (at_make; go_must (refine wpList_makeN rfl _ _ _ rfl okCode l.length rfl rfl (by omega) (by unfold maxLen; omega) ?_); intro w1 hown1 hb1)
  go_loopw [4] (fun i wr => ∃ (k : Nat) (css : List (List Value)), k ≤ l.length ∧ i = .int .i64 k ∧ css.length = l.length ∧ (∀ x ∈ css, x.length = 5) ∧ wr.ownsRow w.heap.size 58 5 (.slice (some ⟨w.heap.size, 0, none⟩) l.length l.length) l.length css.flatten ∧
      (∀ j (h : j < l.length), j < k → ∃ cs, css[j]? = some cs ∧ RCode wr (w.heap.size + 1) wr.heap.size cs l[j] ∧ OCode wr (w.heap.size + 1) wr.heap.size cs l[j]) ∧ Below w.heap.size w wr) (fun i _ => l.length - (intOf i).toNat)
  case atStart =>
    refine ⟨0, List.replicate l.length [.int .i64 0, .int .i64 0, .slice none 0 0, .slice none 0 0, .slice none 0 0], by omega, rfl, by simp, fun x hx => by rw [List.eq_of_mem_replicate hx]; rfl, ?_, fun j _ hj => by omega, hb1⟩
    have := made_cells #[.int .i64 0, .int .i64 0, .slice none 0 0, .slice none 0 0, .slice none 0 0] l.length (by decide)
    rw [← this]
    exact hown1
  case round =>
    obtain ⟨k, css, hk, rfl, hcl, hce, hown, hel, hb⟩ := hrel
    by_cases hlt : k < l.length
    · have hm := Hel.out k hlt
      obtain ⟨b, o, v2, v3, v4, rfl, hbB, e0, e1, e2, e3, e4, hx⟩ := RCode_at (Hr.out.here RCode_stable hb) hlt
      have hg := hown.lt w.heap.size rfl
      have Hel2 := hide hel; have Hown := hide hown; have Hb := hide hb; have Hx := hide hx; have hbs := hb.size; have Hcl := hide hcl; have Hce := hide hce
      clear hel hown hb hx hown1 hb1 hcl hce
      generalize hm0 : l[k] = m at *
      have Hm0 := hide hm0; clear hm0
      go_wp2_with fail
      refine (toCode _ m _ Hx.out hm).mono ?_
      rintro e w2 ⟨cs', rfl, hrd, hog, hb2⟩
      have hown2 := own_keep Hown.out hb2
      have hks : KeptB (w.heap.size + 1) wr.heap.size wr w2 := (KeptB.refl _ _ _).below hb2 (Nat.le_refl _)
      have hsz2 := hb2.size
      obtain ⟨u2, u3, u4, rfl, r2, r3, r4⟩ := id hrd
      obtain ⟨U2, C2, rfl⟩ := r2.form
      obtain ⟨U3, C3, rfl⟩ := r3.form
      obtain ⟨U4, C4, rfl⟩ := r4.form
      obtain ⟨d0, hd0⟩ := own_at hown2 (j := k * 5) (by omega)
      have hf0 := hown2.frozenAt (k * 5)
      obtain ⟨d1, hd1⟩ := own_at hown2 (j := k * 5 + 1) (by omega)
      have hf1 := hown2.frozenAt (k * 5 + 1)
      obtain ⟨d2, hd2⟩ := own_at hown2 (j := k * 5 + 2) (by omega)
      have hf2 := hown2.frozenAt (k * 5 + 2)
      obtain ⟨d3, hd3⟩ := own_at hown2 (j := k * 5 + 3) (by omega)
      have hf3 := hown2.frozenAt (k * 5 + 3)
      obtain ⟨d4, hd4⟩ := own_at hown2 (j := k * 5 + 4) (by omega)
      have hf4 := hown2.frozenAt (k * 5 + 4)
      have hgb : w.heap.size + 1 ≤ wr.heap.size := by omega
      have HKF := hide (show KeptB wr.heap.size w2.heap.size w2 ((((((w2).setCell ⟨w.heap.size, k * 5, none⟩ (.int .i64 m.qParams)).setCell ⟨w.heap.size, k * 5 + 1, none⟩ (.int .i64 m.qVars)).setCell ⟨w.heap.size, k * 5 + 2, none⟩ (.slice U2 m.qSites.length C2)).setCell ⟨w.heap.size, k * 5 + 3, none⟩ (.slice U3 m.qIns.length C3)).setCell ⟨w.heap.size, k * 5 + 4, none⟩ (.slice U4 m.qRows.length C4)) from (((((KeptB.refl _ _ _).setr (by dsimp only; omega)).setr (by dsimp only; omega)).setr (by dsimp only; omega)).setr (by dsimp only; omega)).setr (by dsimp only; omega))
      have HZF := hide (show w2.heap.size ≤ ((((((w2).setCell ⟨w.heap.size, k * 5, none⟩ (.int .i64 m.qParams)).setCell ⟨w.heap.size, k * 5 + 1, none⟩ (.int .i64 m.qVars)).setCell ⟨w.heap.size, k * 5 + 2, none⟩ (.slice U2 m.qSites.length C2)).setCell ⟨w.heap.size, k * 5 + 3, none⟩ (.slice U3 m.qIns.length C3)).setCell ⟨w.heap.size, k * 5 + 4, none⟩ (.slice U4 m.qRows.length C4)).heap.size from by simp only [World.size_setCell]; exact Nat.le_refl _)
      have HKG := hide (show KeptB (w.heap.size + 1) wr.heap.size wr ((((((w2).setCell ⟨w.heap.size, k * 5, none⟩ (.int .i64 m.qParams)).setCell ⟨w.heap.size, k * 5 + 1, none⟩ (.int .i64 m.qVars)).setCell ⟨w.heap.size, k * 5 + 2, none⟩ (.slice U2 m.qSites.length C2)).setCell ⟨w.heap.size, k * 5 + 3, none⟩ (.slice U3 m.qIns.length C3)).setCell ⟨w.heap.size, k * 5 + 4, none⟩ (.slice U4 m.qRows.length C4)) from (((((hks).setr (by dsimp only; omega)).setr (by dsimp only; omega)).setr (by dsimp only; omega)).setr (by dsimp only; omega)).setr (by dsimp only; omega))
      have HZG := hide (show wr.heap.size ≤ ((((((w2).setCell ⟨w.heap.size, k * 5, none⟩ (.int .i64 m.qParams)).setCell ⟨w.heap.size, k * 5 + 1, none⟩ (.int .i64 m.qVars)).setCell ⟨w.heap.size, k * 5 + 2, none⟩ (.slice U2 m.qSites.length C2)).setCell ⟨w.heap.size, k * 5 + 3, none⟩ (.slice U3 m.qIns.length C3)).setCell ⟨w.heap.size, k * 5 + 4, none⟩ (.slice U4 m.qRows.length C4)).heap.size from by simp only [World.size_setCell]; exact hsz2)
      have Hrd := hide hrd; have Hog := hide hog; have Hown2 := hide hown2; have Hks := hide hks; have Hb2 := hide (Hb.out.trans (hb2.mono hbs)); clear hrd hog hown2 hks hb2 r2 r3 r4
      go_wp2
      go_roundw
      case rel =>
        refine ⟨k + 1, css.set k [.int .i64 m.qParams, .int .i64 m.qVars, .slice U2 m.qSites.length C2, .slice U3 m.qIns.length C3, .slice U4 m.qRows.length C4], by omega, by go_num, by rw [List.length_set]; exact Hcl.out, fun x hx => ?_, ?_, fun j hj hjk => ?_, ?_⟩
        · rcases List.mem_or_eq_of_mem_set hx with h | h
          · exact Hce.out x h
          · rw [h]; rfl
        · have := flatten_set css k [.int .i64 m.qParams, .int .i64 m.qVars, .slice U2 m.qSites.length C2, .slice U3 m.qIns.length C3, .slice U4 m.qRows.length C4] 5 Hce.out rfl (by rw [Hcl.out]; exact hlt)
          rw [← this]
          simp only [setAll, List.zipIdx, List.foldl]
          exact own_set (own_set (own_set (own_set (own_set Hown2.out (k * 5) _) (k * 5 + 1) _) (k * 5 + 2) _) (k * 5 + 3) _) (k * 5 + 4) _
        · by_cases ejk : j = k
          · subst ejk
            refine ⟨[.int .i64 m.qParams, .int .i64 m.qVars, .slice U2 m.qSites.length C2, .slice U3 m.qIns.length C3, .slice U4 m.qRows.length C4], by rw [List.getElem?_set_self (by rw [Hcl.out]; exact hlt)], ?_, ?_⟩
            · rw [Hm0.out]; exact RCode_stable.more (RCode_stable.keep Hrd.out HKF.out) hgb HZF.out
            · rw [Hm0.out]; exact OCode_stable.more (OCode_stable.keep Hog.out HKF.out) hgb HZF.out
          · obtain ⟨cs, h1, h2, h3⟩ := Hel2.out j hj (by omega)
            refine ⟨cs, by rw [List.getElem?_set, if_neg (by omega)]; exact h1, ?_, ?_⟩
            · exact RCode_stable.more (RCode_stable.keep h2 HKG.out) (Nat.le_refl _) HZG.out
            · exact OCode_stable.more (OCode_stable.keep h3 HKG.out) (Nat.le_refl _) HZG.out
        · exact (((((Hb2.out).setCell (by dsimp only; omega) _).setCell (by dsimp only; omega) _).setCell (by dsimp only; omega) _).setCell (by dsimp only; omega) _).setCell (by dsimp only; omega) _
      case measure => simp [intOf]; omega
    · obtain rfl : k = l.length := by omega
      have HF := hide (own_finish hcl hce hown (fun j h => hel j h h) RCode_stable OCode_stable); have Hb := hide hb
      clear hel hce hcl hown hb hown1 hb1
      go_wp2
      go_ret
      exact ⟨_, rfl, HF.out.1, HF.out.2, Hb.out⟩

set_option maxHeartbeats 1600000 in
theorem eqCode (cs cs2 : List Value) (m : CodeM) (w : World) (hr : RCode w 0 w.heap.size cs m) (hr2 : RCode w 0 w.heap.size cs2 m) :
    Calls Tryz.prog 58 #[.agg cs.toArray, .agg cs2.toArray] w fun e w' => e = .returned (.bool true) ∧ Below w.heap.size w w' := by
  obtain ⟨y2, y3, y4, rfl, g2, g3, g4⟩ := hr2
  obtain ⟨v2, v3, v4, rfl, h2, h3, h4⟩ := hr
  obtain ⟨m0, m1, l2, l3, l4⟩ := m
  dsimp only at *
  have hl2 := h2.long; have H2 := hide h2; have G2 := hide g2; clear h2 g2
  have hl3 := h3.long; have H3 := hide h3; have G3 := hide g3; clear h3 g3
  have hl4 := h4.long; have H4 := hide h4; have G4 := hide g4; clear h4 g4
  go_enter Tryz.func58, Tryz.ntmps58
  go_wp2_with fail
  refine (eqIntSB _ _ l2 _ (H2.out.rd.here (by go_grown)) (G2.out.rd.here (by go_grown)) hl2).mono ?_
  rintro e w1 ⟨rfl, hb⟩
  obtain ⟨k1, k2, hz1, kb⟩ := two_below hb
  have K1_1 := hide k1; have K2_1 := hide k2; have Kb1 := hide kb; clear k1 k2 kb hb
  have c1_0 := K1_1.out.cell 0; have c2_0 := K2_1.out.cell 0
  have c1_1 := K1_1.out.cell 1; have c2_1 := K2_1.out.cell 1
  have c1_2 := K1_1.out.cell 2; have c2_2 := K2_1.out.cell 2
  have c1_3 := K1_1.out.cell 3; have c2_3 := K2_1.out.cell 3
  have c1_4 := K1_1.out.cell 4; have c2_4 := K2_1.out.cell 4
  go_wp2_with fail
  refine (eqInsS _ _ l3 _ (H3.out.rd.here Kb1.out) (G3.out.rd.here Kb1.out) hl3).mono ?_
  rintro e w2 ⟨rfl, hb⟩
  clear c1_0 c2_0 c1_1 c2_1 c1_2 c2_2 c1_3 c2_3 c1_4 c2_4
  have K1_2 := hide (K1_1.out.below hb); have K2_2 := hide (K2_1.out.below hb); have Kb2 := hide (Kb1.out.trans (hb.mono Kb1.out.size)); clear hb
  have c1_0 := K1_2.out.cell 0; have c2_0 := K2_2.out.cell 0
  have c1_1 := K1_2.out.cell 1; have c2_1 := K2_2.out.cell 1
  have c1_2 := K1_2.out.cell 2; have c2_2 := K2_2.out.cell 2
  have c1_3 := K1_2.out.cell 3; have c2_3 := K2_2.out.cell 3
  have c1_4 := K1_2.out.cell 4; have c2_4 := K2_2.out.cell 4
  go_wp2_with fail
  refine (eqRowS _ _ l4 _ (H4.out.rd.here Kb2.out) (G4.out.rd.here Kb2.out) hl4).mono ?_
  rintro e w3 ⟨rfl, hb⟩
  clear c1_0 c2_0 c1_1 c2_1 c1_2 c2_2 c1_3 c2_3 c1_4 c2_4
  have K1_3 := hide (K1_2.out.below hb); have K2_3 := hide (K2_2.out.below hb); have Kb3 := hide (Kb2.out.trans (hb.mono Kb2.out.size)); clear hb
  have c1_0 := K1_3.out.cell 0; have c2_0 := K2_3.out.cell 0
  have c1_1 := K1_3.out.cell 1; have c2_1 := K2_3.out.cell 1
  have c1_2 := K1_3.out.cell 2; have c2_2 := K2_3.out.cell 2
  have c1_3 := K1_3.out.cell 3; have c2_3 := K2_3.out.cell 3
  have c1_4 := K1_3.out.cell 4; have c2_4 := K2_3.out.cell 4
  go_wp2
  go_ret
  exact ⟨rfl, Kb3.out⟩

set_option maxHeartbeats 1600000 in
theorem eqCodeS (v v2 : Value) (l : List CodeM) (w : World) (hr : RL RCode 5 w 0 w.heap.size v l) (hr2 : RL RCode 5 w 0 w.heap.size v2 l) :
    Calls Tryz.prog 26 #[v, v2] w fun e w' => e = .returned (.bool true) ∧ Below w.heap.size w w' := by
  have hl := hr.long
  obtain ⟨A, c, rfl⟩ := hr.form
  obtain ⟨A2, c2, rfl⟩ := hr2.form
  have Hr := hide hr; have Hr2 := hide hr2; clear hr hr2
  go_enter Tryz.func26, Tryz.ntmps26
  go_wp2
  go_loopw [5] (fun i wr => ∃ k : Nat, k ≤ l.length ∧ i = .int .i64 k ∧ Below w.heap.size w wr) (fun i _ => l.length - (intOf i).toNat)
  case atStart => exact ⟨0, by omega, rfl, Below.refl _ _⟩
  case round =>
    obtain ⟨k, hk, rfl, hb⟩ := hrel
    by_cases hlt : k < l.length
    · obtain ⟨b, o, v2, v3, v4, rfl, hbB, e0, e1, e2, e3, e4, hx⟩ := RCode_at (Hr.out.here RCode_stable hb) hlt
      obtain ⟨b2, o2, y2, y3, y4, rfl, hbB2, d0, d1, d2, d3, d4, hx2⟩ := RCode_at (Hr2.out.here RCode_stable hb) hlt
      have Hb := hide hb; have hbs := hb.size
      have Hx := hide (RCode_stable.here hx ((Below.refl _ _).drew)); have Hx2 := hide (RCode_stable.here hx2 ((Below.refl _ _).drew)); clear hb Hr Hr2 hx hx2
      generalize l[k] = m at *
      go_wp2_with fail
      go_still_tail 8, (by kernel_rfl)
      change wpList _ _ _ _ _ wr.drew
      go_wp2_with fail
      refine (eqCode _ _ m _ Hx.out Hx2.out).mono ?_
      rintro e w2 ⟨rfl, hb2⟩
      have Hb2 := hide ((Hb.out.drew).trans (hb2.mono hbs)); clear hb2
      go_wp2
      go_roundw
      case rel => exact ⟨k + 1, by omega, by go_num, Hb2.out⟩
      case measure => simp [intOf]; omega
    · obtain rfl : k = l.length := by omega
      go_wp2
      go_ret
      exact ⟨rfl, hb⟩
end Go.Proofs.YtaebmliolpgmdaaGreat
