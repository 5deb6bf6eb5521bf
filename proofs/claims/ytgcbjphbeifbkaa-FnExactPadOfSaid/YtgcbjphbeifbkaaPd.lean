
/- PadOf: what the Go text returns. No condition. -/
import Derived.Test.YtgcbjphbeifbkaaNdCode
import Derived.Test.YtgcbjphbeifbkaaIn
set_option linter.unusedSimpArgs false
set_option linter.unusedVariables false
set_option maxRecDepth 100000
namespace Go.Proofs.Ytgcbjphbeifbkaa
open Go.RowKit

def padW (l : List P2) : Nat → Nat
  | 0 => 0
  | n + 1 => if (l.getD n ⟨0, 0⟩).o = 17 then padW l n else n + 1
theorem padW_yes {l : List P2} {n : Nat} (h : n < l.length) (h2 : l[n].o = 17) : padW l (n + 1) = padW l n := by
  simp only [padW]; rw [if_pos (by simpa [List.getD, List.getElem?_eq_getElem h] using h2)]
theorem padW_no {l : List P2} {n : Nat} (h : n < l.length) (h2 : l[n].o ≠ 17) : padW l (n + 1) = n + 1 := by
  simp only [padW]; rw [if_neg (by simpa [List.getD, List.getElem?_eq_getElem h] using h2)]
def padB (c : CodeM) : Bool := inB c.qIns.length 1 300 && decide ((c.qIns.getD (c.qIns.length - 1) ⟨0, 0⟩).o = 18)
def padR (c : CodeM) : Int × Bool := if padB c = true then (((padW c.qIns (c.qIns.length - 1) : Nat) : Int), true) else (0, false)
theorem padR_no {c : CodeM} (h : padB c = false) : padR c = (0, false) := by unfold padR; rw [h]; rfl
theorem padR_yes {c : CodeM} (h : padB c = true) : padR c = (((padW c.qIns (c.qIns.length - 1) : Nat) : Int), true) := by unfold padR; rw [h]; rfl
theorem padB_long {c : CodeM} (h : (c.qIns.length : Int) < 1 ∨ 300 < (c.qIns.length : Int)) : padB c = false := by unfold padB; rw [inB_no h]; rfl
theorem padB_op {c : CodeM} (h1 : (1 : Int) ≤ c.qIns.length) (h2 : (c.qIns.length : Int) ≤ 300) (h : c.qIns.length - 1 < c.qIns.length) : padB c = decide (c.qIns[c.qIns.length - 1].o = 18) := by
  unfold padB; rw [inB_yes h1 h2, Bool.true_and]; simp [List.getD, List.getElem?_eq_getElem h]
theorem retPad {p : Int × Bool} {a : Int} {b : Bool} (h : p = (a, b)) : Ending.returned (.tuple #[.int .i64 a, .bool b]) = .returned (.tuple #[.int .i64 p.1, .bool p.2]) := by rw [h]

set_option maxHeartbeats 1600000 in
theorem impl_PadOf (cs : List Value) (c : CodeM) (w : World) (hr : RCode w 0 w.heap.size cs c) :
    Calls Try.prog 34 #[.agg cs.toArray] w fun e w' => e = .returned (.tuple #[.int .i64 (padR c).1, .bool (padR c).2]) ∧ Below w.heap.size w w' := by
  obtain ⟨v2, v3, v4, rfl, h2, h3, h4⟩ := hr
  obtain ⟨A3, c3, hv3⟩ := h3.form
  subst hv3
  have n3 := h3.long
  have hb := (Below.refl w.heap.size w).alloc (Nat.le_refl _) (.cells #[.int .i64 c.qParams, .int .i64 c.qVars, v2, .slice A3 c.qIns.length c3, v4] 58)
  have hN := @padR_no c
  have hY := @padR_yes c
  have hL := @padB_long c
  have hO := @padB_op c
  generalize padR c = R at *
  generalize padB c = PB at *
  obtain ⟨m0, m1, l2, l, l4⟩ := c
  dsimp only at *
  have Hr := hide (h3.here hb).rd; have Hb := hide hb; clear h2 h3 h4 hb
  by_cases g : (1 : Int) ≤ l.length ∧ (l.length : Int) ≤ 300
  case neg =>
    have g' : (l.length : Int) < 1 ∨ 300 < (l.length : Int) := by omega
    have HR := hide (hN (hL g')); clear hN hY hL hO g
    go_enter Try.func34, Try.ntmps34
    go_wp2_with (go_at_call 54; refine (impl_within_no _ _ _ g' _).mono ?_; rintro e w' ⟨rfl, rfl⟩)
    go_ret2
    exact ⟨retPad HR.out, Hb.out⟩
  obtain ⟨ga, gb⟩ := g
  have hlast : l.length - 1 < l.length := by omega
  have hO' := hO ga gb hlast
  obtain ⟨b, o, rfl, hbB, s0, s1⟩ := Hr.out.two hlast
  have q1 : ((l.length : Int) - 1).toNat = l.length - 1 := by omega
  by_cases h18 : l[l.length - 1].o = 18
  case neg =>
    rw [decide_eq_false h18] at hO'
    have b18 : (l[l.length - 1].o != 18) = true := by rw [bne_iff_ne]; exact h18
    have HR := hide (hN hO'); clear hN hY hL hO h18 hO'
    generalize l[l.length - 1] = t at *
    go_enter Try.func34, Try.ntmps34
    go_wp2_with (go_at_call 54; refine (impl_within_yes _ _ _ ga gb _).mono ?_; rintro e w' ⟨rfl, rfl⟩)
    go_ret2
    exact ⟨retPad HR.out, Hb.out⟩
  rw [decide_eq_true h18] at hO'
  have HR := hide (hY hO'); clear hN hY hL hO hO'
  rw [h18] at s0
  clear h18
  go_enter Try.func34, Try.ntmps34
  go_wp2_with (go_at_call 54; refine (impl_within_yes _ _ _ ga gb _).mono ?_; rintro e w' ⟨rfl, rfl⟩)
  go_loop [4] (fun at_ => ∃ k : Nat, k < l.length ∧ at_ = .int .i64 k ∧ padW l k = padW l (l.length - 1)) (fun at_ => (intOf at_).toNat)
  case atStart => exact ⟨l.length - 1, by omega, congrArg (Value.int .i64) (by omega), rfl⟩
  case round =>
    obtain ⟨k, hk, rfl, hw⟩ := hrel
    clear s0 s1
    rcases k with _ | k
    · have HW := hide (hw.symm.trans (show padW l 0 = 0 from rfl)); clear hw
      go_wp2
      go_ret2
      exact ⟨retPad (by rw [HR.out, HW.out]; rfl), Hb.out⟩
    · have hkl : k < l.length := by omega
      obtain ⟨_, _, e, _, s0, s1⟩ := Hr.out.two hkl
      cases e
      have hy := fun h => (padW_yes hkl h).symm.trans hw
      have hn := fun h => hw.symm.trans (padW_no hkl h)
      have q2 : ((k : Int) + 1 - 1).toNat = k := by omega
      generalize l[k] = t at *
      by_cases h17 : t.o = 17
      · have HW := hide (hy h17); clear hy hn hw
        rw [h17] at s0
        clear h17
        go_wp2
        go_round
        case rel => exact ⟨k, by omega, congrArg (Value.int .i64) (by omega), HW.out⟩
        case measure => simp [intOf]
      · have HW := hide (hn h17); clear hy hn hw
        have b17 : (t.o == 17) = false := by rw [beq_eq_false_iff_ne]; exact h17
        clear h17
        go_wp2
        go_ret2
        exact ⟨retPad (by rw [HR.out, HW.out]; rfl), Hb.out⟩
set_option maxHeartbeats 1600000 in
theorem spec_PadOf (cs : List Value) (c : CodeM) (w : World) (hr : RCode w 0 w.heap.size cs c) :
    Calls Try.prog 32 #[.agg cs.toArray] w fun e w' => e = .returned (.tuple #[.int .i64 (padR c).1, .bool (padR c).2]) ∧ Below w.heap.size w w' := by
  obtain ⟨v2, v3, v4, rfl, h2, h3, h4⟩ := hr
  obtain ⟨A3, c3, hv3⟩ := h3.form
  subst hv3
  have n3 := h3.long
  have hb := (Below.refl w.heap.size w).alloc (Nat.le_refl _) (.cells #[.int .i64 c.qParams, .int .i64 c.qVars, v2, .slice A3 c.qIns.length c3, v4] 58)
  have hN := @padR_no c
  have hY := @padR_yes c
  have hL := @padB_long c
  have hO := @padB_op c
  generalize padR c = R at *
  generalize padB c = PB at *
  obtain ⟨m0, m1, l2, l, l4⟩ := c
  dsimp only at *
  have Hr := hide (h3.here hb).rd; have Hb := hide hb; clear h2 h3 h4 hb
  by_cases g : (1 : Int) ≤ l.length ∧ (l.length : Int) ≤ 300
  case neg =>
    have g' : (l.length : Int) < 1 ∨ 300 < (l.length : Int) := by omega
    have HR := hide (hN (hL g')); clear hN hY hL hO g
    go_enter Try.func32, Try.ntmps32
    go_wp2_with (go_at_call 52; refine (spec_l1In_no _ _ _ g' _).mono ?_; rintro e w' ⟨rfl, rfl⟩)
    go_ret2
    exact ⟨retPad HR.out, Hb.out⟩
  obtain ⟨ga, gb⟩ := g
  have hlast : l.length - 1 < l.length := by omega
  have hO' := hO ga gb hlast
  obtain ⟨b, o, rfl, hbB, s0, s1⟩ := Hr.out.two hlast
  have q1 : ((l.length : Int) - 1).toNat = l.length - 1 := by omega
  by_cases h18 : l[l.length - 1].o = 18
  case neg =>
    rw [decide_eq_false h18] at hO'
    have b18 : (l[l.length - 1].o != 18) = true := by rw [bne_iff_ne]; exact h18
    have HR := hide (hN hO'); clear hN hY hL hO h18 hO'
    generalize l[l.length - 1] = t at *
    go_enter Try.func32, Try.ntmps32
    go_wp2_with (go_at_call 52; refine (spec_l1In_yes _ _ _ ga gb _).mono ?_; rintro e w' ⟨rfl, rfl⟩)
    go_ret2
    exact ⟨retPad HR.out, Hb.out⟩
  rw [decide_eq_true h18] at hO'
  have HR := hide (hY hO'); clear hN hY hL hO hO'
  rw [h18] at s0
  clear h18
  go_enter Try.func32, Try.ntmps32
  go_wp2_with (go_at_call 52; refine (spec_l1In_yes _ _ _ ga gb _).mono ?_; rintro e w' ⟨rfl, rfl⟩)
  go_loop [5] (fun at_ => ∃ k : Nat, k < l.length ∧ at_ = .int .i64 k ∧ padW l k = padW l (l.length - 1)) (fun at_ => (intOf at_).toNat)
  case atStart => exact ⟨l.length - 1, by omega, congrArg (Value.int .i64) (by omega), rfl⟩
  case round =>
    obtain ⟨k, hk, rfl, hw⟩ := hrel
    clear s0 s1
    rcases k with _ | k
    · have HW := hide (hw.symm.trans (show padW l 0 = 0 from rfl)); clear hw
      go_wp2
      go_ret2
      exact ⟨retPad (by rw [HR.out, HW.out]; rfl), Hb.out⟩
    · have hkl : k < l.length := by omega
      obtain ⟨_, _, e, _, s0, s1⟩ := Hr.out.two hkl
      cases e
      have hy := fun h => (padW_yes hkl h).symm.trans hw
      have hn := fun h => hw.symm.trans (padW_no hkl h)
      have q2 : ((k : Int) + 1 - 1).toNat = k := by omega
      generalize l[k] = t at *
      by_cases h17 : t.o = 17
      · have HW := hide (hy h17); clear hy hn hw
        rw [h17] at s0
        clear h17
        go_wp2
        go_round
        case rel => exact ⟨k, by omega, congrArg (Value.int .i64) (by omega), HW.out⟩
        case measure => simp [intOf]
      · have HW := hide (hn h17); clear hy hn hw
        have b17 : (t.o == 17) = false := by rw [beq_eq_false_iff_ne]; exact h17
        clear h17
        go_wp2
        go_ret2
        exact ⟨retPad (by rw [HR.out, HW.out]; rfl), Hb.out⟩
end Go.Proofs.Ytgcbjphbeifbkaa
