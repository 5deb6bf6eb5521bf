
/- TakesPuts: what the Go text returns. No condition. -/
import Derived.Test.YtaebmliolpgmdaaGreatIm2
import Derived.Test.YtaebmliolpgmdaaGreatBlk
set_option linter.unusedSimpArgs false
set_option linter.unusedVariables false
set_option maxRecDepth 100000
namespace Go.Proofs.YtaebmliolpgmdaaGreat
open Go.RowKit

theorem all_step {α : Type} {p : α → Bool} {l : List α} {k : Nat} (h : k < l.length) : (l.drop k).all p = (p l[k] && (l.drop (k + 1)).all p) := by
  rw [List.drop_eq_getElem_cons h]; rfl
theorem codeOk_not {c : CodeM} (h : ¬ ((0 ≤ c.qParams ∧ c.qParams ≤ 2) ∧ (c.qParams ≤ c.qVars ∧ c.qVars ≤ 6) ∧ c.qSites.length ≤ 4 ∧ (1 ≤ c.qIns.length ∧ c.qIns.length ≤ 300) ∧ c.qRows.length ≤ 300)) : codeOk c = false := by
  cases g : codeOk c with
  | false => rfl
  | true => obtain ⟨a, b, c, d, e, _⟩ := codeOk_iff.1 g; exact absurd ⟨a, b, c, d, e⟩ h
theorem codeOk_ins {c : CodeM} (h : (0 ≤ c.qParams ∧ c.qParams ≤ 2) ∧ (c.qParams ≤ c.qVars ∧ c.qVars ≤ 6) ∧ c.qSites.length ≤ 4 ∧ (1 ≤ c.qIns.length ∧ c.qIns.length ≤ 300) ∧ c.qRows.length ≤ 300) : codeOk c = c.qIns.all insOk := by
  obtain ⟨a, b, c1, d, e⟩ := h
  unfold codeOk
  rw [inB_yes a.1 a.2, inB_yes b.1 b.2, decide_eq_true c1, inB_yes (by omega) (by omega), decide_eq_true e]
  simp
theorem sized_no {l : List CodeM} {k : Nat} (h : k < l.length) (hall : l.all codeOk = (l.drop k).all codeOk) (hc : codeOk l[k] = false) : sizedB l = false := by
  unfold sizedB; rw [hall, all_step h, hc]; simp

set_option maxHeartbeats 3200000 in
theorem spec_l5Sized (cs : List Value) (x : ImageM) (w : World) (hr : RImage w 0 w.heap.size cs x) :
    Calls Tryz.prog 41 #[.agg cs.toArray] w fun e w' => e = .returned (.bool (sizedB x.qCodes)) ∧ Below w.heap.size w w' := by
  obtain ⟨v0, rfl, h0⟩ := hr
  obtain ⟨l⟩ := x
  dsimp only at *
  have hl := h0.long
  obtain ⟨A, c, rfl⟩ := h0.form
  have Hr := hide h0; clear h0
  go_enter Tryz.func41, Tryz.ntmps41
  go_wp2
  go_loopw [10] (fun i wr => ∃ k : Nat, k ≤ l.length ∧ i = .int .i64 k ∧ l.all codeOk = (l.drop k).all codeOk ∧ Below w.heap.size w wr ∧ Bk wr w.heap.size 31 #[.slice A l.length c]) (fun i _ => l.length - (intOf i).toNat)
  case atStart => exact ⟨0, by omega, rfl, rfl, (Below.refl _ _).alloc (Nat.le_refl _) _, Bk.new _ _ _⟩
  case round =>
    obtain ⟨k, hk, rfl, hall, hb, hbk⟩ := hrel
    by_cases hlt : k < l.length
    case neg =>
      obtain rfl : k = l.length := by omega
      have hall' : l.all codeOk = true := by rw [hall, List.drop_length]; rfl
      have Ha := hide hall'; clear hall hall'
      have c0 := hbk.cell 0
      go_wp2_with (go_at_call 42; refine (spec_l1In _ _ _ _).mono ?_; rintro e w' ⟨rfl, rfl⟩)
      go_ret
      exact ⟨retB (by unfold sizedB; rw [Ha.out, Bool.and_true]), hb⟩
    obtain ⟨b, o, v2, v3, v4, rfl, hbB, e0, e1, e2, e3, e4, hx⟩ := RCode_at (Hr.out.here RCode_stable hb) hlt
    have hno := sized_no hlt hall
    rw [all_step hlt] at hall
    have hnot := @codeOk_not l[k]
    have hins := @codeOk_ins l[k]
    obtain ⟨_, _, _, e, h2, h3, h4⟩ := hx
    cases e
    generalize l[k] = m at *
    obtain ⟨m0, m1, l2, l3, l4⟩ := m
    dsimp only at *
    obtain ⟨A2, C2, rfl⟩ := h2.form
    obtain ⟨A3, C3, rfl⟩ := h3.form
    obtain ⟨A4, C4, rfl⟩ := h4.form
    have n2 := h2.long
    have n3 := h3.long
    have n4 := h4.long
    have H3 := hide h3
    have Hb := hide hb; have Hbk := hide hbk
    have Hno := hide (fun h => hno (hnot h)); have Hall := hide hall; have Hins := hide hins; have HnoI := hide hno
    clear h2 h3 h4 hb hbk hno hall hnot hins
    by_cases a1 : 0 ≤ m0 ∧ m0 ≤ 2
    case neg =>
      have HF := hide (Hno.out (by omega))
      have g' : m0 < 0 ∨ 2 < m0 := by omega
      go_wp2_with (go_at_call 42; refine (spec_l1In_no _ _ _ g' _).mono ?_; rintro e w' ⟨rfl, rfl⟩)
      go_ret
      exact ⟨retB HF.out.symm, Hb.out.alloc Hb.out.size _⟩
    obtain ⟨g1a, g1b⟩ := a1
    by_cases a2 : m0 ≤ m1 ∧ m1 ≤ 6
    case neg =>
      have HF := hide (Hno.out (by omega))
      have g' : m1 < m0 ∨ 6 < m1 := by omega
      go_wp2_with (go_at_call 42; first | ((with_reducible refine (spec_l1In_yes m0 0 2 g1a g1b _).mono ?_); rintro e w' ⟨rfl, rfl⟩) | ((with_reducible refine (spec_l1In_no m1 m0 6 g' _).mono ?_); rintro e w' ⟨rfl, rfl⟩))
      go_ret
      exact ⟨retB HF.out.symm, Hb.out.alloc Hb.out.size _⟩
    obtain ⟨g2a, g2b⟩ := a2
    by_cases a3 : l2.length ≤ 4
    case neg =>
      have HF := hide (Hno.out (by omega))
      go_wp2_with (go_at_call 42; first | ((with_reducible refine (spec_l1In_yes m0 0 2 g1a g1b _).mono ?_); rintro e w' ⟨rfl, rfl⟩) | ((with_reducible refine (spec_l1In_yes m1 m0 6 g2a g2b _).mono ?_); rintro e w' ⟨rfl, rfl⟩))
      go_ret
      exact ⟨retB HF.out.symm, Hb.out.alloc Hb.out.size _⟩
    by_cases a4 : (1 : Int) ≤ l3.length ∧ (l3.length : Int) ≤ 300
    case neg =>
      have HF := hide (Hno.out (by omega))
      have g' : (l3.length : Int) < 1 ∨ 300 < (l3.length : Int) := by omega
      go_wp2_with (go_at_call 42; first | ((with_reducible refine (spec_l1In_yes m0 0 2 g1a g1b _).mono ?_); rintro e w' ⟨rfl, rfl⟩) | ((with_reducible refine (spec_l1In_yes m1 m0 6 g2a g2b _).mono ?_); rintro e w' ⟨rfl, rfl⟩) | ((with_reducible refine (spec_l1In_no _ 1 300 g' _).mono ?_); rintro e w' ⟨rfl, rfl⟩))
      go_ret
      exact ⟨retB HF.out.symm, Hb.out.alloc Hb.out.size _⟩
    obtain ⟨g4a, g4b⟩ := a4
    by_cases a5 : l4.length ≤ 300
    case neg =>
      have HF := hide (Hno.out (by omega))
      go_wp2_with (go_at_call 42; first | ((with_reducible refine (spec_l1In_yes m0 0 2 g1a g1b _).mono ?_); rintro e w' ⟨rfl, rfl⟩) | ((with_reducible refine (spec_l1In_yes m1 m0 6 g2a g2b _).mono ?_); rintro e w' ⟨rfl, rfl⟩) | ((with_reducible refine (spec_l1In_yes _ 1 300 g4a g4b _).mono ?_); rintro e w' ⟨rfl, rfl⟩))
      go_ret
      exact ⟨retB HF.out.symm, Hb.out.alloc Hb.out.size _⟩
    have hI := Hins.out ⟨⟨g1a, g1b⟩, ⟨g2a, g2b⟩, a3, ⟨by omega, by omega⟩, a5⟩
    have HI := hide hI; clear hI Hno Hins
    go_wp2_with (go_at_call 42; first | ((with_reducible refine (spec_l1In_yes m0 0 2 g1a g1b _).mono ?_); rintro e w' ⟨rfl, rfl⟩) | ((with_reducible refine (spec_l1In_yes m1 m0 6 g2a g2b _).mono ?_); rintro e w' ⟨rfl, rfl⟩) | ((with_reducible refine (spec_l1In_yes _ 1 300 g4a g4b _).mono ?_); rintro e w' ⟨rfl, rfl⟩))
    go_loopw [48] (fun i w2 => ∃ j : Nat, j ≤ l3.length ∧ i = .int .i64 j ∧ l3.all insOk = (l3.drop j).all insOk ∧ Below wr.heap.size wr w2) (fun i _ => l3.length - (intOf i).toNat)
    case atStart => exact ⟨0, by omega, rfl, rfl, (Below.refl _ _).alloc (Nat.le_refl _) _⟩
    case round =>
      obtain ⟨j, hj, rfl, hal, hb2⟩ := hrel
      by_cases hjl : j < l3.length
      case neg =>
        obtain rfl : j = l3.length := by omega
        have hal' : l3.all insOk = true := by rw [hal, List.drop_length]; rfl
        have HC := hide (HI.out.trans hal'); clear hal hal'
        have Hb2 := hide hb2; clear hb2
        go_wp2
        go_roundw
        case rel => exact ⟨k + 1, by omega, by go_num, by rw [Hall.out, HC.out, Bool.true_and], Hb.out.trans (Hb2.out.mono Hb.out.size), Hbk.out.below Hb2.out⟩
        case measure => simp [intOf]; omega
      obtain ⟨b', o', e, hbB', s0, s1⟩ := ((H3.out.here hb2).rd).two hjl
      cases e
      rw [all_step hjl] at hal
      generalize l3[j] = t at *
      obtain ⟨p, q⟩ := t
      dsimp only at *
      have Hal := hide hal; have Hb2 := hide hb2; have Hb2s := hb2.size; clear hal hb2
      go_wp2_with fail
      refine (spec_l5Ins p q _).mono ?_
      rintro e w3 ⟨rfl, hb3⟩
      have Hb3 := hide (Hb2.out.trans ((below_box hb3).mono Hb2s)); clear hb3
      cases hq : insOk ⟨p, q⟩ with
      | true =>
        rw [hq, Bool.true_and] at Hal
        go_wp2
        go_roundw
        case rel => exact ⟨j + 1, by omega, by go_num, Hal.out, Hb3.out⟩
        case measure => simp [intOf]; omega
      | false =>
        rw [hq, Bool.false_and] at Hal
        have HF := hide (HnoI.out (HI.out.trans Hal.out))
        go_wp2
        go_ret
        exact ⟨retB HF.out.symm, Hb.out.trans (Hb3.out.mono Hb.out.size)⟩
end Go.Proofs.YtaebmliolpgmdaaGreat
