
/- TakesPuts: what the Go text returns. No condition. -/
import Derived.Test.YtgkjakoagdkpcaaGreatDoorImP
import Derived.Test.YtgkjakoagdkpcaaGreatDoorBlk
set_option linter.unusedSimpArgs false
set_option linter.unusedVariables false
set_option maxRecDepth 100000
namespace Go.Proofs.YtgkjakoagdkpcaaGreatDoor
open Go.RowKit

theorem all_step {α : Type} {p : α → Bool} {l : List α} {k : Nat} (h : k < l.length) : (l.drop k).all p = (p l[k] && (l.drop (k + 1)).all p) := by
  rw [List.drop_eq_getElem_cons h]; rfl
theorem codeOk_not {c : CodeM} (h : ¬ ((0 ≤ c.qParams ∧ c.qParams ≤ 2) ∧ (c.qParams ≤ c.qVars ∧ c.qVars ≤ 6) ∧ c.qSites.length ≤ 4 ∧ (1 ≤ c.qIns.length ∧ c.qIns.length ≤ 300) ∧ c.qRows.length ≤ 300)) : codeOk c = false := by
  cases g : codeOk c with
  | false => rfl
  | true => obtain ⟨a, b, c, d, e, _⟩ := codeOk_iff.1 g; exact absurd ⟨a, b, c, d, e⟩ h
theorem codeOk_ins {c : CodeM} (h : (0 ≤ c.qParams ∧ c.qParams ≤ 2) ∧ (c.qParams ≤ c.qVars ∧ c.qVars ≤ 6) ∧ c.qSites.length ≤ 4 ∧ (1 ≤ c.qIns.length ∧ c.qIns.length ≤ 300) ∧ c.qRows.length ≤ 300) : codeOk c = c.qIns.all insOk := by
  obtain ⟨a, b, c1, d, e⟩ := h
  unfold codeOk
  rw [inB_yes a.1 a.2, inB_yes b.1 b.2, decide_eq_true c1, inB_yes (by omega) (by omega), decide_eq_true e]
  simp
theorem sized_no {l : List CodeM} {k : Nat} (h : k < l.length) (hall : l.all codeOk = (l.drop k).all codeOk) (hc : codeOk l[k] = false) : sizedB l = false := by
  unfold sizedB; rw [hall, all_step h, hc]; simp

set_option maxHeartbeats 3200000 in
theorem spec_l5Sized (cs : List Value) (x : ImageM) (w : World) (hr : RImage w 0 w.heap.size cs x) :
    Calls Tryz.prog 27 #[.agg cs.toArray] w fun e w' => e = .returned (.bool (sizedB x.qCodes)) ∧ Below w.heap.size w w' := by
  obtain ⟨v0, rfl, h0⟩ := hr
  obtain ⟨l⟩ := x
  dsimp only at *
  have hl := h0.long
  obtain ⟨A, c, rfl⟩ := h0.form
  have Hr := hide h0; clear h0
  go_enter Tryz.func27, Tryz.ntmps27
  go_wp2
  go_loopw [10] (fun i wr => ∃ k : Nat, k ≤ l.length ∧ i = .int .i64 k ∧ l.all codeOk = (l.drop k).all codeOk ∧ Below w.heap.size w wr ∧ Bk wr w.heap.size 26 #[.slice A l.length c]) (fun i _ => l.length - (intOf i).toNat)
  case atStart => exact ⟨0, by omega, rfl, rfl, (Below.refl _ _).alloc (Nat.le_refl _) _, Bk.new _ _ _⟩
  case round =>
    obtain ⟨k, hk, rfl, hall, hb, hbk⟩ := hrel
    by_cases hlt : k < l.length
    case neg =>
      obtain rfl : k = l.length := by omega
      have hall' : l.all codeOk = true := by rw [hall, List.drop_length]; rfl
      have Ha := hide hall'; clear hall hall'
      have c0 := hbk.cell 0
      go_wp2_with (go_at_call 28; refine (spec_l1In _ _ _ _).mono ?_; rintro e w' ⟨rfl, rfl⟩)
      go_ret
      exact ⟨retB (by unfold sizedB; rw [Ha.out, Bool.and_true]), hb⟩
    obtain ⟨b, o, v2, v3, v4, rfl, hbB, e0, e1, e2, e3, e4, hx⟩ := RCode_at (Hr.out.here RCode_stable hb) hlt
    have hno := sized_no hlt hall
    rw [all_step hlt] at hall
    have hnot := @codeOk_not l[k]
    have hins := @codeOk_ins l[k]
    obtain ⟨_, _, _, e, h2, h3, h4⟩ := hx
    cases e
    generalize l[k] = m at *
    obtain ⟨m0, m1, l2, l3, l4⟩ := m
    dsimp only at *
    obtain ⟨A2, C2, rfl⟩ := h2.form
    obtain ⟨A3, C3, rfl⟩ := h3.form
    obtain ⟨A4, C4, rfl⟩ := h4.form
    have n2 := h2.long
    have n3 := h3.long
    have n4 := h4.long
    have H3 := hide h3
    have Hb := hide hb; have Hbk := hide hbk
    have Hno := hide (fun h => hno (hnot h)); have Hall := hide hall; have Hins := hide hins; have HnoI := hide hno
    clear h2 h3 h4 hb hbk hno hall hnot hins
    by_cases a1 : 0 ≤ m0 ∧ m0 ≤ 2
    case neg =>
      have HF := hide (Hno.out (by omega))
      have g' : m0 < 0 ∨ 2 < m0 := by omega
      go_wp2_with (go_at_call 28; refine (spec_l1In_no _ _ _ g' _).mono ?_; rintro e w' ⟨rfl, rfl⟩)
      go_ret
      exact ⟨retB HF.out.symm, Hb.out.alloc Hb.out.size _⟩
    obtain ⟨g1a, g1b⟩ := a1
    by_cases a2 : m0 ≤ m1 ∧ m1 ≤ 6
    case neg =>
      have HF := hide (Hno.out (by omega))
      have g' : m1 < m0 ∨ 6 < m1 := by omega
      go_wp2_with (go_at_call 28; first | ((with_reducible refine (spec_l1In_yes m0 0 2 g1a g1b _).mono ?_); rintro e w' ⟨rfl, rfl⟩) | ((with_reducible refine (spec_l1In_no m1 m0 6 g' _).mono ?_); rintro e w' ⟨rfl, rfl⟩))
      go_ret
      exact ⟨retB HF.out.symm, Hb.out.alloc Hb.out.size _⟩
    obtain ⟨g2a, g2b⟩ := a2
    by_cases a3 : l2.length ≤ 4
    case neg =>
      have HF := hide (Hno.out (by omega))
      go_wp2_with (go_at_call 28; first | ((with_reducible refine (spec_l1In_yes m0 0 2 g1a g1b _).mono ?_); rintro e w' ⟨rfl, rfl⟩) | ((with_reducible refine (spec_l1In_yes m1 m0 6 g2a g2b _).mono ?_); rintro e w' ⟨rfl, rfl⟩))
      go_ret
      exact ⟨retB HF.out.symm, Hb.out.alloc Hb.out.size _⟩
    by_cases a4 : (1 : Int) ≤ l3.length ∧ (l3.length : Int) ≤ 300
    case neg =>
      have HF := hide (Hno.out (by omega))
      have g' : (l3.length : Int) < 1 ∨ 300 < (l3.length : Int) := by omega
      go_wp2_with (go_at_call 28; first | ((with_reducible refine (spec_l1In_yes m0 0 2 g1a g1b _).mono ?_); rintro e w' ⟨rfl, rfl⟩) | ((with_reducible refine (spec_l1In_yes m1 m0 6 g2a g2b _).mono ?_); rintro e w' ⟨rfl, rfl⟩) | ((with_reducible refine (spec_l1In_no _ 1 300 g' _).mono ?_); rintro e w' ⟨rfl, rfl⟩))
      go_ret
      exact ⟨retB HF.out.symm, Hb.out.alloc Hb.out.size _⟩
    obtain ⟨g4a, g4b⟩ := a4
    by_cases a5 : l4.length ≤ 300
    case neg =>
      have HF := hide (Hno.out (by omega))
      go_wp2_with (go_at_call 28; first | ((with_reducible refine (spec_l1In_yes m0 0 2 g1a g1b _).mono ?_); rintro e w' ⟨rfl, rfl⟩) | ((with_reducible refine (spec_l1In_yes m1 m0 6 g2a g2b _).mono ?_); rintro e w' ⟨rfl, rfl⟩) | ((with_reducible refine (spec_l1In_yes _ 1 300 g4a g4b _).mono ?_); rintro e w' ⟨rfl, rfl⟩))
      go_ret
      exact ⟨retB HF.out.symm, Hb.out.alloc Hb.out.size _⟩
    have hI := Hins.out ⟨⟨g1a, g1b⟩, ⟨g2a, g2b⟩, a3, ⟨by omega, by omega⟩, a5⟩
    have HI := hide hI; clear hI Hno Hins
    go_wp2_with (go_at_call 28; first | ((with_reducible refine (spec_l1In_yes m0 0 2 g1a g1b _).mono ?_); rintro e w' ⟨rfl, rfl⟩) | ((with_reducible refine (spec_l1In_yes m1 m0 6 g2a g2b _).mono ?_); rintro e w' ⟨rfl, rfl⟩) | ((with_reducible refine (spec_l1In_yes _ 1 300 g4a g4b _).mono ?_); rintro e w' ⟨rfl, rfl⟩))
    go_loopw [48] (fun i w2 => ∃ j : Nat, j ≤ l3.length ∧ i = .int .i64 j ∧ l3.all insOk = (l3.drop j).all insOk ∧ Below wr.heap.size wr w2) (fun i _ => l3.length - (intOf i).toNat)
    case atStart => exact ⟨0, by omega, rfl, rfl, (Below.refl _ _).alloc (Nat.le_refl _) _⟩
    case round =>
      obtain ⟨j, hj, rfl, hal, hb2⟩ := hrel
      by_cases hjl : j < l3.length
      case neg =>
        obtain rfl : j = l3.length := by omega
        have hal' : l3.all insOk = true := by rw [hal, List.drop_length]; rfl
        have HC := hide (HI.out.trans hal'); clear hal hal'
        have Hb2 := hide hb2; clear hb2
        go_wp2
        go_roundw
        case rel => exact ⟨k + 1, by omega, by go_num, by rw [Hall.out, HC.out, Bool.true_and], Hb.out.trans (Hb2.out.mono Hb.out.size), Hbk.out.below Hb2.out⟩
        case measure => simp [intOf]; omega
      obtain ⟨b', o', e, hbB', s0, s1⟩ := ((H3.out.here hb2).rd).two hjl
      cases e
      rw [all_step hjl] at hal
      generalize l3[j] = t at *
      obtain ⟨p, q⟩ := t
      dsimp only at *
      have Hal := hide hal; have Hb2 := hide hb2; have Hb2s := hb2.size; clear hal hb2
      go_wp2_with fail
      refine (spec_l5Ins p q _).mono ?_
      rintro e w3 ⟨rfl, hb3⟩
      have Hb3 := hide (Hb2.out.trans ((below_box hb3).mono Hb2s)); clear hb3
      cases hq : insOk ⟨p, q⟩ with
      | true =>
        rw [hq, Bool.true_and] at Hal
        go_wp2
        go_roundw
        case rel => exact ⟨j + 1, by omega, by go_num, Hal.out, Hb3.out⟩
        case measure => simp [intOf]; omega
      | false =>
        rw [hq, Bool.false_and] at Hal
        have HF := hide (HnoI.out (HI.out.trans Hal.out))
        go_wp2
        go_ret
        exact ⟨retB HF.out.symm, Hb.out.trans (Hb3.out.mono Hb.out.size)⟩
end Go.Proofs.YtgkjakoagdkpcaaGreatDoor
set_option linter.unusedSimpArgs false
set_option linter.unusedVariables false
set_option maxRecDepth 100000
namespace Go.Proofs.YtgkjakoagdkpcaaGreatDoor
open Go.RowKit

def tkGood (l : List CodeM) (t : P2) : Prop := t.o = 7 → 0 ≤ t.n ∧ t.n < l.length
set_option maxHeartbeats 1600000 in
theorem spec_l5Takes (cs : List Value) (x : ImageM) (o n : Int) (w : World) (hr : RImage w 0 w.heap.size cs x) (ho : 1 ≤ o ∧ o ≤ 18) (hn : tkGood x.qCodes ⟨o, n⟩) :
    Calls Tryz.prog 37 #[.agg cs.toArray, .agg #[.int .i64 o, .int .i64 n]] w fun e w' => e = .returned (.tuple #[.int .i64 (takes x.qCodes ⟨o, n⟩), .int .i64 (puts ⟨o, n⟩)]) ∧ Below w.heap.size w w' := by
  obtain ⟨v0, rfl, h0⟩ := hr
  obtain ⟨l⟩ := x
  dsimp only at *
  have hl := h0.long
  obtain ⟨A, c, rfl⟩ := h0.form
  have hb := ((Below.refl w.heap.size w).alloc (Nat.le_refl _) (.cells #[.slice A l.length c] 26)).alloc (by simp) (.cells #[.int .i64 o, .int .i64 n] 41)
  have h0' := h0.here RCode_stable hb
  by_cases o7 : o = 7
  · subst o7
    obtain ⟨k, rfl⟩ := Int.eq_ofNat_of_zero_le (hn rfl).1
    have hk : k < l.length := by have := (hn rfl).2; dsimp only at this; omega
    obtain ⟨b, o, v2, v3, v4, rfl, hbB, e0, e1, e2, e3, e4, hx⟩ := RCode_at h0' hk
    have ht := takes_call hk
    have hp : puts ⟨7, (k : Int)⟩ = 1 := rfl
    rw [show ((k : Nat) : Int) = Int.ofNat k from rfl] at *
    simp only [Int.ofNat_eq_natCast] at *
    rw [ht, hp]
    generalize l[k] = m at *
    have Hb := hide hb; clear hb h0 h0' hx hn ht hp
    have q : ((k : Int)).toNat = k := by omega
    go_enter Tryz.func37, Tryz.ntmps37
    go_wp2
    go_ret2
    exact ⟨rfl, Hb.out⟩
  · have Hb := hide hb; clear hb h0 h0'
    rcases op_ways ho with rfl | rfl | rfl | rfl | rfl | rfl | rfl | rfl | rfl | rfl | rfl | rfl | rfl | rfl | rfl | rfl | rfl | rfl
    all_goals first | exact absurd rfl o7 | (go_enter Tryz.func37, Tryz.ntmps37; go_wp2; go_ret2; exact ⟨rfl, Hb.out⟩)

set_option maxHeartbeats 1600000 in
theorem impl_takesPuts (cs : List Value) (x : ImageM) (o n : Int) (w : World) (hr : RImage w 0 w.heap.size cs x) (ho : 1 ≤ o ∧ o ≤ 18) (hn : tkGood x.qCodes ⟨o, n⟩) :
    Calls Tryz.prog 32 #[.agg cs.toArray, .agg #[.int .i64 o, .int .i64 n]] w fun e w' => e = .returned (.tuple #[.int .i64 (takes x.qCodes ⟨o, n⟩), .int .i64 (puts ⟨o, n⟩)]) ∧ Below w.heap.size w w' := by
  obtain ⟨v0, rfl, h0⟩ := hr
  obtain ⟨l⟩ := x
  dsimp only at *
  have hl := h0.long
  obtain ⟨A, c, rfl⟩ := h0.form
  have hb := ((Below.refl w.heap.size w).alloc (Nat.le_refl _) (.cells #[.slice A l.length c] 26)).alloc (by simp) (.cells #[.int .i64 o, .int .i64 n] 41)
  have h0' := h0.here RCode_stable hb
  by_cases o7 : o = 7
  · subst o7
    obtain ⟨k, rfl⟩ := Int.eq_ofNat_of_zero_le (hn rfl).1
    have hk : k < l.length := by have := (hn rfl).2; dsimp only at this; omega
    obtain ⟨b, o, v2, v3, v4, rfl, hbB, e0, e1, e2, e3, e4, hx⟩ := RCode_at h0' hk
    have ht := takes_call hk
    have hp : puts ⟨7, (k : Int)⟩ = 1 := rfl
    rw [show ((k : Nat) : Int) = Int.ofNat k from rfl] at *
    simp only [Int.ofNat_eq_natCast] at *
    rw [ht, hp]
    generalize l[k] = m at *
    have Hb := hide hb; clear hb h0 h0' hx hn ht hp
    have q : ((k : Int)).toNat = k := by omega
    go_enter Tryz.func32, Tryz.ntmps32
    go_wp2
    go_ret2
    exact ⟨rfl, Hb.out⟩
  · have Hb := hide hb; clear hb h0 h0'
    rcases op_ways ho with rfl | rfl | rfl | rfl | rfl | rfl | rfl | rfl | rfl | rfl | rfl | rfl | rfl | rfl | rfl | rfl | rfl | rfl
    all_goals first | exact absurd rfl o7 | (go_enter Tryz.func32, Tryz.ntmps32; go_wp2; go_ret2; exact ⟨rfl, Hb.out⟩)

theorem tpF_yes {l : List CodeM} {t : P2} (h : sizedB l = true) (h2 : insOk t = true) (h3 : t.o ≠ 7 ∨ t.n < l.length) : tpF l t = (takes l t, puts t, true) := by
  unfold tpF tpOk; rw [h, h2, decide_eq_true h3]; rfl
theorem tpF_s {l : List CodeM} {t : P2} (h : sizedB l = false) : tpF l t = (0, 0, false) := by unfold tpF tpOk; rw [h]; rfl
theorem tpF_i {l : List CodeM} {t : P2} (h : insOk t = false) : tpF l t = (0, 0, false) := by unfold tpF tpOk; rw [h]; simp
theorem tpF_7 {l : List CodeM} {t : P2} (h : t.o = 7) (h2 : ¬ t.n < l.length) : tpF l t = (0, 0, false) := by unfold tpF tpOk; rw [decide_eq_false (by omega)]; simp
theorem insOk_7 {n : Int} (h : insOk ⟨7, n⟩ = true) : 0 ≤ n := by
  rw [insOk_n (by decide) (by decide) rfl] at h; exact (inB_iff.1 h).1
theorem retTp {p : Int × Int × Bool} {a b : Int} {c : Bool} (h : p = (a, b, c)) : Ending.returned (.tuple #[.int .i64 a, .int .i64 b, .bool c]) = .returned (.tuple #[.int .i64 p.1, .int .i64 p.2.1, .bool p.2.2]) := by rw [h]

set_option maxHeartbeats 1600000 in
theorem spec_TakesPuts (cs : List Value) (x : ImageM) (o n : Int) (w : World) (hr : RImage w 0 w.heap.size cs x) :
    Calls Tryz.prog 16 #[.agg cs.toArray, .agg #[.int .i64 o, .int .i64 n]] w fun e w' => e = .returned (.tuple #[.int .i64 (tpF x.qCodes ⟨o, n⟩).1, .int .i64 (tpF x.qCodes ⟨o, n⟩).2.1, .bool (tpF x.qCodes ⟨o, n⟩).2.2]) ∧ Below w.heap.size w w' := by
  obtain ⟨v0, rfl, h0⟩ := id hr
  have hx := hr
  obtain ⟨l⟩ := x
  dsimp only at *
  have hl := h0.long
  obtain ⟨A, c, rfl⟩ := h0.form
  have hb := ((Below.refl w.heap.size w).alloc (Nat.le_refl _) (.cells #[.slice A l.length c] 26)).alloc (by simp) (.cells #[.int .i64 o, .int .i64 n] 41)
  have hbk1 := (Bk.new w 26 #[.slice A l.length c]).alloc (.cells #[.int .i64 o, .int .i64 n] 41)
  have hbk2 := Bk.new (w.alloc (.cells #[.slice A l.length c] 26)) 41 #[.int .i64 o, .int .i64 n]
  rw [World.size_alloc] at hbk2
  have hx' := RImage_stable.here hx hb
  have Hx := hide hx'; have Hb := hide hb; have K1 := hide hbk1; have K2 := hide hbk2
  clear hr hx hx' h0 hb hbk1 hbk2
  have hs := @tpF_s l ⟨o, n⟩
  have hi := @tpF_i l ⟨o, n⟩
  have h7 := @tpF_7 l ⟨o, n⟩
  have hy := @tpF_yes l ⟨o, n⟩
  generalize tpF l ⟨o, n⟩ = R at *
  have Hs := hide hs; have Hi := hide hi; have H7 := hide h7; have Hy := hide hy; clear hs hi h7 hy
  go_enter Tryz.func16, Tryz.ntmps16
  go_wp2_with fail
  refine (spec_l5Sized _ ⟨l⟩ _ Hx.out).mono ?_
  rintro e w1 ⟨rfl, hb1⟩
  dsimp only
  have Hb1 := hide (Hb.out.trans (hb1.mono Hb.out.size))
  have Hx1 := hide (RImage_stable.here Hx.out hb1)
  have K1a := hide (K1.out.below hb1); have K2a := hide (K2.out.below hb1); clear hb1
  have c0 := K2a.out.cell 0; have c1 := K2a.out.cell 1; have d0 := K1a.out.cell 0
  cases hsz : sizedB l with
  | false =>
    have HF := hide (Hs.out hsz)
    go_wp2
    go_ret3
    exact ⟨retTp HF.out, Hb1.out⟩
  | true =>
    go_wp2_with fail
    refine (spec_l5Ins o n _).mono ?_
    rintro e w2 ⟨rfl, hb2⟩
    have Hb2 := hide (Hb1.out.trans (hb2.mono Hb1.out.size))
    have Hx2 := hide (RImage_stable.here Hx1.out hb2)
    have K1b := hide (K1a.out.below hb2); have K2b := hide (K2a.out.below hb2); clear hb2 c0 c1 d0
    have c0 := K2b.out.cell 0; have c1 := K2b.out.cell 1; have d0 := K1b.out.cell 0
    cases hio : insOk ⟨o, n⟩ with
    | false =>
      have HF := hide (Hi.out hio)
      go_wp2
      go_ret3
      exact ⟨retTp HF.out, Hb2.out⟩
    | true =>
      have hob := insOk_bd hio
      dsimp only at hob
      by_cases o7 : o = 7
      · subst o7
        have hn0 := insOk_7 hio
        by_cases hlt : n < l.length
        · have HF := hide (Hy.out hsz hio (Or.inr hlt))
          have Hg := hide (show tkGood l ⟨7, n⟩ from fun _ => ⟨hn0, hlt⟩)
          go_wp2_with fail
          refine (spec_l5Takes _ ⟨l⟩ 7 n _ Hx2.out (by omega) Hg.out).mono ?_
          rintro e w3 ⟨rfl, hb3⟩
          have Hb3 := hide (Hb2.out.trans (hb3.mono Hb2.out.size))
          dsimp only
          clear hb3 c0 c1 d0
          go_wp2
          go_ret3
          exact ⟨retTp HF.out, Hb3.out⟩
        · have HF := hide (H7.out rfl (by first | exact hlt | omega))
          go_wp2
          go_ret3
          exact ⟨retTp HF.out, Hb2.out⟩
      · have HF := hide (Hy.out hsz hio (Or.inl o7))
        have Hg := hide (show tkGood l ⟨o, n⟩ from fun h => absurd h o7)
        have b7 : (o == 7) = false := by rw [beq_eq_false_iff_ne]; exact o7
        go_wp2_with fail
        refine (spec_l5Takes _ ⟨l⟩ o n _ Hx2.out hob Hg.out).mono ?_
        rintro e w3 ⟨rfl, hb3⟩
        have Hb3 := hide (Hb2.out.trans (hb3.mono Hb2.out.size))
        dsimp only
        clear hb3 c0 c1 d0
        go_wp2
        go_ret3
        exact ⟨retTp HF.out, Hb3.out⟩

set_option maxHeartbeats 1600000 in
theorem impl_TakesPuts (cs : List Value) (x : ImageM) (o n : Int) (w : World) (hr : RImage w 0 w.heap.size cs x) :
    Calls Tryz.prog 13 #[.agg cs.toArray, .agg #[.int .i64 o, .int .i64 n]] w fun e w' => e = .returned (.tuple #[.int .i64 (tpF x.qCodes ⟨o, n⟩).1, .int .i64 (tpF x.qCodes ⟨o, n⟩).2.1, .bool (tpF x.qCodes ⟨o, n⟩).2.2]) ∧ Below w.heap.size w w' := by
  obtain ⟨v0, rfl, h0⟩ := id hr
  have hx := hr
  obtain ⟨l⟩ := x
  dsimp only at *
  have hl := h0.long
  obtain ⟨A, c, rfl⟩ := h0.form
  have hb := ((Below.refl w.heap.size w).alloc (Nat.le_refl _) (.cells #[.slice A l.length c] 26)).alloc (by simp) (.cells #[.int .i64 o, .int .i64 n] 41)
  have hbk1 := (Bk.new w 26 #[.slice A l.length c]).alloc (.cells #[.int .i64 o, .int .i64 n] 41)
  have hbk2 := Bk.new (w.alloc (.cells #[.slice A l.length c] 26)) 41 #[.int .i64 o, .int .i64 n]
  rw [World.size_alloc] at hbk2
  have hx' := RImage_stable.here hx hb
  have Hx := hide hx'; have Hb := hide hb; have K1 := hide hbk1; have K2 := hide hbk2
  clear hr hx hx' h0 hb hbk1 hbk2
  have hs := @tpF_s l ⟨o, n⟩
  have hi := @tpF_i l ⟨o, n⟩
  have h7 := @tpF_7 l ⟨o, n⟩
  have hy := @tpF_yes l ⟨o, n⟩
  generalize tpF l ⟨o, n⟩ = R at *
  have Hs := hide hs; have Hi := hide hi; have H7 := hide h7; have Hy := hide hy; clear hs hi h7 hy
  go_enter Tryz.func13, Tryz.ntmps13
  go_wp2_with fail
  refine (impl_isSized _ ⟨l⟩ _ Hx.out).mono ?_
  rintro e w1 ⟨rfl, hb1⟩
  dsimp only
  have Hb1 := hide (Hb.out.trans (hb1.mono Hb.out.size))
  have Hx1 := hide (RImage_stable.here Hx.out hb1)
  have K1a := hide (K1.out.below hb1); have K2a := hide (K2.out.below hb1); clear hb1
  have c0 := K2a.out.cell 0; have c1 := K2a.out.cell 1; have d0 := K1a.out.cell 0
  cases hsz : sizedB l with
  | false =>
    have HF := hide (Hs.out hsz)
    go_wp2
    go_ret3
    exact ⟨retTp HF.out, Hb1.out⟩
  | true =>
    go_wp2_with fail
    refine (impl_isIns o n _).mono ?_
    rintro e w2 ⟨rfl, hb2⟩
    have Hb2 := hide (Hb1.out.trans (hb2.mono Hb1.out.size))
    have Hx2 := hide (RImage_stable.here Hx1.out hb2)
    have K1b := hide (K1a.out.below hb2); have K2b := hide (K2a.out.below hb2); clear hb2 c0 c1 d0
    have c0 := K2b.out.cell 0; have c1 := K2b.out.cell 1; have d0 := K1b.out.cell 0
    cases hio : insOk ⟨o, n⟩ with
    | false =>
      have HF := hide (Hi.out hio)
      go_wp2
      go_ret3
      exact ⟨retTp HF.out, Hb2.out⟩
    | true =>
      have hob := insOk_bd hio
      dsimp only at hob
      by_cases o7 : o = 7
      · subst o7
        have hn0 := insOk_7 hio
        by_cases hlt : n < l.length
        · have HF := hide (Hy.out hsz hio (Or.inr hlt))
          have Hg := hide (show tkGood l ⟨7, n⟩ from fun _ => ⟨hn0, hlt⟩)
          go_wp2_with fail
          refine (impl_takesPuts _ ⟨l⟩ 7 n _ Hx2.out (by omega) Hg.out).mono ?_
          rintro e w3 ⟨rfl, hb3⟩
          have Hb3 := hide (Hb2.out.trans (hb3.mono Hb2.out.size))
          dsimp only
          clear hb3 c0 c1 d0
          go_wp2
          go_ret3
          exact ⟨retTp HF.out, Hb3.out⟩
        · have HF := hide (H7.out rfl (by first | exact hlt | omega))
          go_wp2
          go_ret3
          exact ⟨retTp HF.out, Hb2.out⟩
      · have HF := hide (Hy.out hsz hio (Or.inl o7))
        have Hg := hide (show tkGood l ⟨o, n⟩ from fun h => absurd h o7)
        have b7 : (o == 7) = false := by rw [beq_eq_false_iff_ne]; exact o7
        go_wp2_with fail
        refine (impl_takesPuts _ ⟨l⟩ o n _ Hx2.out hob Hg.out).mono ?_
        rintro e w3 ⟨rfl, hb3⟩
        have Hb3 := hide (Hb2.out.trans (hb3.mono Hb2.out.size))
        dsimp only
        clear hb3 c0 c1 d0
        go_wp2
        go_ret3
        exact ⟨retTp HF.out, Hb3.out⟩
end Go.Proofs.YtgkjakoagdkpcaaGreatDoor
