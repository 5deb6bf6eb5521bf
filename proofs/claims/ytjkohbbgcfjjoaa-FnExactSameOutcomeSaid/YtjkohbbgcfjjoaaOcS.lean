/- SameOutcome, TraceBegins: what the Go text returns. No condition. -/
import Derived.Test.YtjkohbbgcfjjoaaOc
set_option linter.unusedSimpArgs false
set_option linter.unusedVariables false
set_option maxRecDepth 100000
namespace Go.Proofs.Ytjkohbbgcfjjoaa
open Go.RowKit

set_option maxHeartbeats 400000 in
theorem szOutcome (o : Oc) (s : Value) (left : Int) (w : World) (B : Nat) (hr : OcAt w w.heap.size o s) (h1 : 0 ≤ left) (h2 : left ≤ 4611686018427387904) :
    Calls Try.prog 19 #[o.agg s, .int .i64 left] w fun e w' => e = .returned (.int .i64 (if (o.trace.length : Int) ≤ left then left - o.trace.length else -1)) ∧ Below w.heap.size w w' := by
  unfold OcAt at hr
  unfold Oc.agg
  obtain ⟨code, value, tr, used⟩ := o
  dsimp only at *
  obtain ⟨A, c, rfl, hn, hc, hcell⟩ := id hr
  have Hr := hide hr; clear hr hcell
  have hW := (Below.refl w.heap.size w).alloc (Nat.le_refl _) (.cells #[.int .i64 code, .int .i64 value, .slice A tr.length c, .int .i64 used] 31)
  have HW := hide hW; clear hW hn hc
  by_cases g : (tr.length : Int) ≤ left
  all_goals
    go_enter Try.func19, Try.ntmps19
    go_wp2_with fail
    refine (szIntS _ _ _ left _ _ (Hr.out.go HW.out (Nat.le_refl _) HW.out.size) h1 h2).mono ?_
    rintro e w1 ⟨rfl, rfl⟩
    first | rw [if_pos (by omega)] | rw [if_neg (by omega)]
    go_wp2
    all_goals first
      | (exfalso; omega)
      | (go_ret
         exact ⟨retI (by first | rfl | (split <;> omega) | omega), HW.out⟩)

def sameOc (a b : Oc) : Bool := decide (a.code = b.code ∧ a.value = b.value ∧ a.used = b.used) && sameB a.trace b.trace
theorem sameOc_no {a b : Oc} (h : ¬ (a.code = b.code ∧ a.value = b.value ∧ a.used = b.used)) : false = sameOc a b := by unfold sameOc; rw [decide_eq_false h]; rfl
theorem sameOc_yes {a b : Oc} (h : a.code = b.code ∧ a.value = b.value ∧ a.used = b.used) : sameB a.trace b.trace = sameOc a b := by unfold sameOc; rw [decide_eq_true h]; rfl

set_option maxHeartbeats 800000 in
theorem spec_SameOutcome (o o2 : Oc) (s s2 : Value) (w : World) (hr : OcAt w w.heap.size o s) (hr2 : OcAt w w.heap.size o2 s2) :
    Calls Try.prog 20 #[o.agg s, o2.agg s2] w fun e w' => e = .returned (.bool (sameOc o o2)) ∧ Below w.heap.size w w' := by
  have hy := @sameOc_yes o o2
  have hn := @sameOc_no o o2
  unfold OcAt at hr hr2
  unfold Oc.agg
  obtain ⟨code, value, tr, used⟩ := o
  obtain ⟨code2, value2, tr2, used2⟩ := o2
  dsimp only at *
  generalize sameOc ⟨code, value, tr, used⟩ ⟨code2, value2, tr2, used2⟩ = R at *
  obtain ⟨A, c, rfl, _, _, hcell⟩ := id hr
  obtain ⟨A2, c2, rfl, _, _, hcell2⟩ := id hr2
  have Hr := hide hr; have Hr2 := hide hr2; clear hr hcell hr2 hcell2
  have hW := ((Below.refl w.heap.size w).alloc (Nat.le_refl _) (.cells #[.int .i64 code, .int .i64 value, .slice A tr.length c, .int .i64 used] 34)).alloc (by simp) (.cells #[.int .i64 code2, .int .i64 value2, .slice A2 tr2.length c2, .int .i64 used2] 34)
  have HW := hide hW; clear hW
  by_cases e1 : code = code2
  · by_cases e2 : value = value2
    · by_cases e3 : used = used2
      · have Hy := hide (hy ⟨e1, e2, e3⟩); clear hy hn
        subst e1 e2 e3
        go_enter Try.func20, Try.ntmps20
        go_wp2_with fail
        refine (spec_l1Same _ _ tr tr2 _ _ _ _ _ rfl rfl (Hr.out.go HW.out (Nat.le_refl _) HW.out.size) (Hr2.out.go HW.out (Nat.le_refl _) HW.out.size)).mono ?_
        rintro e w1 ⟨rfl, q, rfl⟩
        go_wp2
        go_ret
        exact ⟨retB Hy.out, below_drewN HW.out q⟩
      · have Hn := hide (hn (fun h => e3 h.2.2)); clear hy hn
        have b3 : (used == used2) = false := beq_eq_false_iff_ne.2 e3
        subst e1 e2
        clear e3
        go_enter Try.func20, Try.ntmps20
        go_wp2
        go_ret
        exact ⟨retB Hn.out, HW.out⟩
    · have Hn := hide (hn (fun h => e2 h.2.1)); clear hy hn
      have b2 : (value == value2) = false := beq_eq_false_iff_ne.2 e2
      subst e1
      clear e2
      go_enter Try.func20, Try.ntmps20
      go_wp2
      go_ret
      exact ⟨retB Hn.out, HW.out⟩
  · have Hn := hide (hn (fun h => e1 h.1)); clear hy hn
    have b1 : (code == code2) = false := beq_eq_false_iff_ne.2 e1
    clear e1
    go_enter Try.func20, Try.ntmps20
    go_wp2
    go_ret
    exact ⟨retB Hn.out, HW.out⟩
set_option maxHeartbeats 800000 in
theorem impl_SameOutcome (o o2 : Oc) (s s2 : Value) (w : World) (hr : OcAt w w.heap.size o s) (hr2 : OcAt w w.heap.size o2 s2) :
    Calls Try.prog 22 #[o.agg s, o2.agg s2] w fun e w' => e = .returned (.bool (sameOc o o2)) ∧ Below w.heap.size w w' := by
  have hy := @sameOc_yes o o2
  have hn := @sameOc_no o o2
  unfold OcAt at hr hr2
  unfold Oc.agg
  obtain ⟨code, value, tr, used⟩ := o
  obtain ⟨code2, value2, tr2, used2⟩ := o2
  dsimp only at *
  generalize sameOc ⟨code, value, tr, used⟩ ⟨code2, value2, tr2, used2⟩ = R at *
  obtain ⟨A, c, rfl, _, _, hcell⟩ := id hr
  obtain ⟨A2, c2, rfl, _, _, hcell2⟩ := id hr2
  have Hr := hide hr; have Hr2 := hide hr2; clear hr hcell hr2 hcell2
  have hW := ((Below.refl w.heap.size w).alloc (Nat.le_refl _) (.cells #[.int .i64 code, .int .i64 value, .slice A tr.length c, .int .i64 used] 34)).alloc (by simp) (.cells #[.int .i64 code2, .int .i64 value2, .slice A2 tr2.length c2, .int .i64 used2] 34)
  have HW := hide hW; clear hW
  by_cases e1 : code = code2
  · by_cases e2 : value = value2
    · by_cases e3 : used = used2
      · have Hy := hide (hy ⟨e1, e2, e3⟩); clear hy hn
        subst e1 e2 e3
        go_enter Try.func22, Try.ntmps22
        go_wp2_with fail
        refine (slices_Equal _ _ tr tr2 _ _ _ _ _ rfl rfl (Hr.out.go HW.out (Nat.le_refl _) HW.out.size) (Hr2.out.go HW.out (Nat.le_refl _) HW.out.size)).mono ?_
        rintro e w1 ⟨rfl, q, rfl⟩
        go_wp2
        go_ret
        exact ⟨retB Hy.out, below_drewN HW.out q⟩
      · have Hn := hide (hn (fun h => e3 h.2.2)); clear hy hn
        have b3 : (used == used2) = false := beq_eq_false_iff_ne.2 e3
        subst e1 e2
        clear e3
        go_enter Try.func22, Try.ntmps22
        go_wp2
        go_ret
        exact ⟨retB Hn.out, HW.out⟩
    · have Hn := hide (hn (fun h => e2 h.2.1)); clear hy hn
      have b2 : (value == value2) = false := beq_eq_false_iff_ne.2 e2
      subst e1
      clear e2
      go_enter Try.func22, Try.ntmps22
      go_wp2
      go_ret
      exact ⟨retB Hn.out, HW.out⟩
  · have Hn := hide (hn (fun h => e1 h.1)); clear hy hn
    have b1 : (code == code2) = false := beq_eq_false_iff_ne.2 e1
    clear e1
    go_enter Try.func22, Try.ntmps22
    go_wp2
    go_ret
    exact ⟨retB Hn.out, HW.out⟩

def begins (a b : Oc) : Bool := decide (a.trace.length ≤ b.trace.length) && sameB a.trace (b.trace.take a.trace.length)
theorem begins_no {a b : Oc} (h : ¬ a.trace.length ≤ b.trace.length) : false = begins a b := by unfold begins; rw [decide_eq_false h]; rfl
theorem begins_yes {a b : Oc} (h : a.trace.length ≤ b.trace.length) : sameB a.trace (b.trace.take a.trace.length) = begins a b := by unfold begins; rw [decide_eq_true h]; rfl
theorem Rd.pre {w : World} {B n m c : Nat} {A : Option Addr} {xs : List Int} (h : Rd w B (.slice A n c) n (icells .i64 xs)) (hm : m ≤ n) : Rd w B (.slice A m c) m (icells .i64 (xs.take m)) := by
  obtain ⟨A', c', e, h1, h2, hc⟩ := h
  injection e with e1 e2 e3
  subst e1 e3
  refine ⟨A, c, rfl, by omega, h2, fun j u hu => hc j u ?_⟩
  have : icells .i64 (xs.take m) = (icells .i64 xs).take m := by simp [icells, List.map_take]
  rw [this, List.getElem?_take] at hu
  split at hu
  · exact hu
  · cases hu

set_option maxHeartbeats 800000 in
theorem spec_TraceBegins (o o2 : Oc) (s s2 : Value) (w : World) (hr : OcAt w w.heap.size o s) (hr2 : OcAt w w.heap.size o2 s2) :
    Calls Try.prog 24 #[o.agg s, o2.agg s2] w fun e w' => e = .returned (.bool (begins o o2)) ∧ Below w.heap.size w w' := by
  have hy := @begins_yes o o2
  have hn := @begins_no o o2
  unfold OcAt at hr hr2
  unfold Oc.agg
  obtain ⟨code, value, tr, used⟩ := o
  obtain ⟨code2, value2, tr2, used2⟩ := o2
  dsimp only at *
  generalize begins ⟨code, value, tr, used⟩ ⟨code2, value2, tr2, used2⟩ = R at *
  obtain ⟨A, c, rfl, _, hcm, hcell⟩ := id hr
  obtain ⟨A2, c2, rfl, hnc2, hcm2, hcell2⟩ := id hr2
  have hl : tr.length ≤ 9223372036854775807 := by unfold maxLen at hcm; omega
  have hl2 : tr2.length ≤ 9223372036854775807 := by unfold maxLen at hcm2; omega
  have hc3 : c2 ≤ 9223372036854775807 := by unfold maxLen at hcm2; omega
  have Hr := hide hr; have Hr2 := hide hr2; clear hr hcell hr2 hcell2 hcm hcm2
  have hW := ((Below.refl w.heap.size w).alloc (Nat.le_refl _) (.cells #[.int .i64 code, .int .i64 value, .slice A tr.length c, .int .i64 used] 34)).alloc (by simp) (.cells #[.int .i64 code2, .int .i64 value2, .slice A2 tr2.length c2, .int .i64 used2] 34)
  have HW := hide hW; clear hW
  by_cases g : tr.length ≤ tr2.length
  · have Hy := hide (hy g); clear hy hn
    have g1 : decide (tr.length ≤ tr2.length) = true := by simp [g]
    have htl : (tr2.take tr.length).length = tr.length := by rw [List.length_take]; omega
    have hc := fun w B B2 h1 h2 => spec_l1Same (.slice A tr.length c) (.slice A2 tr.length c2) tr (tr2.take tr.length) w B B2 tr.length tr.length rfl htl h1 h2
    have Hc := hide hc; clear hc htl
    go_enter Try.func24, Try.ntmps24
    go_wp2_with fail
    go_quiet ((go_at_call 62; exact Calls.quiet_of (Hc.out _ _ _ ((Hr.out.go HW.out (Nat.le_refl _) HW.out.size).drewN _) (((Hr2.out.go HW.out (Nat.le_refl _) HW.out.size).pre g).drewN _))))
    go_wp2
    go_ret
    exact ⟨retB Hy.out, below_drewN HW.out _⟩
  · have Hn := hide (hn g); clear hy hn
    have g1 : decide (tr.length ≤ tr2.length) = false := by simp; omega
    clear g
    go_enter Try.func24, Try.ntmps24
    go_wp2_with fail
    go_quiet (fail)
    go_wp2
    go_ret
    exact ⟨retB Hn.out, below_drewN HW.out _⟩
set_option maxHeartbeats 800000 in
theorem impl_TraceBegins (o o2 : Oc) (s s2 : Value) (w : World) (hr : OcAt w w.heap.size o s) (hr2 : OcAt w w.heap.size o2 s2) :
    Calls Try.prog 25 #[o.agg s, o2.agg s2] w fun e w' => e = .returned (.bool (begins o o2)) ∧ Below w.heap.size w w' := by
  have hy := @begins_yes o o2
  have hn := @begins_no o o2
  unfold OcAt at hr hr2
  unfold Oc.agg
  obtain ⟨code, value, tr, used⟩ := o
  obtain ⟨code2, value2, tr2, used2⟩ := o2
  dsimp only at *
  generalize begins ⟨code, value, tr, used⟩ ⟨code2, value2, tr2, used2⟩ = R at *
  obtain ⟨A, c, rfl, _, hcm, hcell⟩ := id hr
  obtain ⟨A2, c2, rfl, hnc2, hcm2, hcell2⟩ := id hr2
  have hl : tr.length ≤ 9223372036854775807 := by unfold maxLen at hcm; omega
  have hl2 : tr2.length ≤ 9223372036854775807 := by unfold maxLen at hcm2; omega
  have hc3 : c2 ≤ 9223372036854775807 := by unfold maxLen at hcm2; omega
  have Hr := hide hr; have Hr2 := hide hr2; clear hr hcell hr2 hcell2 hcm hcm2
  have hW := ((Below.refl w.heap.size w).alloc (Nat.le_refl _) (.cells #[.int .i64 code, .int .i64 value, .slice A tr.length c, .int .i64 used] 34)).alloc (by simp) (.cells #[.int .i64 code2, .int .i64 value2, .slice A2 tr2.length c2, .int .i64 used2] 34)
  have HW := hide hW; clear hW
  by_cases g : tr.length ≤ tr2.length
  · have Hy := hide (hy g); clear hy hn
    have g1 : decide (tr.length ≤ tr2.length) = true := by simp [g]
    have htl : (tr2.take tr.length).length = tr.length := by rw [List.length_take]; omega
    have hc := fun w B B2 h1 h2 => slices_Equal (.slice A tr.length c) (.slice A2 tr.length c2) tr (tr2.take tr.length) w B B2 tr.length tr.length rfl htl h1 h2
    have Hc := hide hc; clear hc htl
    go_enter Try.func25, Try.ntmps25
    go_wp2_with fail
    go_quiet ((go_at_call 64; exact Calls.quiet_of (Hc.out _ _ _ ((Hr.out.go HW.out (Nat.le_refl _) HW.out.size).drewN _) (((Hr2.out.go HW.out (Nat.le_refl _) HW.out.size).pre g).drewN _))))
    go_wp2
    go_ret
    exact ⟨retB Hy.out, below_drewN HW.out _⟩
  · have Hn := hide (hn g); clear hy hn
    have g1 : decide (tr.length ≤ tr2.length) = false := by simp; omega
    clear g
    go_enter Try.func25, Try.ntmps25
    go_wp2_with fail
    go_quiet (fail)
    go_wp2
    go_ret
    exact ⟨retB Hn.out, below_drewN HW.out _⟩
end Go.Proofs.Ytjkohbbgcfjjoaa
