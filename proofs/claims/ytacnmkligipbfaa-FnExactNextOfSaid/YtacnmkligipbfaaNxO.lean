
/- NextOf on both sides. No condition. -/
import Derived.Test.YtacnmkligipbfaaNx
import Derived.Test.YtacnmkligipbfaaImI
set_option linter.unusedSimpArgs false
set_option linter.unusedVariables false
set_option maxRecDepth 100000
namespace Go.Proofs.Ytacnmkligipbfaa
open Go.RowKit

def okN (t : P2) (a : Int) : Bool := insOk t && inB a 0 300
def nxR (t : P2) (a : Int) : List Int := if okN t a then nextI t a else []
theorem nxR_length (t : P2) (a : Int) : (nxR t a).length ≤ 2 := by
  unfold nxR; split
  · exact nextI_length t a
  · simp
set_option maxHeartbeats 1600000 in
theorem spec_NextOf (o n a : Int) (w : World) :
    Calls Try.prog 4 #[.agg #[.int .i64 o, .int .i64 n], .int .i64 a] w fun e w' => ∃ v, e = .returned (.tuple #[v, .bool (okN ⟨o, n⟩ a)]) ∧ w'.ownsRow w.heap.size 3 1 v (nxR ⟨o, n⟩ a).length (icells .i64 (nxR ⟨o, n⟩ a)) ∧ Below w.heap.size w w' := by
  have hb := (Below.refl w.heap.size w).alloc (Nat.le_refl _) (.cells #[.int .i64 o, .int .i64 n] 27)
  have hk := Bk.new w 27 #[.int .i64 o, .int .i64 n]
  have hI := spec_l5Ins o n (w.alloc (.cells #[.int .i64 o, .int .i64 n] 27))
  have hW := fun w => spec_l1In a 0 300 w
  have hok : okN ⟨o, n⟩ a = (insOk ⟨o, n⟩ && inB a 0 300) := rfl
  have hno : okN ⟨o, n⟩ a = false → nxR ⟨o, n⟩ a = [] := fun h => by unfold nxR; rw [h]; rfl
  have hyes : okN ⟨o, n⟩ a = true → nxR ⟨o, n⟩ a = nextI ⟨o, n⟩ a := fun h => by unfold nxR; rw [h]; rfl
  have Hb := hide hb; have Hk := hide hk; clear hb hk
  cases h1 : insOk ⟨o, n⟩
  · rw [h1] at hI
    have e : okN ⟨o, n⟩ a = false := by rw [hok, h1]; rfl
    rw [hno e, e]
    have HI := hide hI; clear hI hW hok hno hyes h1 e
    go_enter Try.func4, Try.ntmps4
    go_wp2_with (go_at_call 10; refine (HI.out).mono ?_; rintro e w1 ⟨rfl, hb1⟩)
    go_ret2
    exact ⟨_, rfl, World.ownsRow_nil _ _ _ _, Hb.out.trans (hb1.mono Hb.out.size)⟩
  rw [h1] at hI
  have HI := hide hI; clear hI
  cases h2 : inB a 0 300
  · simp only [h2] at hW
    have e : okN ⟨o, n⟩ a = false := by rw [hok, h1, h2]; rfl
    rw [hno e, e]
    have HW := Lib.hid hW; clear hW hok hno hyes h1 h2 e
    go_enter Try.func4, Try.ntmps4
    go_wp2_with (first
      | (go_at_call 10; refine (HI.out).mono ?_; rintro e w1 ⟨rfl, hb1⟩)
      | (go_at_call 11; refine (HW.out _).mono ?_; rintro e w2 ⟨rfl, rfl⟩))
    go_ret2
    exact ⟨_, rfl, World.ownsRow_nil _ _ _ _, Hb.out.trans (hb1.mono Hb.out.size)⟩
  obtain ⟨q1, q2⟩ := inB_iff.1 h2
  simp only [h2] at hW
  have e : okN ⟨o, n⟩ a = true := by rw [hok, h1, h2]; rfl
  rw [hyes e, e]
  have hN := fun w => spec_l5Next o n a w q1 q2
  generalize nextI ⟨o, n⟩ a = L at *
  have HW := Lib.hid hW; have HN := Lib.hid hN; clear hW hN hok hno hyes h1 h2 e
  go_enter Try.func4, Try.ntmps4
  go_wp2_with (first
    | (go_at_call 10; refine (HI.out).mono ?_; rintro e w1 ⟨rfl, hb1⟩; have hk1 := Hk.out.below hb1; have hl1 := hk1.lt; have p0 := hk1.cell 0; have p1 := hk1.cell 1; have Hb1 := hide (Hb.out.trans (hb1.mono Hb.out.size)); clear hk1 hb1)
    | (go_at_call 11; refine (HW.out _).mono ?_; rintro e w2 ⟨rfl, rfl⟩)
    | (go_at_call 12; refine (HN.out _).mono ?_; rintro e w3 ⟨v, rfl, hown, hb3⟩))
  go_ret2
  exact ⟨_, rfl, own_base hown Hb1.out.size, Hb1.out.trans (hb3.mono Hb1.out.size)⟩
set_option maxHeartbeats 1600000 in
theorem impl_NextOf (o n a : Int) (w : World) :
    Calls Try.prog 6 #[.agg #[.int .i64 o, .int .i64 n], .int .i64 a] w fun e w' => ∃ v, e = .returned (.tuple #[v, .bool (okN ⟨o, n⟩ a)]) ∧ w'.ownsRow w.heap.size 3 1 v (nxR ⟨o, n⟩ a).length (icells .i64 (nxR ⟨o, n⟩ a)) ∧ Below w.heap.size w w' := by
  have hb := (Below.refl w.heap.size w).alloc (Nat.le_refl _) (.cells #[.int .i64 o, .int .i64 n] 27)
  have hk := Bk.new w 27 #[.int .i64 o, .int .i64 n]
  have hI := impl_isIns o n (w.alloc (.cells #[.int .i64 o, .int .i64 n] 27))
  have hW := fun w => impl_within a 0 300 w
  have hok : okN ⟨o, n⟩ a = (insOk ⟨o, n⟩ && inB a 0 300) := rfl
  have hno : okN ⟨o, n⟩ a = false → nxR ⟨o, n⟩ a = [] := fun h => by unfold nxR; rw [h]; rfl
  have hyes : okN ⟨o, n⟩ a = true → nxR ⟨o, n⟩ a = nextI ⟨o, n⟩ a := fun h => by unfold nxR; rw [h]; rfl
  have Hb := hide hb; have Hk := hide hk; clear hb hk
  cases h1 : insOk ⟨o, n⟩
  · rw [h1] at hI
    have e : okN ⟨o, n⟩ a = false := by rw [hok, h1]; rfl
    rw [hno e, e]
    have HI := hide hI; clear hI hW hok hno hyes h1 e
    go_enter Try.func6, Try.ntmps6
    go_wp2_with (go_at_call 13; refine (HI.out).mono ?_; rintro e w1 ⟨rfl, hb1⟩)
    go_ret2
    exact ⟨_, rfl, World.ownsRow_nil _ _ _ _, Hb.out.trans (hb1.mono Hb.out.size)⟩
  rw [h1] at hI
  have HI := hide hI; clear hI
  cases h2 : inB a 0 300
  · simp only [h2] at hW
    have e : okN ⟨o, n⟩ a = false := by rw [hok, h1, h2]; rfl
    rw [hno e, e]
    have HW := Lib.hid hW; clear hW hok hno hyes h1 h2 e
    go_enter Try.func6, Try.ntmps6
    go_wp2_with (first
      | (go_at_call 13; refine (HI.out).mono ?_; rintro e w1 ⟨rfl, hb1⟩)
      | (go_at_call 14; refine (HW.out _).mono ?_; rintro e w2 ⟨rfl, rfl⟩))
    go_ret2
    exact ⟨_, rfl, World.ownsRow_nil _ _ _ _, Hb.out.trans (hb1.mono Hb.out.size)⟩
  obtain ⟨q1, q2⟩ := inB_iff.1 h2
  simp only [h2] at hW
  have e : okN ⟨o, n⟩ a = true := by rw [hok, h1, h2]; rfl
  rw [hyes e, e]
  have hN := fun w => impl_nextOf o n a w q1 q2
  generalize nextI ⟨o, n⟩ a = L at *
  have HW := Lib.hid hW; have HN := Lib.hid hN; clear hW hN hok hno hyes h1 h2 e
  go_enter Try.func6, Try.ntmps6
  go_wp2_with (first
    | (go_at_call 13; refine (HI.out).mono ?_; rintro e w1 ⟨rfl, hb1⟩; have hk1 := Hk.out.below hb1; have hl1 := hk1.lt; have p0 := hk1.cell 0; have p1 := hk1.cell 1; have Hb1 := hide (Hb.out.trans (hb1.mono Hb.out.size)); clear hk1 hb1)
    | (go_at_call 14; refine (HW.out _).mono ?_; rintro e w2 ⟨rfl, rfl⟩)
    | (go_at_call 15; refine (HN.out _).mono ?_; rintro e w3 ⟨v, rfl, hown, hb3⟩))
  go_ret2
  exact ⟨_, rfl, own_base hown Hb1.out.size, Hb1.out.trans (hb3.mono Hb1.out.size)⟩
end Go.Proofs.Ytacnmkligipbfaa
