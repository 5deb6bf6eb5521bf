
/- FnExactReadRows: the call returns true. No condition. -/
import Derived.Test.YthcdogkkkejodaaRrS
import Derived.Test.YthcdogkkkejodaaRowM2
import Derived.Test.YthcdogkkkejodaaHere
set_option linter.unusedSimpArgs false
set_option linter.unusedVariables false
set_option maxRecDepth 100000
namespace Go.Proofs.Ythcdogkkkejodaa
open Go.RowKit

theorem rdRows_len (s : ByteArray) (many : Int) : (rdRows s many).1.length ≤ 300 ∧ (rdRows s many).2.1 ≤ 4 := by
  rw [← rr_same]
  unfold rrS
  have key : ∀ (k a : Nat) (x : Int) (acc : List R3), (triS s many k a x acc).1.length ≤ 300 ∧ (triS s many k a x acc).2.1 ≤ 4 := by
    intro k
    induction k with
    | zero =>
      intro a x acc
      rw [triS_end]
      split
      · rename_i h
        split
        · simp
        · unfold goodRows at h
          simp at h
          exact ⟨h.2.1, by simp⟩
      · simp
    | succ k ih =>
      intro a x acc
      cases ht : tri s a with
      | none => rw [triS_no ht]; simp
      | some y => obtain ⟨g, l, p, e⟩ := y; rw [triS_yes ht]; exact ih _ _ _
  repeat' split
  all_goals first | exact key _ _ _ _ | simp

set_option maxHeartbeats 1600000 in
theorem law_FnExactReadRows (s : ByteArray) (ws : s.size ≤ maxLen) (a : Int) (wa : (Lit.int .i64 a).wf = true) (w : World) :
    Calls Try.prog 5 #[.string s, .int .i64 a] w fun e w' => e = .returned (.bool true) ∧ Below w.heap.size w w' := by
  have hs : s.size ≤ 9223372036854775807 := by unfold maxLen at ws; omega
  clear ws
  by_cases hb : s.size ≤ 1048576
  · have hL := rdRows_len s a
    have hc := fun w => spec_ReadRows s a hs w
    have hc2 := fun w => impl_ReadRows s a hs w
    generalize rdRows s a = r at *
    obtain ⟨zs, e0, ok⟩ := r
    dsimp only at *
    obtain ⟨hL1, hL2⟩ := hL
    have Hc := Lib.hid hc; have Hc2 := Lib.hid hc2; clear hc hc2
    go_enter Try.func5, Try.ntmps5
    go_wp2_with fail
    refine (Hc.out _).mono ?_
    rintro e w1 ⟨v1, rfl, hown1, hb1⟩
    have Hr1 := hide (Rd.of_own hown1); have Hb1 := hide hb1; clear hown1 hb1
    go_wp2_with fail
    refine (Hc2.out _).mono ?_
    rintro e w2 ⟨v2, rfl, hown2, hb2⟩
    have Hg2 := hide hown2; have Hb12 := hide hb2; have Hb2 := hide (Hb1.out.trans (hb2.mono Hb1.out.size)); clear hown2 hb2
    go_wp2_with fail
    refine (eqRowS _ _ zs _ (Rd.of_own Hg2.out) (Hr1.out.here Hb12.out) (by omega)).mono ?_
    rintro e w3 ⟨rfl, hb3⟩
    have Hg3 := hide (own_keep Hg2.out hb3); have Hb13 := hide (Hb12.out.trans (hb3.mono Hb12.out.size)); have Hb3 := hide (Hb2.out.trans (hb3.mono Hb2.out.size)); clear hb3
    go_wp2_with fail
    refine (markRowS _ zs 1 _ _ Hg3.out (by omega) (by omega)).mono ?_
    rintro e w4 ⟨rfl, hown4, hg4⟩
    have hgl := Hg3.out.lt
    have hb4 : Below w1.heap.size w3 w4 := (Below.refl _ _).grown hg4 Hb13.out.size (fun k hk => (hgl k hk).1)
    have Hg4 := hide hown4; have Hb14 := hide (Hb13.out.trans hb4); have Hb4 := hide (Hb3.out.trans (hb4.mono Hb1.out.size)); clear hown4 hg4 hgl hb4
    go_wp2_with fail
    refine (heldRowS _ zs.length 1 _ _ (Rd.of_own Hg4.out) (by omega) (by omega)).mono ?_
    rintro e w5 ⟨rfl, rfl⟩
    go_wp2_with fail
    refine (Hc2.out _).mono ?_
    rintro e w6 ⟨v3, rfl, hown6, hb6⟩
    have Hh6 := hide hown6; have Hg6 := hide (own_keep Hg4.out hb6); have Hb16 := hide (Hb14.out.trans (hb6.mono Hb14.out.size)); have Hb6 := hide (Hb4.out.trans (hb6.mono Hb4.out.size)); clear hown6 hb6
    go_wp2_with fail
    refine (eqRowS _ _ zs _ (Rd.of_own Hh6.out) (Hr1.out.here Hb16.out) (by omega)).mono ?_
    rintro e w7 ⟨rfl, hb7⟩
    have Hg7 := hide (own_keep Hg6.out hb7); have Hb7 := hide (Hb6.out.trans (hb7.mono Hb6.out.size)); clear hb7
    go_wp2_with fail
    refine (heldRowS _ zs.length 1 _ _ (Rd.of_own Hg7.out) (by omega) (by omega)).mono ?_
    rintro e w8 ⟨rfl, rfl⟩
    go_wp2_with fail
    go_ret
    exact ⟨rfl, Hb7.out⟩
  · go_enter Try.func5, Try.ntmps5
    go_wp2
    go_ret
    exact ⟨rfl, Below.refl _ _⟩
end Go.Proofs.Ythcdogkkkejodaa
