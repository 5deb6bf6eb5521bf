
/- FnExactExprText: the call returns true. Conditions: the words and the table lie where the program lays them. -/
import Derived.Test.YtheddnjhkcpmnaaDoorEt
import Derived.Test.YtheddnjhkcpmnaaDoorTokM
import Derived.Test.YtheddnjhkcpmnaaDoorNst
import Derived.Test.YtheddnjhkcpmnaaDoorOpen2
set_option linter.unusedSimpArgs false
set_option linter.unusedVariables false
set_option maxRecDepth 100000
namespace Go.Proofs.YtheddnjhkcpmnaaDoor
open Go.RowKit Go.WideShapes Go.ChangeShapes

set_option maxHeartbeats 1600000 in
theorem law_FnExactExprText (w : World) (v : Value) (h : IsPairs w v) (hp : P10 w) (hg : 4 < w.heap.size) (hw : ExWs w) :
    Calls Tryd.prog 5 #[v] w fun e w' => e = .returned (.bool true) ∧ Below w.heap.size w w' := by
  obtain ⟨l, hr, hwf⟩ := h
  have hl : l.length ≤ 9223372036854775807 := by obtain ⟨A, c, _, h1, h2, _⟩ := hr; unfold maxLen at h2; omega
  obtain ⟨A, c, rfl, hn, hc, hcell⟩ := id hr
  have Hr := hide hr
  clear hcell hwf hr hn hc
  go_enter Tryd.func5, Tryd.ntmps5
  go_wp2_with fail
  refine (szTokS _ _ _ _ _ _ Hr.out (by omega) (by omega)).mono ?_
  rintro e w' ⟨rfl, rfl⟩
  by_cases hb : l.length ≤ 1048576
  · rw [if_pos (by omega)]
    have hS := fun v w hr => spec_ExprText v l w hr hl
    have hI := fun v W hr (hW : Below w.heap.size w W) => impl_ExprText v l W hr hl (hp.belowE hW hg) (Nat.lt_of_lt_of_le hg hW.size) (hw.below hW)
    generalize (if exprOk l then (⟨(exprF 0 l).toArray⟩ : ByteArray) else ⟨#[]⟩) = T at *
    generalize exprOk l = ok at *
    have HS := hide hS; have HI := hide hI; clear hS hI hp hw
    go_wp2_with fail
    refine (toTokS _ l _ Hr.out hb).mono ?_
    rintro e w1 ⟨v1, rfl, hown1, hb1⟩
    have Ho1 := hide hown1; have Hb1 := hide hb1; clear hown1 hb1
    go_wp2_with fail
    refine (HS.out _ _ (Rd.of_own Ho1.out)).mono ?_
    rintro e w2 ⟨rfl, hb2⟩
    have Hb2 := hide (Hb1.out.trans (hb2.mono Hb1.out.size)); clear hb2
    go_wp2_with fail
    refine (toTokS _ l _ (Hr.out.here Hb2.out) hb).mono ?_
    rintro e w3 ⟨x, rfl, hown3, hb3⟩
    have Ho3 := hide hown3; have Hb3 := hide (Hb2.out.trans (hb3.mono Hb2.out.size)); clear hown3 hb3
    go_wp2_with fail
    refine (HI.out _ _ (Rd.of_own Ho3.out) Hb3.out).mono ?_
    rintro e w4 ⟨rfl, hb4⟩
    have Hx4 := hide (own_keep Ho3.out hb4); have Hb4 := hide (Hb3.out.trans (hb4.mono Hb3.out.size)); clear hb4
    go_wp2_with fail
    refine (toTokS _ l _ (Hr.out.here Hb4.out) hb).mono ?_
    rintro e w6 ⟨y, rfl, hown6, hb6⟩
    have Hy6 := hide hown6; have Hx6 := hide (own_keep Hx4.out hb6); have Hb6 := hide (Hb4.out.trans (hb6.mono Hb4.out.size)); clear hown6 hb6
    go_wp2_with fail
    refine (eqTokS _ _ l _ (Rd.of_own Hx6.out) (Rd.of_own Hy6.out) hl).mono ?_
    rintro e w7 ⟨rfl, hb7⟩
    have Hb7 := hide (Hb6.out.trans (hb7.mono Hb6.out.size)); clear hb7
    go_wp2_with fail
    go_ret
    exact ⟨rfl, Hb7.out⟩
  · rw [if_neg (by omega)]
    go_wp2
    go_ret
    exact ⟨rfl, Below.refl _ _⟩
end Go.Proofs.YtheddnjhkcpmnaaDoor
