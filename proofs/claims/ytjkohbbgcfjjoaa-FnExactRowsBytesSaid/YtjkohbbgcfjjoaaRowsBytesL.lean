/- FnExactRowsBytes: the call returns true. No condition. -/
import Derived.Test.YtjkohbbgcfjjoaaGrL
import Derived.Test.YtjkohbbgcfjjoaaRb
set_option linter.unusedSimpArgs false
set_option linter.unusedVariables false
set_option maxRecDepth 100000
namespace Go.Proofs.Ytjkohbbgcfjjoaa
open Go.RowKit Go.WideShapes Go.ChangeShapes
theorem bd_i64 {a : Int} (h : (Lit.int .i64 a).wf = true) : -9223372036854775808 ≤ a ∧ a ≤ 9223372036854775807 := by
  simp [Lit.wf, IntKind.min, IntKind.max, IntKind.bits, IntKind.signed] at h; omega

set_option maxHeartbeats 800000 in
theorem law_FnExactRowsBytes (w : World) (v : Value) (h : IsRows w v) (many : Int) (wmany : (Lit.int .i64 many).wf = true) :
    Calls Try.prog 8 #[v, .int .i64 many] w fun e w' => e = .returned (.bool true) ∧ Below w.heap.size w w' := by
  obtain ⟨l, hr, hwf⟩ := h
  obtain ⟨many1, many2⟩ := bd_i64 wmany
  have hl : l.length ≤ 9223372036854775807 := by obtain ⟨A, c, _, h1, h2, _⟩ := hr; unfold maxLen at h2; omega
  obtain ⟨A, c, rfl, hn, hc, hcell⟩ := id hr
  have Hr := hide hr
  clear hcell hwf hr hn hc
  go_enter Try.func8, Try.ntmps8
  go_wp2_with fail
  refine (szRowS _ _ _ _ _ _ Hr.out (by omega) (by omega)).mono ?_
  rintro e w' ⟨rfl, rfl⟩
  by_cases hb : l.length ≤ 1048576
  · rw [if_pos (by omega)]
    go_wp2_with fail
    refine (toRowS _ l _ Hr.out hb).mono ?_
    rintro e w1 ⟨v1, rfl, hown1, hb1⟩
    have Ho1 := hide hown1; have Hb1 := hide hb1; clear hown1 hb1
    go_wp2_with fail
    refine (spec_RowsBytes _ l many _ (Rd.of_own Ho1.out) hl).mono ?_
    rintro e w2 ⟨rfl, hb2⟩
    have Hb2 := hide (Hb1.out.trans (hb2.mono Hb1.out.size)); clear hb2
    go_wp2_with fail
    refine (toRowS _ l _ (Hr.out.here Hb2.out) hb).mono ?_
    rintro e w3 ⟨v3, rfl, hown3, hb3⟩
    have Ho3 := hide hown3; have Hb3 := hide (Hb2.out.trans (hb3.mono Hb2.out.size)); clear hown3 hb3
    go_wp2_with fail
    refine (impl_RowsBytes _ l many _ (Rd.of_own Ho3.out) hl).mono ?_
    rintro e w4 ⟨rfl, hb4⟩
    have Hr4 := hide ((Rd.of_own Ho3.out).here hb4); have Hb4 := hide (Hb3.out.trans (hb4.mono Hb3.out.size)); clear hb4
    go_wp2_with fail
    refine (toRowS _ l _ (Hr.out.here Hb4.out) hb).mono ?_
    rintro e w5 ⟨v5, rfl, hown5, hb5⟩
    have Ho5 := hide hown5; have Hr5 := hide (Hr4.out.here hb5); have Hb5 := hide (Hb4.out.trans (hb5.mono Hb4.out.size)); clear hown5 hb5
    go_wp2_with fail
    refine (eqRowS _ _ l _ Hr5.out (Rd.of_own Ho5.out) hl).mono ?_
    rintro e w6 ⟨rfl, hb6⟩
    go_wp2_with fail
    go_ret
    exact ⟨rfl, Hb5.out.trans (hb6.mono Hb5.out.size)⟩
  · rw [if_neg (by omega)]
    go_wp2
    go_ret
    exact ⟨rfl, Below.refl _ _⟩
end Go.Proofs.Ytjkohbbgcfjjoaa
