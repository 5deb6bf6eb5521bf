/- FnExactReadU: the call returns true. No condition. -/
import Derived.Test.YtofhnifbnpoihaaRdS
import Derived.Test.YtofhnifbnpoihaaLebL
set_option linter.unusedSimpArgs false
set_option linter.unusedVariables false
set_option maxRecDepth 100000
namespace Go.Proofs.Ytofhnifbnpoihaa
open Go.RowKit

theorem impl_ReadU (s : ByteArray) (a : Int) (hs : s.size ≤ 9223372036854775807) (h1 : -9223372036854775808 ≤ a) (h2 : a ≤ 9223372036854775807) (w : World) :
    Calls Try.prog 26 #[.string s, .int .i64 a] w fun e w' => e = .returned (.tuple #[.int .u64 (rdU s a).1, .int .i64 (rdU s a).2.1, .int .i64 (rdU s a).2.2.1, .bool (rdU s a).2.2.2]) ∧ w = w' := by
  go_enter Try.func26, Try.ntmps26
  go_wp2_with (go_at_call 56; refine (impl_readU s a hs h1 h2 _).mono ?_; rintro e w' ⟨rfl, rfl⟩)
  refine bodyPost_ret (results4 rfl _ _ _) rfl ?_
  exact ⟨rfl, rfl⟩

theorem law_FnExactReadU (s : ByteArray) (ws : s.size ≤ maxLen) (a : Int) (wa : (Lit.int .i64 a).wf = true) (w : World) :
    Calls Try.prog 9 #[.string s, .int .i64 a] w fun e w' => e = .returned (.bool true) ∧ Below w.heap.size w w' := by
  obtain ⟨h1, h2⟩ := bd_i64 wa
  have hs : s.size ≤ 9223372036854775807 := by unfold maxLen at ws; omega
  clear ws
  by_cases hb : s.size ≤ 1048576
  · go_enter Try.func9, Try.ntmps9
    go_wp2_with (first
      | (go_at_call 25; refine (spec_ReadU s a hs h1 h2 _).mono ?_; rintro e w1 ⟨rfl, hb1⟩)
      | (go_at_call 26; refine (impl_ReadU s a hs h1 h2 _).mono ?_; rintro e w2 ⟨rfl, rfl⟩))
    go_ret
    exact ⟨rfl, hb1⟩
  · go_enter Try.func9, Try.ntmps9
    go_wp2
    go_ret
    exact ⟨rfl, Below.refl _ _⟩
end Go.Proofs.Ytofhnifbnpoihaa
