
/- What the laws' marks of outcomes leave. No condition. -/
import Derived.Test.YtaebmliolpgmdaaEn3
import Derived.Test.YtaebmliolpgmdaaOc
set_option linter.unusedSimpArgs false
set_option linter.unusedVariables false
set_option maxRecDepth 100000
namespace Go.Proofs.Ytaebmliolpgmdaa
open Go.RowKit

set_option maxHeartbeats 800000 in
theorem markOc (a b : Int) (v : Value) (u : Int) (zs : List Int) (k0 : Int) (w : World) (base : Nat) (hown : w.ownsRow base 3 1 v zs.length (icells .i64 zs)) (hk : 0 ≤ k0) (hk2 : k0 + zs.length ≤ 4000000000000000000) :
    Calls Try.prog 23 #[ocV a b v u, .int .i64 k0] w fun e w' => e = .returned (.int .i64 (k0 + zs.length)) ∧ w'.ownsRow base 3 1 v zs.length (icells .i64 (iota k0 zs.length)) ∧ ∃ W0, Below w.heap.size w W0 ∧ W0.grownBy w' v.ownBlock := by
  have hb := (Below.refl w.heap.size w).alloc (Nat.le_refl _) (.cells #[.int .i64 a, .int .i64 b, v, .int .i64 u] 50)
  have hm := markIntS v zs k0 _ base (own_keep hown hb) hk hk2
  obtain ⟨A, c, rfl⟩ := own_form hown
  have Hm := hide hm; have Hb := hide hb
  clear hm hb hown
  go_enter Try.func23, Try.ntmps23
  go_wp2_with (go_at_call 53; refine (Hm.out).mono ?_; rintro e w1 ⟨rfl, ho1, hg1⟩)
  go_ret
  exact ⟨rfl, ho1, _, Hb.out, hg1⟩
set_option maxHeartbeats 800000 in
theorem heldOc (a b : Int) (v : Value) (u : Int) (n : Nat) (k0 : Int) (w : World) (hr : Rd w w.heap.size v n (icells .i64 (iota k0 n))) (hk : 0 ≤ k0) (hk2 : k0 + n ≤ 4000000000000000000) :
    Calls Try.prog 24 #[ocV a b v u, .int .i64 k0] w fun e w' => e = .returned (.int .i64 (k0 + n)) ∧ Below w.heap.size w w' := by
  have hb := (Below.refl w.heap.size w).alloc (Nat.le_refl _) (.cells #[.int .i64 a, .int .i64 b, v, .int .i64 u] 50)
  have hm := heldIntS v n k0 _ w.heap.size (hr.below hb) hk hk2
  obtain ⟨A, c, rfl, _, _, _⟩ := hr
  have Hm := hide hm; have Hb := hide hb
  clear hm hb
  go_enter Try.func24, Try.ntmps24
  go_wp2_with (go_at_call 55; refine (Hm.out).mono ?_; rintro e w1 ⟨rfl, rfl⟩)
  go_ret
  exact ⟨rfl, Hb.out⟩
theorem eqOc (a b : Int) (v v2 : Value) (u : Int) (zs : List Int) (w : World) (hr : Rd w w.heap.size v zs.length (icells .i64 zs)) (hr2 : Rd w w.heap.size v2 zs.length (icells .i64 zs)) :
    Calls Try.prog 21 #[ocV a b v u, ocV a b v2 u] w fun e w' => e = .returned (.bool true) ∧ Below w.heap.size w w' := eqOutcome ⟨a, b, zs, u⟩ v v2 w hr hr2
theorem eT_length (m : VmM) : (eT m).length ≤ szVmN m := by
  unfold eT
  split
  · unfold szVmN; omega
  · simp
theorem trace_length (m : VmM) : m.qTrace.length ≤ szVmN m := by unfold szVmN; omega
end Go.Proofs.Ytaebmliolpgmdaa
