
/- Reckon: what the Go text returns. No condition. -/
import Derived.Test.YtgcbjphbeifbkaaKit
import Derived.Test.YtgcbjphbeifbkaaChecked
import Derived.Deep.Light
set_option linter.unusedSimpArgs false
set_option linter.unusedVariables false
set_option maxRecDepth 100000
namespace Go.Proofs.Ytgcbjphbeifbkaa
open Go.RowKit

def rk (op x y : Int) : Int × Bool :=
  if (op == 3) = true then (wrap32 (x + y), true) else if (op == 4) = true then (wrap32 (x - y), true) else if (op == 5) = true then (wrap32 (x * y), true)
  else if (op == 6) = true then (if (y == 0) = true then (0, false) else (wrap32 (x.tdiv y), true)) else if (op == 7) = true then (if x < y then 1 else 0, true) else (if (x == y) = true then 1 else 0, true)
theorem retP {a : Int} {b : Bool} {p : Int × Bool} (h : p = (a, b)) : Ending.returned (.tuple #[.int .i64 a, .bool b]) = .returned (.tuple #[.int .i64 p.1, .bool p.2]) := by rw [h]

set_option maxHeartbeats 400000 in
theorem impl_reckon (op x y : Int) (hx1 : -2147483648 ≤ x) (hx2 : x ≤ 2147483647) (hy1 : -2147483648 ≤ y) (hy2 : y ≤ 2147483647) (w : World) :
    Calls Try.prog 94 #[.int .i64 op, .int .i64 x, .int .i64 y] w fun e w' => e = .returned (.tuple #[.int .i64 (rk op x y).1, .bool (rk op x y).2]) ∧ w = w' := by
  go_enter Try.func94, Try.ntmps94
  go_wp2
  all_goals first
    | (exfalso; simp_all; done)
    | (go_ret2
       refine ⟨retP ?_, rfl⟩
       go_light
       simp_all [rk]
       try simp only [wrap64, wrap32]
       try omega)
  all_goals trace_state

set_option maxHeartbeats 400000 in
theorem spec_l2Reckon (op x y : Int) (hx1 : -2147483648 ≤ x) (hx2 : x ≤ 2147483647) (hy1 : -2147483648 ≤ y) (hy2 : y ≤ 2147483647) (w : World) :
    Calls Try.prog 58 #[.int .i64 op, .int .i64 x, .int .i64 y] w fun e w' => e = .returned (.tuple #[.int .i64 (rk op x y).1, .bool (rk op x y).2]) ∧ w = w' := by
  go_enter Try.func58, Try.ntmps58
  go_wp2
  all_goals first
    | (exfalso; simp_all; done)
    | (go_ret2
       refine ⟨retP ?_, rfl⟩
       go_light
       simp_all [rk]
       try simp only [wrap64, wrap32]
       try omega)
  all_goals trace_state


theorem impl_isSmall_yes (n : Int) (h1 : -2147483648 ≤ n) (h2 : n ≤ 2147483647) (w : World) : Calls Try.prog 61 #[.int .i64 n] w fun e w' => e = .returned (.bool true) ∧ w = w' := by
  have e : (n == wrap64 (wrap32 n)) = true := by unfold wrap64 wrap32; rw [beq_iff_eq]; omega
  go_enter Try.func61, Try.ntmps61
  go_wp2
  go_ret
  exact ⟨rfl, rfl⟩
theorem impl_isSmall_no (n : Int) (h : n < -2147483648 ∨ 2147483647 < n) (w : World) : Calls Try.prog 61 #[.int .i64 n] w fun e w' => e = .returned (.bool false) ∧ w = w' := by
  have e : (n == wrap64 (wrap32 n)) = false := by unfold wrap64 wrap32; rw [beq_eq_false_iff_ne]; omega
  clear h
  go_enter Try.func61, Try.ntmps61
  go_wp2
  go_ret
  exact ⟨rfl, rfl⟩

def rkL (op x y : Int) : Int × Bool × Bool :=
  if (3 ≤ op ∧ op ≤ 8) ∧ (-2147483648 ≤ x ∧ x ≤ 2147483647) ∧ (-2147483648 ≤ y ∧ y ≤ 2147483647) then ((rk op x y).1, (rk op x y).2, true) else (0, false, false)
theorem retP3 {a : Int} {b c : Bool} {p : Int × Bool × Bool} (h : p = (a, b, c)) : Ending.returned (.tuple #[.int .i64 a, .bool b, .bool c]) = .returned (.tuple #[.int .i64 p.1, .bool p.2.1, .bool p.2.2]) := by rw [h]

end Go.Proofs.Ytgcbjphbeifbkaa
