
/- The drawn laws' arguments, and whether they are too long. No condition. -/
import Derived.Test.YtheddnjhkcpmnaaGreatDoorMem
import Derived.Test.YtheddnjhkcpmnaaGreatDoorOpen
import Derived.Test.YtheddnjhkcpmnaaGreatDoorChecked
set_option linter.unusedSimpArgs false
set_option linter.unusedVariables false
set_option maxRecDepth 100000
namespace Go.Proofs.YtheddnjhkcpmnaaGreatDoor
open Go.RowKit Go.WideShapes Go.ChangeShapes

def IsU8s (w : World) (v : Value) : Prop := ∃ zs : List Int, Rd w w.heap.size v zs.length (icells .u8 zs) ∧ (∀ z ∈ zs, (Lit.int .u8 z).wf = true)
theorem open_u8s {H : Type} {enc : TypeId × Value → H} {w : World} {r : Reach} {b0 : Nat} {v : Value} {d : DataW H} {p : List MemPlace}
    (hv : Value.okWide Tryz.prog w r b0 22 v) (h : DataW.Trod enc Tryz.prog w 0 (fun _ => true) true 22 v d p) (_ : ∀ x ∈ p, x.block < w.heap.size) : IsU8s w v :=
  open_ints_rd Tryz.underlying22 Tryz.underlying5 (by kernel_rfl) hv h
theorem bd_u8 {a : Int} (h : (Lit.int .u8 a).wf = true) : 0 ≤ a ∧ a ≤ 255 := by
  simp [Lit.wf, IntKind.min, IntKind.max, IntKind.bits, IntKind.signed] at h; omega
def bigB (a b : Nat) : Bool := decide ((1048576 : Int) < a ∨ (1048576 : Int) - a < b)
set_option maxHeartbeats 800000 in
theorem laws_big (A1 A2 : Option Addr) (c1 c2 a b : Nat) (ha : a ≤ 9223372036854775807) (hb : b ≤ 9223372036854775807) (w : World) :
    Calls Tryz.prog 4 #[.slice A1 a c1, .slice A2 b c2] w fun e w' => e = .returned (.bool (bigB a b)) ∧ w' = w := by
  by_cases h1 : (1048576 : Int) < a
  · have e : bigB a b = true := decide_eq_true (.inl h1)
    rw [e]; clear e
    go_enter Tryz.func4, Tryz.ntmps4
    go_wp2
    go_ret
    exact ⟨rfl, rfl⟩
  · by_cases h2 : (1048576 : Int) - a < b
    · have e : bigB a b = true := decide_eq_true (.inr h2)
      rw [e]; clear e
      go_enter Tryz.func4, Tryz.ntmps4
      go_wp2
      go_ret
      exact ⟨rfl, rfl⟩
    · have e : bigB a b = false := decide_eq_false (fun h => h.elim h1 h2)
      rw [e]; clear e
      go_enter Tryz.func4, Tryz.ntmps4
      go_wp2
      go_ret
      exact ⟨rfl, rfl⟩
end Go.Proofs.YtheddnjhkcpmnaaGreatDoor
