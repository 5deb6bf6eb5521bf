
/- Numbers and texts drawn for LEB128: what the Go text returns. No condition. -/
import Derived.Test.YtheddnjhkcpmnaaGreatDoorDr
import Derived.Test.YtheddnjhkcpmnaaGreatDoorLeb
set_option linter.unusedSimpArgs false
set_option linter.unusedVariables false
set_option maxRecDepth 100000
namespace Go.Proofs.YtheddnjhkcpmnaaGreatDoor
open Go.RowKit

def U64P (g : Nat) (A : Option Addr) (c : Nat) (zs : List Int) (K : Nat) (w : World) (e : Ending) (w' : World) : Prop := ∃ n : Int, e = .returned (.int .u64 n) ∧ (0 ≤ n ∧ n ≤ 18446744073709551615) ∧ Cur g A c zs (K + 16) w' ∧ Dw g w w'
def tabU : List Int := [0, 1, 127, 128, 16383, 16384, 9223372036854775807, 9223372036854775808, 18446744073709551615]
theorem tabU_rng : ∀ z ∈ tabU, 0 ≤ z ∧ z ≤ 18446744073709551615 := by decide
theorem pick9 {x : Int} (h : 0 ≤ x ∧ (1 ≤ (9 : Int) → x < 9)) : ∃ k : Nat, x = k ∧ k < tabU.length := by
  have := h.2 (by decide)
  exact ⟨x.toNat, by omega, by show x.toNat < 9; omega⟩
theorem tab_new (w : World) : Bk (w.alloc (.cells (icells .u64 tabU).toArray 46)) w.heap.size 46 (icells .u64 tabU).toArray := Bk.new w _ _
def SintP (g : Nat) (A : Option Addr) (c : Nat) (zs : List Int) (K : Nat) (w : World) (e : Ending) (w' : World) : Prop := ∃ n : Int, e = .returned (.int .i64 n) ∧ (-9223372036854775808 ≤ n ∧ n ≤ 9223372036854775807) ∧ Cur g A c zs (K + 16) w' ∧ Dw g w w'
def tabS : List Int := [0, 1, -1, 63, 64, -64, -65, 127, 128, 8191, 8192, -8192, -8193, 4611686018427387903, 4611686018427387904, -4611686018427387904, 9223372036854775807, -9223372036854775808]
theorem tabS_rng : ∀ z ∈ tabS, -9223372036854775808 ≤ z ∧ z ≤ 9223372036854775807 := by decide
/-- the choices' state at its start -/
theorem cur_start {w : World} {v : Value} {zs : List Int} (hr : Rd w w.heap.size v zs.length (icells .u8 zs)) (hz : ∀ z ∈ zs, 0 ≤ z ∧ z ≤ 255) : ∃ A c, v = .slice A zs.length c ∧ Cur w.heap.size A c zs 0 (w.alloc (.cells #[.slice A zs.length c, .int .i64 0, .int .u64 0] 48)) := by
  obtain ⟨A, c, rfl, h1, h2, h3⟩ := id hr
  exact ⟨A, c, rfl, ⟨0, 0, Nat.le_refl _, by omega, Bk.new _ _ _⟩, hr.below ((Below.refl _ _).alloc (Nat.le_refl _) _), hz⟩
theorem dw_below {w w1 : World} {o : Obj} (h : Dw w.heap.size (w.alloc o) w1) : Below w.heap.size w w1 := ((Below.refl _ _).alloc (Nat.le_refl _) o).trans (h.below (Nat.le_refl _) (by simp))
end Go.Proofs.YtheddnjhkcpmnaaGreatDoor
