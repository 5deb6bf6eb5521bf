
/- toIntS, eqIntS, markIntS, heldIntS, szIntS: what the Go text does. No condition. -/
import Derived.Test.YtheddnjhkcpmnaaMem
import Derived.Test.YtheddnjhkcpmnaaChecked
import Derived.Handy
import Derived.Deep.Light
import Derived.Deep.QuietTactic
import Derived.BigQuiet
set_option linter.unusedSimpArgs false
set_option linter.unusedVariables false
set_option maxRecDepth 100000
namespace Go.Proofs.Ytheddnjhkcpmnaa
open Go.RowKit

theorem okI64 : SliceOk Try.prog 48 3 (.int .i64 0) 1 8 := .mk Try.underlying48 (by kernel_rfl) rfl (by decide)

def iota (k : Int) (n : Nat) : List Int := (List.range n).map fun (j : Nat) => k + (j : Int)
theorem iota_length (k : Int) (n : Nat) : (iota k n).length = n := by simp [iota]
theorem iota_get (k : Int) (n j : Nat) (h : j < n) : (iota k n)[j]'(by rw [iota_length]; exact h) = k + j := by simp [iota]
theorem iota_succ (k : Int) (n : Nat) : iota k (n + 1) = iota k n ++ [k + n] := by simp [iota, List.range_succ]
theorem mark_set (zs : List Int) (k : Int) (j : Nat) (h : j < zs.length) : (iota k j ++ zs.drop j).set j (k + j) = iota k (j + 1) ++ zs.drop (j + 1) := by
  rw [List.set_append, if_neg (by rw [iota_length]; omega), iota_length, Nat.sub_self, List.drop_eq_getElem_cons h, iota_succ, List.set_cons_zero, List.append_assoc]
  rfl
theorem grown_set {a w : World} {g : Nat} (h : a.grownBy w (some g)) {p : Addr} (hp : p.block = g) (u : Value) : a.grownBy (w.setCell p u) (some g) :=
  ⟨h.os, h.tape, h.output, by simpa [World.setCell] using h.size, fun i hi hne => (Below.heap_setCell w p u i (by rintro rfl; exact hne (by rw [hp]))).trans (h.block i hi hne)⟩

end Go.Proofs.Ytheddnjhkcpmnaa
set_option linter.unusedVariables false
namespace Go.Proofs.Ytheddnjhkcpmnaa
open Go.RowKit
end Go.Proofs.Ytheddnjhkcpmnaa
