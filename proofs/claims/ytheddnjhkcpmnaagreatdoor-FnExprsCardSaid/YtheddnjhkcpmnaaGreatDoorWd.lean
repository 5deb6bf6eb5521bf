
/- strconv.Itoa at this program, in the plain laws' words. No condition. -/
import Derived.Test.YtheddnjhkcpmnaaGreatDoorLwP
import Derived.Test.YtheddnjhkcpmnaaGreatDoorMem
import Derived.Test.YtheddnjhkcpmnaaGreatDoorShelf
import Derived.Lib.ItoaNum
import Derived.WalkSmall
import Derived.Shelf.SlSorted.Search
set_option linter.unusedSimpArgs false
set_option linter.unusedVariables false
namespace Go.Proofs.YtheddnjhkcpmnaaGreatDoor
open Go.RowKit

theorem num10_dec : ∀ (n : Nat), num10 n = Lib.decDigits n := by
  intro n
  induction n using Nat.strongRecOn with
  | _ n ih =>
    by_cases h : n < 10
    · rw [num10_small h, Lib.decDigits_one h]
    · rw [num10_more h, ih (n / 10) (by omega), Lib.decDigits.eq_def n, dif_neg h]
theorem itoa_intT (n : Int) : Lib.itoa n = intT n := by
  unfold Lib.itoa intT
  by_cases h : n < 0
  · rw [if_pos h, if_pos h, num10_dec, show n.natAbs = (-n).toNat by omega]
  · rw [if_neg h, if_neg h, num10_dec]
/-- the table that strconv's formatting reads -/
def P10 (w : World) : Prop := Lib.TabIs Tryz.prog w "internal/strconv.uint64pow10" .u64 Lib.pow10Tab
theorem strconv_Itoa (n : Int) (h1 : -2147483648 ≤ n) (h2 : n ≤ 2147483647) (w : World) (ht : P10 w) :
    Calls Tryz.prog 49 #[.int .i64 n] w fun e w' => e = .returned (.string ⟨(intT n).toArray⟩) ∧ Below w.heap.size w w' := by
  refine (Tryz.strconv_Itoa n (by omega) (by omega) w ht).mono ?_
  rintro e w' ⟨rfl, k, os, rfl⟩
  rw [itoa_intT]
  exact ⟨rfl, below_grown_sl _ _ _ _ (Nat.le_refl _)⟩
end Go.Proofs.YtheddnjhkcpmnaaGreatDoor
