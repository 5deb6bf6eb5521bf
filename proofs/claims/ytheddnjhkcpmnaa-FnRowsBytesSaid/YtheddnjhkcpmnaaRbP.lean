
/- Rows as bytes: plain Lean. No condition. -/
import Derived.Test.YtheddnjhkcpmnaaGr
import Derived.Test.YtheddnjhkcpmnaaLebP
set_option linter.unusedSimpArgs false
set_option linter.unusedVariables false
namespace Go.Proofs.Ytheddnjhkcpmnaa

def rowB (x : Int) (r : R3) : List UInt8 := leb (r.f - x).toNat ++ (leb (r.t - r.f).toNat ++ lebs (r.p - r.t))
def rowsBL : Int → List R3 → List UInt8
  | _, [] => []
  | x, r :: l => rowB x r ++ rowsBL r.t l
def rowsB (l : List R3) : List UInt8 := leb l.length ++ rowsBL 0 l
theorem rowsBL_step {x : Int} {l : List R3} {k : Nat} (h : k < l.length) : rowsBL x (l.drop k) = rowB x l[k] ++ rowsBL l[k].t (l.drop (k + 1)) := by
  rw [List.drop_eq_getElem_cons h]; rfl
theorem rowB_le (x : Int) (r : R3) : (rowB x r).length ≤ 33 := by
  unfold rowB
  rw [List.length_append, List.length_append]
  have := leb_le (r.f - x).toNat
  have := leb_le (r.t - r.f).toNat
  have := lebs_le (r.p - r.t)
  omega
theorem rowsOk_step {many x : Int} {l : List R3} {k : Nat} (h : k < l.length) (hok : rowsOk many x (l.drop k) = true) : rowOk x many l[k] ∧ rowsOk many l[k].t (l.drop (k + 1)) = true := by
  by_cases g : rowOk x many l[k]
  · exact ⟨g, by rw [rowsOk_yes h g] at hok; exact hok⟩
  · rw [rowsOk_no h g] at hok; cases hok
def rbS (l : List R3) (many : Int) : ByteArray := if goodRows l many = true ∧ (rowsB l).length ≤ 2000 then ⟨(rowsB l).toArray⟩ else ⟨#[]⟩
def rbB (l : List R3) (many : Int) : Bool := decide (goodRows l many = true ∧ (rowsB l).length ≤ 2000)
theorem rb_yes {l : List R3} {many : Int} (h : goodRows l many = true) (h2 : (rowsB l).length ≤ 2000) : rbS l many = ⟨(rowsB l).toArray⟩ ∧ rbB l many = true := by simp [rbS, rbB, h, h2]
theorem rb_no {l : List R3} {many : Int} (h : ¬ (goodRows l many = true ∧ (rowsB l).length ≤ 2000)) : rbS l many = ⟨#[]⟩ ∧ rbB l many = false := by
  unfold rbS rbB; rw [if_neg h, decide_eq_false h]; exact ⟨rfl, rfl⟩
theorem rowsOk_of_good {l : List R3} {many : Int} (h : goodRows l many = true) : rowsOk many 0 l = true := by
  unfold goodRows at h; simp at h; exact h.2.2
end Go.Proofs.Ytheddnjhkcpmnaa
