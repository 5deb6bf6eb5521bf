
/- Rows in memory: toRow, toRowS, eqRow, eqRowS, szRowS, markRowS, heldRowS. No condition. -/
import Derived.Test.YtheddnjhkcpmnaaMem
import Derived.Test.YtheddnjhkcpmnaaChecked
import Derived.Handy
import Derived.Deep.Light
import Derived.Deep.QuietTactic
import Derived.BigQuiet
import Derived.StillTailTactics
import Derived.Deep.RegionWith
set_option linter.unusedSimpArgs false
set_option linter.unusedVariables false
set_option maxRecDepth 100000
namespace Go.Proofs.Ytheddnjhkcpmnaa
open Go.RowKit

structure R3 where
  f : Int
  t : Int
  p : Int
def R3.cell (r : R3) : List Value := [.int .i64 r.f, .int .i64 r.t, .int .i64 r.p]
def R3.agg (r : R3) : Value := .agg #[.int .i64 r.f, .int .i64 r.t, .int .i64 r.p]
def rcells (l : List R3) : List Value := l.flatMap R3.cell
theorem rcells_length (l : List R3) : (rcells l).length = l.length * 3 := by
  induction l with
  | nil => rfl
  | cons r l ih => simp only [rcells, List.flatMap_cons, List.length_append, List.length_cons] at *; rw [ih]; simp [R3.cell]; omega
theorem rcells_append (a b : List R3) : rcells (a ++ b) = rcells a ++ rcells b := by simp [rcells]
theorem rcells_cons (r : R3) (l : List R3) : rcells (r :: l) = .int .i64 r.f :: .int .i64 r.t :: .int .i64 r.p :: rcells l := rfl
theorem rcells_set : ∀ (l : List R3) (k : Nat) (r : R3), k < l.length → (((rcells l).set (k * 3) (.int .i64 r.f)).set (k * 3 + 1) (.int .i64 r.t)).set (k * 3 + 2) (.int .i64 r.p) = rcells (l.set k r) := by
  intro l
  induction l with
  | nil => intro k r h; simp at h
  | cons x l ih =>
    intro k r h
    cases k with
    | zero => simp [rcells_cons]
    | succ k =>
      have := ih k r (by simpa using h)
      rw [show (k + 1) * 3 = k * 3 + 1 + 1 + 1 by omega]
      simp only [rcells_cons, List.set_cons_succ]
      rw [← this]
theorem rcells_get (l : List R3) (k : Nat) (h : k < l.length) : (rcells l)[k * 3]? = some (.int .i64 l[k].f) ∧ (rcells l)[k * 3 + 1]? = some (.int .i64 l[k].t) ∧ (rcells l)[k * 3 + 2]? = some (.int .i64 l[k].p) := by
  have e : l = l.take k ++ (l[k] :: l.drop (k + 1)) := by rw [← List.drop_eq_getElem_cons h, List.take_append_drop]
  have hl : (rcells (l.take k)).length = k * 3 := by rw [rcells_length, List.length_take, Nat.min_eq_left (by omega)]
  have e2 : rcells l = rcells (l.take k) ++ (l[k].cell ++ rcells (l.drop (k + 1))) := by
    conv => lhs; rw [e]
    rw [rcells_append]; rfl
  rw [e2]
  refine ⟨?_, ?_, ?_⟩ <;> rw [List.getElem?_append_right (by omega), hl] <;> simp [R3.cell]

theorem okRow : SliceOk Try.prog 61 72 (.agg #[.int .i64 0, .int .i64 0, .int .i64 0]) 3 24 := .mk Try.underlying61 (by kernel_rfl) rfl (by decide)

end Go.Proofs.Ytheddnjhkcpmnaa
