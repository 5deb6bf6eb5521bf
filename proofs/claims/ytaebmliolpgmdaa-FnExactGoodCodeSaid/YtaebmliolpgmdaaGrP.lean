
/- Good rows: plain Lean. No condition. -/
import Derived.Test.YtaebmliolpgmdaaRowM
set_option linter.unusedSimpArgs false
set_option linter.unusedVariables false
namespace Go.Proofs.Ytaebmliolpgmdaa

def rowOk (a many : Int) (r : R3) : Prop := a ≤ r.f ∧ r.f < r.t ∧ r.t ≤ many ∧ 0 ≤ r.p ∧ r.p ≤ many - 1
instance (a many : Int) (r : R3) : Decidable (rowOk a many r) := by unfold rowOk; infer_instance
def rowsOk (many : Int) : Int → List R3 → Bool
  | _, [] => true
  | a, r :: l => if rowOk a many r then rowsOk many r.t l else false
theorem rowsOk_yes {many a : Int} {l : List R3} {k : Nat} (h : k < l.length) (hr : rowOk a many l[k]) : rowsOk many a (l.drop k) = rowsOk many l[k].t (l.drop (k + 1)) := by
  rw [List.drop_eq_getElem_cons h]; simp [rowsOk, hr]
theorem rowsOk_no {many a : Int} {l : List R3} {k : Nat} (h : k < l.length) (hr : ¬ rowOk a many l[k]) : rowsOk many a (l.drop k) = false := by
  rw [List.drop_eq_getElem_cons h]; simp [rowsOk, hr]
def goodRows (l : List R3) (many : Int) : Bool := decide (1 ≤ many ∧ many ≤ 300) && (decide (l.length ≤ 300) && rowsOk many 0 l)
/-- rows that are good are no more than there are places -/
theorem rowsOk_few (many : Int) : ∀ (l : List R3) (a : Int), rowsOk many a l = true → l ≠ [] → a + l.length ≤ many := by
  intro l
  induction l with
  | nil => intro a _ h; exact absurd rfl h
  | cons r l ih =>
    intro a h _
    simp only [rowsOk] at h
    by_cases hr : rowOk a many r
    · rw [if_pos hr] at h
      obtain ⟨h1, h2, h3, h4, h5⟩ := hr
      cases l with
      | nil => simp; omega
      | cons x l => have := ih r.t h (by simp); simp at this ⊢; omega
    · rw [if_neg hr] at h; cases h
theorem goodRows_eq (l : List R3) (many : Int) : goodRows l many = (decide (1 ≤ many ∧ many ≤ 300) && rowsOk many 0 l) := by
  unfold goodRows
  by_cases h : 1 ≤ many ∧ many ≤ 300
  · by_cases h2 : rowsOk many 0 l = true
    · have : l.length ≤ 300 := by
        by_cases h3 : l = []
        · subst h3; simp
        · have := rowsOk_few many l 0 h2 h3; omega
      simp [h, h2, this]
    · simp [h, h2]
  · simp [h]

theorem good_no1 {l : List R3} {many : Int} (h : ¬ (1 ≤ many ∧ many ≤ 300)) : false = goodRows l many := by
  unfold goodRows; rw [decide_eq_false h]; rfl
theorem good_no2 {l : List R3} {many : Int} (h : ¬ l.length ≤ 300) : false = goodRows l many := by
  unfold goodRows; rw [decide_eq_false h]; simp
theorem good_yes {l : List R3} {many : Int} (h : 1 ≤ many) (h2 : many ≤ 300) : rowsOk many 0 l = goodRows l many := by
  rw [goodRows_eq, decide_eq_true ⟨h, h2⟩]; rfl
end Go.Proofs.Ytaebmliolpgmdaa
