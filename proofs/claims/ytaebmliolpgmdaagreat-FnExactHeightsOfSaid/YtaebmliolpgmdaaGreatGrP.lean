
/- Good rows: plain Lean. No condition. -/
import Derived.Test.YtaebmliolpgmdaaGreatRowM
set_option linter.unusedSimpArgs false
set_option linter.unusedVariables false
namespace Go.Proofs.YtaebmliolpgmdaaGreat

def rowOk (a many : Int) (r : R3) : Prop := a ≤ r.f ∧ r.f < r.t ∧ r.t ≤ many ∧ 0 ≤ r.p ∧ r.p ≤ many - 1
instance (a many : Int) (r : R3) : Decidable (rowOk a many r) := by unfold rowOk; infer_instance
def rowsOk (many : Int) : Int → List R3 → Bool
  | _, [] => true
  | a, r :: l => if rowOk a many r then rowsOk many r.t l else false
theorem rowsOk_yes {many a : Int} {l : List R3} {k : Nat} (h : k < l.length) (hr : rowOk a many l[k]) : rowsOk many a (l.drop k) = rowsOk many l[k].t (l.drop (k + 1)) := by
  rw [List.drop_eq_getElem_cons h]; simp [rowsOk, hr]
theorem rowsOk_no {many a : Int} {l : List R3} {k : Nat} (h : k < l.length) (hr : ¬ rowOk a many l[k]) : rowsOk many a (l.drop k) = false := by
  rw [List.drop_eq_getElem_cons h]; simp [rowsOk, hr]
def goodRows (l : List R3) (many : Int) : Bool := decide (1 ≤ many ∧ many ≤ 300) && (decide (l.length ≤ 300) && rowsOk many 0 l)
/-- rows that are good are no more than there are places -/
theorem rowsOk_few (many : Int) : ∀ (l : List R3) (a : Int), rowsOk many a l = true → l ≠ [] → a + l.length ≤ many := by
  intro l
  induction l with
  | nil => intro a _ h; exact absurd rfl h
  | cons r l ih =>
    intro a h _
    simp only [rowsOk] at h
    by_cases hr : rowOk a many r
    · rw [if_pos hr] at h
      obtain ⟨h1, h2, h3, h4, h5⟩ := hr
      cases l with
      | nil => simp; omega
      | cons x l => have := ih r.t h (by simp); simp at this ⊢; omega
    · rw [if_neg hr] at h; cases h
theorem goodRows_eq (l : List R3) (many : Int) : goodRows l many = (decide (1 ≤ many ∧ many ≤ 300) && rowsOk many 0 l) := by
  unfold goodRows
  by_cases h : 1 ≤ many ∧ many ≤ 300
  · by_cases h2 : rowsOk many 0 l = true
    · have : l.length ≤ 300 := by
        by_cases h3 : l = []
        · subst h3; simp
        · have := rowsOk_few many l 0 h2 h3; omega
      simp [h, h2, this]
    · simp [h, h2]
  · simp [h]

theorem good_no1 {l : List R3} {many : Int} (h : ¬ (1 ≤ many ∧ many ≤ 300)) : false = goodRows l many := by
  unfold goodRows; rw [decide_eq_false h]; rfl
theorem good_no2 {l : List R3} {many : Int} (h : ¬ l.length ≤ 300) : false = goodRows l many := by
  unfold goodRows; rw [decide_eq_false h]; simp
theorem good_yes {l : List R3} {many : Int} (h : 1 ≤ many) (h2 : many ≤ 300) : rowsOk many 0 l = goodRows l many := by
  rw [goodRows_eq, decide_eq_true ⟨h, h2⟩]; rfl
end Go.Proofs.YtaebmliolpgmdaaGreat
set_option linter.unusedSimpArgs false
set_option linter.unusedVariables false
namespace Go.Proofs.YtaebmliolpgmdaaGreat

def hit (a : Int) (r : R3) : Prop := r.f ≤ a ∧ a < r.t
instance (a : Int) (r : R3) : Decidable (hit a r) := by unfold hit; infer_instance
def rowIx (a : Int) : List R3 → Nat → Int
  | [], _ => -1
  | r :: l, i => if hit a r then i else rowIx a l (i + 1)
theorem rowIx_yes {a : Int} {l : List R3} {k : Nat} (h : k < l.length) (hr : hit a l[k]) : rowIx a (l.drop k) k = k := by
  rw [List.drop_eq_getElem_cons h]; simp [rowIx, hr]
theorem rowIx_no {a : Int} {l : List R3} {k : Nat} (h : k < l.length) (hr : ¬ hit a l[k]) : rowIx a (l.drop k) k = rowIx a (l.drop (k + 1)) (k + 1) := by
  rw [List.drop_eq_getElem_cons h]; simp [rowIx, hr]
theorem rowIx_end {a : Int} {l : List R3} : rowIx a (l.drop l.length) l.length = -1 := by rw [List.drop_length]; rfl
theorem rowIx_bd (a : Int) : ∀ (l : List R3) (i : Nat), rowIx a l i = -1 ∨ ((i : Int) ≤ rowIx a l i ∧ rowIx a l i < i + l.length) := by
  intro l
  induction l with
  | nil => intro i; exact .inl rfl
  | cons r l ih =>
    intro i
    simp only [rowIx]
    split
    · right; simp; omega
    · rcases ih (i + 1) with h | ⟨h1, h2⟩
      · exact .inl h
      · right; simp at *; omega
/-- rows that are good lie within bounds -/
def small (l : List R3) : Prop := ∀ r ∈ l, 0 ≤ r.f ∧ r.f ≤ 300 ∧ 0 ≤ r.t ∧ r.t ≤ 300 ∧ 0 ≤ r.p ∧ r.p ≤ 300
theorem small_of_rows (many : Int) (hm : many ≤ 300) : ∀ (l : List R3) (a : Int), 0 ≤ a → rowsOk many a l = true → small l := by
  intro l
  induction l with
  | nil => intro a _ _ r hr; simp at hr
  | cons x l ih =>
    intro a ha h
    simp only [rowsOk] at h
    by_cases hr : rowOk a many x
    · rw [if_pos hr] at h
      obtain ⟨h1, h2, h3, h4, h5⟩ := hr
      intro r hrm
      rcases List.mem_cons.1 hrm with rfl | hrm
      · exact ⟨by omega, by omega, by omega, by omega, by omega, by omega⟩
      · exact ih x.t (by omega) h r hrm
    · rw [if_neg hr] at h; cases h
theorem small_of_good {l : List R3} {many : Int} (h : goodRows l many = true) : small l ∧ 1 ≤ many ∧ many ≤ 300 ∧ l.length ≤ 300 := by
  unfold goodRows at h
  simp at h
  exact ⟨small_of_rows many (by omega) l 0 (by omega) h.2.2, h.1.1, h.1.2, h.2.1⟩
/-- PadFor's answer -/
def padFor (l : List R3) (many a : Int) : Int × Bool :=
  if goodRows l many = true ∧ (0 ≤ a ∧ a ≤ many - 1) ∧ 0 ≤ rowIx a l 0 then (((l[(rowIx a l 0).toNat]?).map R3.p).getD 0, true) else (0, false)
end Go.Proofs.YtaebmliolpgmdaaGreat
