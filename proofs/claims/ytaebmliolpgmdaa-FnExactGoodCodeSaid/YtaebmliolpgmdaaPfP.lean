
/- The row of a place: plain Lean. No condition. -/
import Derived.Test.YtaebmliolpgmdaaGrP
set_option linter.unusedSimpArgs false
set_option linter.unusedVariables false
namespace Go.Proofs.Ytaebmliolpgmdaa

def hit (a : Int) (r : R3) : Prop := r.f ≤ a ∧ a < r.t
instance (a : Int) (r : R3) : Decidable (hit a r) := by unfold hit; infer_instance
def rowIx (a : Int) : List R3 → Nat → Int
  | [], _ => -1
  | r :: l, i => if hit a r then i else rowIx a l (i + 1)
theorem rowIx_yes {a : Int} {l : List R3} {k : Nat} (h : k < l.length) (hr : hit a l[k]) : rowIx a (l.drop k) k = k := by
  rw [List.drop_eq_getElem_cons h]; simp [rowIx, hr]
theorem rowIx_no {a : Int} {l : List R3} {k : Nat} (h : k < l.length) (hr : ¬ hit a l[k]) : rowIx a (l.drop k) k = rowIx a (l.drop (k + 1)) (k + 1) := by
  rw [List.drop_eq_getElem_cons h]; simp [rowIx, hr]
theorem rowIx_end {a : Int} {l : List R3} : rowIx a (l.drop l.length) l.length = -1 := by rw [List.drop_length]; rfl
theorem rowIx_bd (a : Int) : ∀ (l : List R3) (i : Nat), rowIx a l i = -1 ∨ ((i : Int) ≤ rowIx a l i ∧ rowIx a l i < i + l.length) := by
  intro l
  induction l with
  | nil => intro i; exact .inl rfl
  | cons r l ih =>
    intro i
    simp only [rowIx]
    split
    · right; simp; omega
    · rcases ih (i + 1) with h | ⟨h1, h2⟩
      · exact .inl h
      · right; simp at *; omega
/-- rows that are good lie within bounds -/
def small (l : List R3) : Prop := ∀ r ∈ l, 0 ≤ r.f ∧ r.f ≤ 300 ∧ 0 ≤ r.t ∧ r.t ≤ 300 ∧ 0 ≤ r.p ∧ r.p ≤ 300
theorem small_of_rows (many : Int) (hm : many ≤ 300) : ∀ (l : List R3) (a : Int), 0 ≤ a → rowsOk many a l = true → small l := by
  intro l
  induction l with
  | nil => intro a _ _ r hr; simp at hr
  | cons x l ih =>
    intro a ha h
    simp only [rowsOk] at h
    by_cases hr : rowOk a many x
    · rw [if_pos hr] at h
      obtain ⟨h1, h2, h3, h4, h5⟩ := hr
      intro r hrm
      rcases List.mem_cons.1 hrm with rfl | hrm
      · exact ⟨by omega, by omega, by omega, by omega, by omega, by omega⟩
      · exact ih x.t (by omega) h r hrm
    · rw [if_neg hr] at h; cases h
theorem small_of_good {l : List R3} {many : Int} (h : goodRows l many = true) : small l ∧ 1 ≤ many ∧ many ≤ 300 ∧ l.length ≤ 300 := by
  unfold goodRows at h
  simp at h
  exact ⟨small_of_rows many (by omega) l 0 (by omega) h.2.2, h.1.1, h.1.2, h.2.1⟩
/-- PadFor's answer -/
def padFor (l : List R3) (many a : Int) : Int × Bool :=
  if goodRows l many = true ∧ (0 ≤ a ∧ a ≤ many - 1) ∧ 0 ≤ rowIx a l 0 then (((l[(rowIx a l 0).toNat]?).map R3.p).getD 0, true) else (0, false)
end Go.Proofs.Ytaebmliolpgmdaa
