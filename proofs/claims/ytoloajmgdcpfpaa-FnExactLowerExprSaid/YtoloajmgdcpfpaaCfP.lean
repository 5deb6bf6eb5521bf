
/- The first place at which a predicate holds. No condition. -/
import Derived.Test.YtoloajmgdcpfpaaP2
set_option linter.unusedSimpArgs false
set_option linter.unusedVariables false
namespace Go.Proofs.Ytoloajmgdcpfpaa
open Go.RowKit

def ixq (q : Nat → Bool) : Nat → Nat → Int
  | _, 0 => -1
  | k, m + 1 => if q k = true then (k : Int) else ixq q (k + 1) m
theorem ixq_yes {q : Nat → Bool} {k n : Nat} (hk : k < n) (h : q k = true) : ixq q k (n - k) = k := by
  rw [show n - k = (n - (k + 1)) + 1 by omega]; simp only [ixq]; rw [if_pos h]
theorem ixq_no {q : Nat → Bool} {k n : Nat} (hk : k < n) (h : q k = false) : ixq q k (n - k) = ixq q (k + 1) (n - (k + 1)) := by
  rw [show n - k = (n - (k + 1)) + 1 by omega]; simp only [ixq]; rw [if_neg (by simp [h])]
def anyq (q : Nat → Bool) (n : Nat) : Bool := decide (0 ≤ ixq q 0 n)
theorem ixq_pos (q : Nat → Bool) : ∀ (m k : Nat), 0 ≤ ixq q k m ↔ ∃ j, k ≤ j ∧ j < k + m ∧ q j = true := by
  intro m
  induction m with
  | zero => intro k; simp only [ixq]; constructor
            · intro h; omega
            · rintro ⟨j, h1, h2, _⟩; omega
  | succ m ih =>
    intro k
    simp only [ixq]
    by_cases h : q k = true
    · rw [if_pos h]; constructor
      · intro _; exact ⟨k, by omega, by omega, h⟩
      · intro _; omega
    · rw [if_neg h, ih]; constructor
      · rintro ⟨j, h1, h2, h3⟩; exact ⟨j, by omega, by omega, h3⟩
      · rintro ⟨j, h1, h2, h3⟩
        by_cases e : j = k
        · subst e; exact absurd h3 h
        · exact ⟨j, by omega, by omega, h3⟩
theorem anyq_list {α : Type} {q : Nat → Bool} {p : α → Bool} {l : List α} (h : ∀ j (hj : j < l.length), q j = p l[j]) : anyq q l.length = l.any p := by
  unfold anyq
  rw [Bool.eq_iff_iff, decide_eq_true_eq, ixq_pos, List.any_eq_true]
  constructor
  · rintro ⟨j, _, h2, h3⟩
    exact ⟨l[j]'(by omega), List.getElem_mem _, by rw [← h j (by omega)]; exact h3⟩
  · rintro ⟨x, hx, hp⟩
    obtain ⟨j, hj, rfl⟩ := List.getElem_of_mem hx
    exact ⟨j, by omega, by omega, by rw [h j hj]; exact hp⟩
end Go.Proofs.Ytoloajmgdcpfpaa
