
/- Reading lists of numbers: plain Lean. No condition. -/
import Derived.Test.YtheddnjhkcpmnaaRdP
set_option linter.unusedSimpArgs false
set_option linter.unusedVariables false
namespace Go.Proofs.Ytheddnjhkcpmnaa

theorem rdU_facts (s : ByteArray) (a : Int) (h : (rdU s a).2.2.2 = true) : (rdU s a).1 < 18446744073709551616 ∧ (rdU s a).2.1 ≤ s.size ∧ s.size ≤ 2000 := by
  rcases endF_ways s a with ⟨n, m, rfl, hnm, hk, hlt, hz, he, hlow, hall⟩ | hbad
  · have hr := rdU_ok s n m he (by omega) hlt
    have hv := valU_64 s hnm hlt hk
    rw [hr] at h ⊢
    by_cases g1 : m - n = 10 ∧ 1 < (s[m - 1]'(by omega)).toNat
    · rw [if_pos g1] at h; cases h
    · rw [if_neg g1] at h ⊢
      by_cases g2 : 1 < m - n ∧ (s[m - 1]'(by omega)).toNat = 0
      · rw [if_pos g2] at h; cases h
      · rw [if_neg g2] at h ⊢
        exact ⟨hv g1, hlt, hz⟩
  · have : ∃ c : Nat, c ≠ 0 ∧ endF s.data.toList a = (0, c) := by
      rcases hbad with ⟨h, _⟩ | ⟨h | h, _⟩
      · exact ⟨1, by decide, h⟩
      · exact ⟨2, by decide, h⟩
      · exact ⟨3, by decide, h⟩
    obtain ⟨c, hc, he⟩ := this
    rw [rdU_code s a he hc] at h
    cases h
/-- the numbers from a place on, so many -/
def rdLoop (s : ByteArray) : Nat → Int → List Int → Option (List Int × Int)
  | 0, e, acc => some (acc, e)
  | k + 1, e, acc => if (rdU s e).2.2.2 = true then rdLoop s k (rdU s e).2.1 (acc ++ [((rdU s e).1 : Int)]) else none
def rdL (s : ByteArray) (a : Int) : List Int × Int × Bool :=
  if (rdU s a).2.2.2 = true ∧ (rdU s a).1 ≤ 200 then
    match rdLoop s (rdU s a).1 (rdU s a).2.1 [] with
    | some x => (x.1, x.2, true)
    | none => ([], 0, false)
  else ([], 0, false)
theorem rdLoop_yes {s : ByteArray} {k : Nat} {e : Int} {acc : List Int} (h : (rdU s e).2.2.2 = true) : rdLoop s (k + 1) e acc = rdLoop s k (rdU s e).2.1 (acc ++ [((rdU s e).1 : Int)]) := by simp [rdLoop, h]
theorem rdLoop_no {s : ByteArray} {k : Nat} {e : Int} {acc : List Int} (h : (rdU s e).2.2.2 = false) : rdLoop s (k + 1) e acc = none := by simp [rdLoop, h]
theorem rdL_no {s : ByteArray} {a : Int} (h : ¬ ((rdU s a).2.2.2 = true ∧ (rdU s a).1 ≤ 200)) : rdL s a = ([], 0, false) := by unfold rdL; rw [if_neg h]
theorem rdL_some {s : ByteArray} {a : Int} {x : List Int × Int} (h : (rdU s a).2.2.2 = true) (h2 : (rdU s a).1 ≤ 200) (e : rdLoop s (rdU s a).1 (rdU s a).2.1 [] = some x) : rdL s a = (x.1, x.2, true) := by unfold rdL; rw [if_pos ⟨h, h2⟩, e]
theorem rdL_none {s : ByteArray} {a : Int} (h : (rdU s a).2.2.2 = true) (h2 : (rdU s a).1 ≤ 200) (e : rdLoop s (rdU s a).1 (rdU s a).2.1 [] = none) : rdL s a = ([], 0, false) := by unfold rdL; rw [if_pos ⟨h, h2⟩, e]
end Go.Proofs.Ytheddnjhkcpmnaa
