
/- A number put among rising ones: plain Lean. No condition. -/
import Derived.Test.YtaebmliolpgmdaaKit
set_option linter.unusedSimpArgs false
set_option linter.unusedVariables false
namespace Go.Proofs.Ytaebmliolpgmdaa

/-- x put among rising numbers -/
def putL : List Int → Int → List Int
  | [], x => [x]
  | a :: l, x => if a < x then a :: putL l x else if a = x then a :: l else x :: a :: l
theorem putL_same : ∀ (l : List Int) (k : Nat) (x : Int), (∀ j (h : j < l.length), j < k → l[j] < x) → ∀ hk : k < l.length, l[k] = x → putL l x = l := by
  intro l
  induction l with
  | nil => intro k x _ hk; simp at hk
  | cons a l ih =>
    intro k x hlt hk he
    cases k with
    | zero => simp only [List.getElem_cons_zero] at he; subst he; simp only [putL]; rw [if_neg (by omega)]; simp
    | succ k =>
      have h0 := hlt 0 (by simp) (by omega)
      simp only [List.getElem_cons_zero] at h0
      simp only [putL]
      rw [if_pos h0, ih k x (fun j hj hjk => by have := hlt (j + 1) (by simpa using hj) (by omega); simpa using this) (by simpa using hk) (by simpa using he)]
theorem putL_new : ∀ (l : List Int) (k : Nat) (x : Int), k ≤ l.length → (∀ j (h : j < l.length), j < k → l[j] < x) → (∀ hk : k < l.length, ¬ l[k] < x ∧ l[k] ≠ x) → putL l x = l.take k ++ [x] ++ l.drop k := by
  intro l
  induction l with
  | nil => intro k x _ _ _; simp [putL]
  | cons a l ih =>
    intro k x hk hlt hn
    cases k with
    | zero =>
      obtain ⟨h1, h2⟩ := hn (by simp)
      simp only [List.getElem_cons_zero] at h1 h2
      simp only [putL]
      rw [if_neg h1, if_neg h2]; rfl
    | succ k =>
      have h0 := hlt 0 (by simp) (by omega)
      simp only [List.getElem_cons_zero] at h0
      simp only [putL]
      rw [if_pos h0, ih k x (by simpa using hk) (fun j hj hjk => by have := hlt (j + 1) (by simpa using hj) (by omega); simpa using this) (fun hk' => by have := hn (by simpa using hk'); simpa using this)]
      rfl
end Go.Proofs.Ytaebmliolpgmdaa
