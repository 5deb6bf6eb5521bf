
/- Rows of structs of the call's own, cell by cell. No condition. -/
import Derived.Test.YtheddnjhkcpmnaaNst
import Derived.Test.YtheddnjhkcpmnaaP2
import Derived.Test.YtheddnjhkcpmnaaRowM
set_option linter.unusedSimpArgs false
set_option linter.unusedVariables false
namespace Go.Proofs.Ytheddnjhkcpmnaa
open Go.RowKit

theorem sc_pcells {l : List P2} : ∀ x ∈ pcells l, sc x := by
  intro x hx
  obtain ⟨z, _, hz⟩ := List.mem_flatMap.1 hx
  simp [P2.cell] at hz
  rcases hz with rfl | rfl <;> trivial
theorem sc_rcells {l : List R3} : ∀ x ∈ rcells l, sc x := by
  intro x hx
  obtain ⟨z, _, hz⟩ := List.mem_flatMap.1 hx
  simp [R3.cell] at hz
  rcases hz with rfl | rfl | rfl <;> trivial
/-- cells laid one after the other -/
def setAll (xs : List Value) (i : Nat) : List Value → Nat → List Value
  | [], _ => xs
  | c :: cs, j => setAll (xs.set (i + j) c) i cs (j + 1)
theorem flatten_get {css : List (List Value)} {size : Nat} (hs : ∀ x ∈ css, x.length = size) : ∀ (i j : Nat), i < css.length → j < size → css.flatten[i * size + j]? = (css[i]?.getD [])[j]? := by
  induction css with
  | nil => intro i j h; simp at h
  | cons c css ih =>
    intro i j hi hj
    have hc : c.length = size := hs c (by simp)
    cases i with
    | zero => simp [List.getElem?_append, hc, hj]
    | succ i =>
      rw [List.flatten_cons, List.getElem?_append_right (by rw [hc, Nat.add_mul]; omega), hc, show (i + 1) * size + j - size = i * size + j by rw [Nat.add_mul]; omega]
      rw [ih (fun x hx => hs x (by simp [hx])) i j (by simpa using hi) hj]
      simp
theorem flatten_length {css : List (List Value)} {size : Nat} (hs : ∀ x ∈ css, x.length = size) : css.flatten.length = css.length * size := by
  induction css with
  | nil => simp
  | cons c css ih => rw [List.flatten_cons, List.length_append, ih (fun x hx => hs x (by simp [hx])), hs c (by simp), List.length_cons, Nat.add_mul]; omega
/-- a finished row of structs -/
theorem own_finish {α : Type} {R O : World → Nat → Nat → List Value → α → Prop} {w : World} {base : Nat} {e : TypeId} {size : Nat} {l : List α} {css : List (List Value)} (h1 : css.length = l.length) (h2 : ∀ x ∈ css, x.length = size)
    (hown : w.ownsRow base e size (.slice (some ⟨base, 0, none⟩) l.length l.length) l.length css.flatten) (hel : ∀ j (h : j < l.length), ∃ cs, css[j]? = some cs ∧ R w (base + 1) w.heap.size cs l[j] ∧ O w (base + 1) w.heap.size cs l[j]) (hR : Stable R) (hO : Stable O) :
    RL R size w base w.heap.size (.slice (some ⟨base, 0, none⟩) l.length l.length) l ∧ OL O e size w base w.heap.size (.slice (some ⟨base, 0, none⟩) l.length l.length) l := by
  have hlt := hown.lt base rfl
  have hmax : l.length ≤ maxLen := by obtain ⟨A, c, he, g1, g2, _⟩ := Rd.of_own hown; cases he; exact g2
  refine ⟨⟨_, _, rfl, Nat.le_refl _, hmax, fun i hi => ?_⟩, ⟨_, hown, fun k hk => (hown.lt k hk).2, fun i hi => ?_⟩⟩
  · obtain ⟨cs, g1, g2, _⟩ := hel i hi
    have hcl : cs.length = size := h2 cs (List.mem_of_getElem? g1)
    refine ⟨base, 0, cs, rfl, ⟨Nat.le_refl _, hlt.2⟩, hcl, fun k u hu => ?_, hR.more g2 (by omega) (Nat.le_refl _)⟩
    have hk : k < size := by rw [← hcl]; exact (List.getElem?_eq_some_iff.1 hu).1
    have hle : (i + 1) * size ≤ l.length * size := Nat.mul_le_mul_right _ hi
    rw [Nat.add_mul] at hle
    rw [Nat.zero_add, hown.cellAt (i * size + k) (by omega), flatten_get h2 i k (by omega) hk, g1]
    exact hu
  · obtain ⟨cs, g1, _, g3⟩ := hel i hi
    have hcl : cs.length = size := h2 cs (List.mem_of_getElem? g1)
    refine ⟨cs, hcl, fun j hj => ?_, hO.more g3 (by omega) (Nat.le_refl _)⟩
    rw [flatten_get h2 i j (by omega) hj, g1]; rfl
theorem setAll_length (i : Nat) : ∀ (cs xs : List Value) (j : Nat), (setAll xs i cs j).length = xs.length := by
  intro cs
  induction cs with
  | nil => intro xs j; rfl
  | cons c cs ih => intro xs j; simp only [setAll]; rw [ih, List.length_set]
theorem setAll_get (i : Nat) : ∀ (cs xs : List Value) (j n : Nat), i + j + cs.length ≤ xs.length → (setAll xs i cs j)[n]? = if i + j ≤ n ∧ n < i + j + cs.length then cs[n - (i + j)]? else xs[n]? := by
  intro cs
  induction cs with
  | nil => intro xs j n h; simp only [setAll]; rw [if_neg (by simp)]
  | cons c cs ih =>
    intro xs j n h
    simp only [List.length_cons] at h
    simp only [setAll]
    rw [ih _ _ _ (by rw [List.length_set]; omega)]
    by_cases h1 : n = i + j
    · subst h1
      rw [if_neg (by omega), if_pos (by simp), List.getElem?_set_self (by omega)]; simp
    · by_cases h2 : i + (j + 1) ≤ n ∧ n < i + (j + 1) + cs.length
      · rw [if_pos h2, if_pos (by simp only [List.length_cons]; omega), show n - (i + j) = (n - (i + (j + 1))) + 1 by omega]; simp
      · rw [if_neg h2, if_neg (by simp only [List.length_cons]; omega), List.getElem?_set_ne (by omega)]
theorem flatten_set (css : List (List Value)) (k : Nat) (cs : List Value) (size : Nat) (hs : ∀ x ∈ css, x.length = size) (hc : cs.length = size) (hk : k < css.length) : setAll css.flatten (k * size) cs 0 = (css.set k cs).flatten := by
  have hs2 : ∀ x ∈ css.set k cs, x.length = size := fun x hx => by
    rcases List.mem_or_eq_of_mem_set hx with h | h
    · exact hs x h
    · rw [h]; exact hc
  have hl := flatten_length hs
  have hl2 := flatten_length hs2
  have hkm : (k + 1) * size ≤ css.length * size := Nat.mul_le_mul_right _ hk
  rw [Nat.add_mul] at hkm
  apply List.ext_getElem?
  intro n
  rw [setAll_get _ _ _ _ _ (by omega), Nat.add_zero]
  by_cases hn : n < css.length * size
  · have hs0 : 0 < size := by rcases Nat.eq_zero_or_pos size with h | h; subst h; omega; exact h
    have hi : n / size < css.length := Nat.div_lt_of_lt_mul (by rw [Nat.mul_comm]; exact hn)
    have hj : n % size < size := Nat.mod_lt _ hs0
    have he : n / size * size + n % size = n := by rw [Nat.mul_comm]; exact Nat.div_add_mod n size
    have f1 := flatten_get hs (n / size) (n % size) hi hj
    have f2 := flatten_get hs2 (n / size) (n % size) (by rw [List.length_set]; exact hi) hj
    rw [he] at f1 f2
    rw [f1, f2, List.getElem?_set]
    by_cases hkn : k = n / size
    · subst hkn
      rw [if_pos ⟨by omega, by omega⟩, if_pos rfl, if_pos hi, show n - n / size * size = n % size by omega]; rfl
    · rw [if_neg hkn, if_neg]
      rintro ⟨g1, g2⟩
      apply hkn
      have : n / size = k := by
        rw [Nat.div_eq_iff hs0] <;> omega
      exact this.symm
  · rw [if_neg (by omega), List.getElem?_eq_none (by omega), List.getElem?_eq_none (by rw [hl2, List.length_set]; omega)]
end Go.Proofs.Ytheddnjhkcpmnaa
