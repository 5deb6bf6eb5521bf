
/- Owned rows of structs. No condition. -/
import Derived.Test.YtoloajmgdcpfpaaMem
set_option linter.unusedSimpArgs false
set_option linter.unusedVariables false
namespace Go.Proofs.Ytoloajmgdcpfpaa
open Go.RowKit

def filledA {α : Type} (z : α) (l : List α) (k : Nat) : List α := l.take k ++ List.replicate (l.length - k) z
theorem Rd.at3 {w : World} {B n c j : Nat} {A : Option Addr} {cs : List Value} {u : Value} (h : Rd w B (.slice A n c) n cs) (hj : cs[j]? = some u) : ∃ b o, A = some ⟨b, o, none⟩ ∧ b < B ∧ w.cell? ⟨b, o + j, none⟩ = some u := by
  obtain ⟨A', c', e, _, _, hc⟩ := h
  injection e with e1 e2 e3
  subst e1
  exact hc j _ hj


theorem own_keep {W W' : World} {base n : Nat} {e : TypeId} {size : Nat} {v : Value} {xs : List Value} (h : W.ownsRow base e size v n xs) (hb : Below W.heap.size W W') : W'.ownsRow base e size v n xs := by
  refine ⟨h.1, ?_⟩
  rcases h.2 with hn | ⟨g, cap, cur, hv, hg, hh, r⟩
  · exact .inl hn
  · exact .inr ⟨g, cap, cur, hv, hg, (hb.block g (Array.getElem?_eq_some_iff.1 hh).1).trans hh, r⟩
theorem own_drew {w : World} {base n : Nat} {e : TypeId} {size : Nat} {v : Value} {xs : List Value} (h : w.ownsRow base e size v n xs) (q : Nat) : (w.drewN q).ownsRow base e size v n xs := h
theorem own_set {w : World} {base n cap g : Nat} {e : TypeId} {size : Nat} {xs : List Value} (h : w.ownsRow base e size (.slice (some ⟨g, 0, none⟩) n cap) n xs) (j : Nat) (u : Value) : (w.setCell ⟨g, j, none⟩ u).ownsRow base e size (.slice (some ⟨g, 0, none⟩) n cap) n (xs.set j u) := (h.stored j u).1
/-- Go's zero cells of a row of structs -/
theorem made_cells (z : Array Value) (n : Nat) (hz : 0 < z.size) : (madeCells z (n * z.size)).toList = (List.replicate n z.toList).flatten := by
  induction n with
  | zero => simp [madeCells]
  | succ n ih =>
    rw [List.replicate_succ, List.flatten_cons, ← ih]
    apply List.ext_getElem?
    intro j
    rw [List.getElem?_append]
    by_cases h1 : j < z.size
    · have h2 : j < (n + 1) * z.size := Nat.lt_of_lt_of_le h1 (Nat.le_mul_of_pos_left _ (by omega))
      simp [madeCells, h1, h2, Nat.mod_eq_of_lt h1]
    · have h1' : z.size ≤ j := by omega
      have e : (n + 1) * z.size = n * z.size + z.size := by rw [Nat.add_mul, Nat.one_mul]
      by_cases h2 : j < (n + 1) * z.size
      · have h3 : j - z.size < n * z.size := by omega
        simp [madeCells, h1, h2, h3, Nat.mod_eq_sub_mod h1']
      · have h3 : ¬ j - z.size < n * z.size := by omega
        simp [madeCells, h1, h2, h3]
theorem filledA_length {α : Type} (z : α) (l : List α) (k : Nat) (h : k ≤ l.length) : (filledA z l k).length = l.length := by simp [filledA]; omega
theorem filledA_zero {α : Type} (z : α) (l : List α) : filledA z l 0 = List.replicate l.length z := by simp [filledA]
theorem filledA_all {α : Type} (z : α) (l : List α) : filledA z l l.length = l := by simp [filledA]
theorem filledA_set {α : Type} (z : α) (l : List α) (k : Nat) (h : k < l.length) : (filledA z l k).set k l[k] = filledA z l (k + 1) := by
  have hl : (l.take k).length = k := by rw [List.length_take]; omega
  unfold filledA
  rw [List.set_append, if_neg (by omega), hl, Nat.sub_self, show l.length - k = (l.length - (k + 1)) + 1 by omega, List.replicate_succ, List.set_cons_zero, List.take_succ_eq_append_getElem h, List.append_assoc]
  rfl
end Go.Proofs.Ytoloajmgdcpfpaa
