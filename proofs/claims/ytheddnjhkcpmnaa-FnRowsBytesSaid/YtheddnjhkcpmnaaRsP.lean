
/- Reading numbers with a sign from bytes: plain Lean, no program in sight. No condition. -/
import Derived.Test.YtheddnjhkcpmnaaRdP
set_option linter.unusedSimpArgs false
set_option linter.unusedVariables false
namespace Go.Proofs.Ytheddnjhkcpmnaa
open Go.RowKit

def sv : List UInt8 → Int → Int
  | [], i => i
  | b :: t, i => ((b.toNat % 128 : Nat) : Int) + 128 * sv t i
def sgn (s : ByteArray) (m : Nat) : Int := if 64 ≤ lastOf s m then -1 else 0
def valS (s : ByteArray) (n m : Nat) : Int := sv (part s n m) (sgn s m)
theorem sv_append (a b : List UInt8) (i : Int) : sv (a ++ b) i = sv a (sv b i) := by
  induction a with
  | nil => rfl
  | cons x a ih => simp only [List.cons_append, sv, ih]
theorem sv_valU (a : List UInt8) (i : Int) : sv a i = (valU a : Int) + 128 ^ a.length * i := by
  induction a with
  | nil => simp [sv, valU]
  | cons x a ih =>
    simp only [sv, ih, valU, List.length_cons, Int.pow_succ]
    rw [Int.mul_add, ← Int.mul_assoc, Int.mul_comm (128 ^ a.length) 128]
    omega
theorem sv_bd (a : List UInt8) (i : Int) (h : i = -1 ∨ i = 0) : -(128 ^ a.length) ≤ sv a i ∧ sv a i < 128 ^ a.length := by
  have hv := valU_lt a
  rw [sv_valU]
  have hv2 : (valU a : Int) < 128 ^ a.length := by exact_mod_cast hv
  rcases h with rfl | rfl <;> omega
theorem sgn_or (s : ByteArray) (m : Nat) : sgn s m = -1 ∨ sgn s m = 0 := by unfold sgn; split <;> simp
theorem sv_step (s : ByteArray) {k m : Nat} (hk : k < m) (hm : m ≤ s.size) : valS s k m = (((s[k]'(by omega)).toNat % 128 : Nat) : Int) + 128 * valS s (k + 1) m := by
  unfold valS; rw [part_cons s hk (by omega)]; rfl
theorem valS_end (s : ByteArray) (m : Nat) : valS s m m = sgn s m := by unfold valS; rw [part_nil]; rfl
/-- what ReadS answers -/
def rdS (s : ByteArray) (a : Int) : Int × Nat × Nat × Bool :=
  if (endF s.data.toList a).2 ≠ 0 then (0, 0, (endF s.data.toList a).2, false)
  else if (endF s.data.toList a).1 - a.toNat = 10 ∧ lastOf s (endF s.data.toList a).1 ≠ 0 ∧ lastOf s (endF s.data.toList a).1 ≠ 127 then (0, 0, 3, false)
  else if lebs (valS s a.toNat (endF s.data.toList a).1) ≠ part s a.toNat (endF s.data.toList a).1 then (0, 0, 4, false)
  else (valS s a.toNat (endF s.data.toList a).1, (endF s.data.toList a).1, 0, true)
theorem rdS_code (s : ByteArray) (a : Int) {c : Nat} (h : endF s.data.toList a = (0, c)) (hc : c ≠ 0) : rdS s a = (0, 0, c, false) := by
  unfold rdS; rw [h]; simp [hc]
theorem rdS_ok (s : ByteArray) (n m : Nat) (h : endF s.data.toList n = (m, 0)) (h0 : 0 < m) (hm : m ≤ s.size) :
    rdS s n = if m - n = 10 ∧ (s[m - 1]'(by omega)).toNat ≠ 0 ∧ (s[m - 1]'(by omega)).toNat ≠ 127 then (0, 0, 3, false) else if lebs (valS s n m) ≠ part s n m then (0, 0, 4, false) else (valS s n m, m, 0, true) := by
  unfold rdS
  rw [h]
  simp only [lastOf_eq' s m h0 hm, Int.toNat_natCast, ne_eq, not_true_eq_false, if_false]
/-- the number lies within int -/
theorem valS_bd (s : ByteArray) {n m : Nat} (h : n < m) (hm : m ≤ s.size) (h2 : m ≤ n + 10) (h3 : ¬ (m - n = 10 ∧ (s[m - 1]'(by omega)).toNat ≠ 0 ∧ (s[m - 1]'(by omega)).toNat ≠ 127)) :
    -9223372036854775808 ≤ valS s n m ∧ valS s n m ≤ 9223372036854775807 := by
  have e : part s n m = part s n (m - 1) ++ [s[m - 1]'(by omega)] := by
    have := part_snoc s (i := n) (j := m - 1) (by omega) (by omega)
    rwa [show m - 1 + 1 = m by omega] at this
  have hl : (part s n (m - 1)).length = m - 1 - n := part_length s (by omega)
  have hL : (part s n m).length = m - n := part_length s (by omega)
  have h128 : (128 : Int) ^ 9 = 9223372036854775808 := by decide
  by_cases k : m - n = 10
  · have hb : (s[m - 1]'(by omega)).toNat = 0 ∨ (s[m - 1]'(by omega)).toNat = 127 := by omega
    have hx : ∃ i : Int, (i = -1 ∨ i = 0) ∧ valS s n m = sv (part s n (m - 1)) i := by
      unfold valS
      rw [e, sv_append]
      refine ⟨_, ?_, rfl⟩
      simp only [sv, sgn, lastOf_eq' s m (by omega) hm]
      rcases hb with hb | hb <;> simp [hb]
    obtain ⟨i, hi, hv⟩ := hx
    have := sv_bd (part s n (m - 1)) i hi
    rw [hl, show m - 1 - n = 9 by omega, h128] at this
    rw [hv]; omega
  · have := sv_bd (part s n m) (sgn s m) (sgn_or s m)
    rw [hL] at this
    have hle : (128 : Int) ^ (m - n) ≤ 128 ^ 9 := by
      have := Nat.pow_le_pow_right (n := 128) (by decide) (show m - n ≤ 9 by omega)
      exact_mod_cast this
    unfold valS
    omega
theorem valS_part (s : ByteArray) {n j m : Nat} (h1 : n ≤ j) (h2 : j ≤ m) (hm : m ≤ s.size) (hb : -9223372036854775808 ≤ valS s n m ∧ valS s n m ≤ 9223372036854775807) :
    -9223372036854775808 ≤ valS s j m ∧ valS s j m ≤ 9223372036854775807 := by
  obtain ⟨d, rfl⟩ : ∃ d, j = n + d := ⟨j - n, by omega⟩
  clear h1
  induction d with
  | zero => exact hb
  | succ d ih =>
    have h := ih (by omega)
    have e := sv_step s (k := n + d) (m := m) (by omega) hm
    rw [show n + (d + 1) = n + d + 1 by omega]
    generalize valS s (n + d + 1) m = x at *
    generalize valS s (n + d) m = y at *
    omega

theorem valS_valU (s : ByteArray) {n m : Nat} (hm : m ≤ s.size) : valS s n m = (valU (part s n m) : Int) + 128 ^ (m - n) * sgn s m := by
  unfold valS; rw [sv_valU, part_length s hm]
theorem bits_ten (s : ByteArray) {n m : Nat} (hm : m ≤ s.size) (h10 : m - n = 10) (hv : -9223372036854775808 ≤ valS s n m ∧ valS s n m ≤ 9223372036854775807) : wrap64 ((valU (part s n m) : Int) % 18446744073709551616) = valS s n m := by
  have h := valS_valU s (n := n) hm
  rw [h10, show (128 : Int) ^ 10 = 1180591620717411303424 by decide] at h
  unfold wrap64
  rcases sgn_or s m with hg | hg <;> rw [hg] at h <;> omega
theorem valS_tight (s : ByteArray) {n m : Nat} (h : n < m) (hm : m ≤ s.size) (hlow : lastOf s m < 128) : -(64 * 128 ^ (m - 1 - n)) ≤ valS s n m ∧ valS s n m < 64 * 128 ^ (m - 1 - n) := by
  have e : part s n m = part s n (m - 1) ++ [s[m - 1]'(by omega)] := by
    have := part_snoc s (i := n) (j := m - 1) (by omega) (by omega)
    rwa [show m - 1 + 1 = m by omega] at this
  have hl : (part s n (m - 1)).length = m - 1 - n := part_length s (by omega)
  have hv := valU_lt (part s n (m - 1))
  rw [hl] at hv
  have hv' : (valU (part s n (m - 1)) : Int) < 128 ^ (m - 1 - n) := by exact_mod_cast hv
  have hlast := lastOf_eq' s m (by omega) hm
  have hV : valS s n m = (valU (part s n (m - 1)) : Int) + 128 ^ (m - 1 - n) * (((s[m - 1]'(by omega)).toNat : Int) + 128 * sgn s m) := by
    unfold valS
    rw [e, sv_append, sv_valU, hl]
    simp only [sv]
    congr 3
    omega
  have hd : (-64 : Int) ≤ ((s[m - 1]'(by omega)).toNat : Int) + 128 * sgn s m ∧ ((s[m - 1]'(by omega)).toNat : Int) + 128 * sgn s m ≤ 63 := by
    unfold sgn
    rw [hlast] at hlow ⊢
    split <;> omega
  generalize ((s[m - 1]'(by omega)).toNat : Int) + 128 * sgn s m = d at *
  have hp : (0 : Int) < 128 ^ (m - 1 - n) := Int.pow_pos (by decide)
  generalize (128 : Int) ^ (m - 1 - n) = p at *
  rw [hV]
  have h1 : p * (-64) ≤ p * d := Int.mul_le_mul_of_nonneg_left hd.1 (by omega)
  have h2 : p * d ≤ p * 63 := Int.mul_le_mul_of_nonneg_left hd.2 (by omega)
  omega
theorem bits_few (s : ByteArray) {n m : Nat} (h : n < m) (hm : m ≤ s.size) (hk : m ≤ n + 10) (h10 : ¬ m - n = 10) (hlow : lastOf s m < 128) :
    wrap64 (wrap64 ((valU (part s n m) : Int) % 18446744073709551616) * 2 ^ (64 - 7 * (m - n))) / 2 ^ (64 - 7 * (m - n)) = valS s n m := by
  have hV := valS_valU s (n := n) hm
  have ht := valS_tight s h hm hlow
  have hU := valU_lt (part s n m)
  rw [part_length s hm] at hU
  have hL : (128 : Int) ^ (m - n) * 2 ^ (64 - 7 * (m - n)) = 18446744073709551616 := by
    rw [show (128 : Int) = 2 ^ 7 by decide, ← Int.pow_mul, ← Int.pow_add, show 7 * (m - n) + (64 - 7 * (m - n)) = 64 by omega]; decide
  have hL2 : 64 * (128 : Int) ^ (m - 1 - n) * 2 ^ (64 - 7 * (m - n)) = 9223372036854775808 := by
    rw [show (64 : Int) = 2 ^ 6 by decide, show (128 : Int) = 2 ^ 7 by decide, ← Int.pow_mul, ← Int.pow_add, ← Int.pow_add, show 6 + 7 * (m - 1 - n) + (64 - 7 * (m - n)) = 63 by omega]; decide
  have hle : (128 : Nat) ^ (m - n) ≤ 128 ^ 9 := Nat.pow_le_pow_right (by decide) (by omega)
  have h9 : (128 : Nat) ^ 9 = 9223372036854775808 := by decide
  have hU63 : (valU (part s n m) : Int) < 9223372036854775808 := by omega
  have e1 : wrap64 ((valU (part s n m) : Int) % 18446744073709551616) = valU (part s n m) := by unfold wrap64; omega
  rw [e1]
  have hp : (0 : Int) < 2 ^ (64 - 7 * (m - n)) := Int.pow_pos (by decide)
  generalize (2 : Int) ^ (64 - 7 * (m - n)) = p at *
  generalize (valU (part s n m) : Int) = U at *
  generalize valS s n m = V at *
  generalize (128 : Int) ^ (m - n) = q at *
  generalize 64 * (128 : Int) ^ (m - 1 - n) = r at *
  have h1 : -r * p ≤ V * p := Int.mul_le_mul_of_nonneg_right ht.1 (by omega)
  have h2 : V * p < r * p := Int.mul_lt_mul_of_pos_right ht.2 hp
  rw [Int.neg_mul, hL2] at h1
  rw [hL2] at h2
  have h3 : U * p = V * p + 18446744073709551616 * (- sgn s m) := by
    rw [hV, Int.add_mul, Int.mul_assoc, Int.mul_comm (sgn s m) p, ← Int.mul_assoc, hL]; rw [Int.mul_neg]; omega
  have e2 : wrap64 (U * p) = V * p := by
    rw [h3]
    generalize V * p = x at *
    unfold wrap64
    rcases sgn_or s m with hg | hg <;> rw [hg] <;> omega
  rw [e2]
  exact Int.mul_ediv_cancel V (by omega)
end Go.Proofs.Ytheddnjhkcpmnaa
