
/- The bytes of a number: plain Lean, no program in sight. No condition. -/
import Derived.Test.YtgkjakoagdkpcaaGreatDoorKit
import Derived.Test.YtgkjakoagdkpcaaGreatDoorChecked
set_option linter.unusedSimpArgs false
set_option linter.unusedVariables false
namespace Go.Proofs.YtgkjakoagdkpcaaGreatDoor

/-- PutU's bytes, by so many steps at most -/
def lebN : Nat → Nat → List UInt8
  | 0, n => [UInt8.ofNat n]
  | k + 1, n => if n < 128 then [UInt8.ofNat n] else UInt8.ofNat (n % 128 + 128) :: lebN k (n / 128)
def leb (n : Nat) : List UInt8 := lebN 10 n

theorem lebN_more : ∀ (k n : Nat), n < 128 ^ (k + 1) → ∀ j, lebN (k + j) n = lebN k n := by
  intro k
  induction k with
  | zero =>
    intro n hn j
    cases j with
    | zero => rfl
    | succ j => simp only [Nat.zero_add, lebN]; rw [if_pos (by simpa using hn)]
  | succ k ih =>
    intro n hn j
    rw [show k + 1 + j = (k + j) + 1 by omega]
    simp only [lebN]
    by_cases h : n < 128
    · rw [if_pos h, if_pos h]
    · rw [if_neg h, if_neg h, ih (n / 128) (by rw [Nat.pow_succ] at hn; exact Nat.div_lt_of_lt_mul (by omega)) j]

theorem leb_small (n : Nat) (h : n < 128) : leb n = [UInt8.ofNat n] := by simp [leb, lebN, h]
theorem leb_great (n : Nat) (h : 128 ≤ n) (hn : n < 18446744073709551616) : leb n = UInt8.ofNat (n % 128 + 128) :: leb (n / 128) := by
  have e : leb n = UInt8.ofNat (n % 128 + 128) :: lebN 9 (n / 128) := by
    show lebN (9 + 1) n = _
    simp only [lebN]
    rw [if_neg (by omega)]
  rw [e]
  have := lebN_more 9 (n / 128) (by have : 128 ^ (9 + 1) = 1180591620717411303424 := by decide
                                    omega) 1
  rw [← this]
  rfl
theorem lebN_le : ∀ (k n : Nat), (lebN k n).length ≤ k + 1 := by
  intro k
  induction k with
  | zero => intro n; simp [lebN]
  | succ k ih => intro n; simp only [lebN]; split <;> simp [ih]
theorem leb_le (n : Nat) : (leb n).length ≤ 11 := lebN_le 10 n
theorem leb_part {acc : List UInt8} {k n : Nat} (h : acc ++ leb k = leb n) : acc.length ≤ 11 := by
  have := congrArg List.length h
  have := leb_le n
  simp at *
  omega
theorem leb_pos (n : Nat) : 0 < (leb n).length := by unfold leb lebN; split <;> simp



theorem nat_or_128 (a : Nat) (h : a < 256) : a ||| 128 = a % 128 + 128 := by
  have h : a = a % 128 + 128 * (a / 128) := by omega
  have h2 : a / 128 = 0 ∨ a / 128 = 1 := by omega
  have h3 := Nat.two_pow_add_eq_or_of_lt (i := 7) (b := a % 128) (by omega) 1
  rcases h2 with h2 | h2 <;> rw [h2] at h
  · rw [Nat.mul_zero, Nat.add_zero] at h
    rw [← h] at h3 ⊢
    rw [Nat.or_comm]
    simpa [Nat.add_comm] using h3.symm
  · have h4 : a % 128 + 128 = 128 ||| (a % 128) := by simpa [Nat.add_comm] using h3
    rw [Nat.mul_one] at h
    rw [← h] at h4
    rw [← h]
    conv => lhs; rw [h4]
    rw [Nat.or_comm, ← Nat.or_assoc, Nat.or_self]
    exact h4.symm
theorem u8_or_128i (n : Int) : bits .or .u8 (n % 256) 128 = n % 128 + 128 := by
  have e : n % 256 = (((n % 256).toNat : Nat) : Int) := by omega
  rw [e, show (128 : Int) = ((128 : Nat) : Int) from rfl, u8_or_nat _ _ (by omega) (by omega), nat_or_128 _ (by omega)]
  omega
theorem u8_or_128 (n : Nat) : bits .or .u8 ((n : Int) % 256) 128 = ((n % 128 + 128 : Nat) : Int) := by
  rw [u8_or_128i]; omega
theorem u8_and_127i (n : Int) : bits .and .u8 (n % 256) 127 = n % 128 := by
  have e : n % 256 = (((n % 256).toNat : Nat) : Int) := by omega
  rw [e, show (127 : Int) = ((127 : Nat) : Int) from rfl, u8_and_nat _ _ (by omega) (by omega), show (127 : Nat) = 2 ^ 7 - 1 from rfl, Nat.and_two_pow_sub_one_eq_mod]
  omega
theorem i64_and_127 (n : Int) : bits .and .i64 n 127 = n % 128 := by
  show IntKind.i64.wrap ((BitVec.ofInt 64 n &&& BitVec.ofInt 64 127).toNat : Int) = _
  rw [BitVec.toNat_and, show (BitVec.ofInt 64 127).toNat = 2 ^ 7 - 1 from rfl, Nat.and_two_pow_sub_one_eq_mod, BitVec.toNat_ofInt, IntKind.wrap_i64]
  omega
theorem ofNat_toNat (n : Nat) (h : n < 256) : (UInt8.ofNat n).toNat = n := by simp; omega

/-- PutS's bytes -/
def lebsN : Nat → Int → List UInt8
  | 0, n => [UInt8.ofNat (n % 128).toNat]
  | k + 1, n => if -64 ≤ n ∧ n ≤ 63 then [UInt8.ofNat (n % 128).toNat] else UInt8.ofNat ((n % 128).toNat + 128) :: lebsN k (n / 128)
def lebs (n : Int) : List UInt8 := lebsN 10 n
theorem lebsN_more : ∀ (k : Nat) (n : Int), - (64 * 128 ^ k) ≤ n → n < 64 * 128 ^ k → ∀ j, lebsN (k + j) n = lebsN k n := by
  intro k
  induction k with
  | zero =>
    intro n h1 h2 j
    cases j with
    | zero => rfl
    | succ j => simp only [lebsN]; rw [if_pos (by omega)]
  | succ k ih =>
    intro n h1 h2 j
    rw [show k + 1 + j = (k + j) + 1 by omega]
    simp only [lebsN]
    by_cases h : -64 ≤ n ∧ n ≤ 63
    · rw [if_pos h, if_pos h]
    · rw [if_neg h, if_neg h, ih (n / 128) (by rw [Int.pow_succ] at h1; omega) (by rw [Int.pow_succ] at h2; omega) j]
theorem lebs_small (n : Int) (h : -64 ≤ n ∧ n ≤ 63) : lebs n = [UInt8.ofNat (n % 128).toNat] := by simp [lebs, lebsN, h]
theorem lebs_great (n : Int) (h : ¬ (-64 ≤ n ∧ n ≤ 63)) (h1 : -9223372036854775808 ≤ n) (h2 : n ≤ 9223372036854775807) : lebs n = UInt8.ofNat ((n % 128).toNat + 128) :: lebs (n / 128) := by
  have e : lebs n = UInt8.ofNat ((n % 128).toNat + 128) :: lebsN 9 (n / 128) := by
    show lebsN (9 + 1) n = _
    simp only [lebsN]
    rw [if_neg h]
  have hp : (64 : Int) * 128 ^ 9 = 590295810358705651712 := by decide
  rw [e, ← lebsN_more 9 (n / 128) (by omega) (by omega) 1]
  rfl
theorem lebsN_le : ∀ (k : Nat) (n : Int), (lebsN k n).length ≤ k + 1 := by
  intro k
  induction k with
  | zero => intro n; simp [lebsN]
  | succ k ih => intro n; simp only [lebsN]; split <;> simp [ih]
theorem lebs_le (n : Int) : (lebs n).length ≤ 11 := lebsN_le 10 n
theorem lebs_part {acc : List UInt8} {k n : Int} (h : acc ++ lebs k = lebs n) : acc.length ≤ 11 := by
  have := congrArg List.length h
  have := lebs_le n
  simp at *
  omega
theorem lebs_pos (n : Int) : 0 < (lebs n).length := by unfold lebs lebsN; split <;> simp
end Go.Proofs.YtgkjakoagdkpcaaGreatDoor
set_option linter.unusedSimpArgs false
set_option linter.unusedVariables false
set_option maxRecDepth 100000
namespace Go.Proofs.YtgkjakoagdkpcaaGreatDoor
open Go.RowKit

theorem okU8 : SliceOk Tryz.prog 22 5 (.int .u8 0) 1 1 := .mk Tryz.underlying22 (by kernel_rfl) rfl (by decide)

end Go.Proofs.YtgkjakoagdkpcaaGreatDoor
