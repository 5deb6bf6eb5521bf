
/- Numbers are read back from their bytes: plain Lean, no program in sight. No condition. -/
import Derived.Test.YtheddnjhkcpmnaaRlP
import Derived.Test.YtheddnjhkcpmnaaRsP
set_option linter.unusedSimpArgs false
set_option linter.unusedVariables false
namespace Go.Proofs.Ytheddnjhkcpmnaa
open Go.RowKit

theorem scan_mid (pre post : List UInt8) : ∀ (l : List UInt8) (f : Nat), enc l → l.length ≤ f → scan (pre ++ (l ++ post)) f pre.length = (pre.length + l.length, 0) := by
  intro l
  induction l generalizing pre with
  | nil => intro f h; exact h.elim
  | cons b t ih =>
    intro f h hf
    cases f with
    | zero => simp at hf
    | succ f =>
      have hlt : pre.length < (pre ++ (b :: t ++ post)).length := by simp
      have hget : (pre ++ (b :: t ++ post))[pre.length]'hlt = b := by
        rw [List.getElem_append_right (Nat.le_refl _)]
        simp
      cases t with
      | nil =>
        have hb : b.toNat < 128 := h
        exact scan_low _ f _ hlt (by rw [hget]; exact hb)
      | cons c t =>
        obtain ⟨hb, he⟩ := h
        rw [scan_high _ f _ hlt (by rw [hget]; omega)]
        have := ih (pre ++ [b]) f he (by simp at hf ⊢; omega)
        simp only [List.length_append, List.length_cons, List.length_nil, List.append_assoc, List.cons_append, List.nil_append] at this ⊢
        rw [this]
        simp; omega
theorem enc_ne {l : List UInt8} (h : enc l) : 0 < l.length := by cases l with | nil => exact h.elim | cons b t => simp
theorem enc_last : ∀ {l : List UInt8}, enc l → ∀ b, l.getLast? = some b → b.toNat < 128
  | [], h, _, _ => h.elim
  | [c], h, b, e => by simp at e; subst e; exact h
  | c :: d :: t, h, b, e => by
    rw [List.getLast?_cons_cons] at e
    exact enc_last h.2 b e
theorem part_mid (pre l post : List UInt8) : part ⟨(pre ++ (l ++ post)).toArray⟩ pre.length (pre.length + l.length) = l := by
  unfold part
  simp
theorem last_mid (pre l post : List UInt8) (h : 0 < l.length) : lastOf ⟨(pre ++ (l ++ post)).toArray⟩ (pre.length + l.length) = (l.getLast?.getD 0).toNat := by
  unfold lastOf
  rw [show (⟨(pre ++ (l ++ post)).toArray⟩ : ByteArray).data.toList = pre ++ (l ++ post) from rfl, List.getElem?_append_right (by omega), List.getElem?_append_left (by omega),
    List.getLast?_eq_getElem?, show pre.length + l.length - 1 - pre.length = l.length - 1 by omega]
theorem endF_mid (pre l post : List UInt8) (h : enc l) (h10 : l.length ≤ 10) (hz : (pre ++ (l ++ post)).length ≤ 2000) : endF (pre ++ (l ++ post)) (pre.length : Nat) = (pre.length + l.length, 0) := by
  unfold endF
  rw [if_pos ⟨hz, by omega, by simp only [List.length_append]; omega⟩, Int.toNat_natCast]
  exact scan_mid pre post l 10 h h10
theorem enc_lebN : ∀ (k n : Nat), n < 128 ^ (k + 1) → enc (lebN k n) := by
  intro k
  induction k with
  | zero => intro n h; simp at h; show (UInt8.ofNat n).toNat < 128; rw [ofNat_toNat _ (by omega)]; omega
  | succ k ih =>
    intro n h
    simp only [lebN]
    by_cases hb : n < 128
    · rw [if_pos hb]; show (UInt8.ofNat n).toNat < 128; rw [ofNat_toNat _ (by omega)]; omega
    · rw [if_neg hb]
      have he := ih (n / 128) (by rw [Nat.pow_succ] at h; exact Nat.div_lt_of_lt_mul (by omega))
      cases e : lebN k (n / 128) with
      | nil => rw [e] at he; exact he.elim
      | cons c t =>
        rw [e] at he
        exact ⟨by rw [ofNat_toNat _ (by omega)]; omega, he⟩
theorem valU_lebN : ∀ (k n : Nat), n < 128 ^ (k + 1) → valU (lebN k n) = n := by
  intro k
  induction k with
  | zero => intro n h; simp at h; show (UInt8.ofNat n).toNat % 128 + 128 * 0 = n; rw [ofNat_toNat _ (by omega)]; omega
  | succ k ih =>
    intro n h
    simp only [lebN]
    by_cases hb : n < 128
    · rw [if_pos hb]; show (UInt8.ofNat n).toNat % 128 + 128 * 0 = n; rw [ofNat_toNat _ (by omega)]; omega
    · rw [if_neg hb]
      show (UInt8.ofNat (n % 128 + 128)).toNat % 128 + 128 * valU (lebN k (n / 128)) = n
      rw [ih (n / 128) (by rw [Nat.pow_succ] at h; exact Nat.div_lt_of_lt_mul (by omega)), ofNat_toNat _ (by omega)]
      omega
theorem leb_nine {n : Nat} (h : n < 18446744073709551616) : leb n = lebN 9 n :=
  lebN_more 9 n (by have : 128 ^ (9 + 1) = 1180591620717411303424 := by decide
                    omega) 1
theorem leb_ten {n : Nat} (h : n < 18446744073709551616) : (leb n).length ≤ 10 := by rw [leb_nine h]; exact lebN_le 9 n
theorem pow10 : (128 : Nat) ^ (9 + 1) = 1180591620717411303424 := by decide
theorem leb_enc {n : Nat} (h : n < 18446744073709551616) : enc (leb n) := by rw [leb_nine h]; exact enc_lebN 9 n (by rw [pow10]; omega)
theorem leb_val {n : Nat} (h : n < 18446744073709551616) : valU (leb n) = n := by rw [leb_nine h]; exact valU_lebN 9 n (by rw [pow10]; omega)
theorem getLast_some {l : List UInt8} (h : 0 < l.length) : ∃ b, l.getLast? = some b := by
  cases e : l.getLast? with
  | none => rw [List.getLast?_eq_none_iff] at e; subst e; simp at h
  | some b => exact ⟨b, rfl⟩
theorem drop_last : ∀ {l : List UInt8} {b : UInt8}, l.getLast? = some b → l = l.dropLast ++ [b]
  | [], b, h => by simp at h
  | [c], b, h => by simp at h; subst h; rfl
  | c :: d :: t, b, h => by
    rw [List.getLast?_cons_cons] at h
    have := drop_last h
    rw [List.dropLast_cons_cons, List.cons_append, ← this]
theorem leb_lastBd {n : Nat} (h : n < 18446744073709551616) (h10 : (leb n).length = 10) : ((leb n).getLast?.getD 0).toNat ≤ 1 := by
  obtain ⟨b, hb⟩ := getLast_some (leb_pos n)
  have hlt := enc_last (leb_enc h) b hb
  have hd : leb n = (leb n).dropLast ++ [b] := drop_last hb
  have hv := leb_val h
  rw [hd, valU_append, List.length_dropLast, h10] at hv
  have h9 : (128 : Nat) ^ (10 - 1) = 9223372036854775808 := by decide
  rw [h9] at hv
  simp only [valU, Nat.mul_zero, Nat.add_zero] at hv
  rw [hb]
  show b.toNat ≤ 1
  omega
theorem leb_lastNe {n : Nat} (h : n < 18446744073709551616) (h1 : 1 < (leb n).length) : ((leb n).getLast?.getD 0).toNat ≠ 0 := by
  have hn : 128 ≤ n := by
    rcases Nat.lt_or_ge n 128 with g | g
    · rw [leb_small n g] at h1; simp at h1
    · exact g
  obtain ⟨b, hb, h0⟩ := leb_last 10 n hn (by have : (128 : Nat) ^ (10 + 1) = 151115727451828646838272 := by decide
                                             omega)
  have hb' : (leb n).getLast? = some b := hb
  rw [hb']; exact h0
theorem rdU_mid (pre post : List UInt8) {n : Nat} (h : n < 18446744073709551616) (hz : (pre ++ (leb n ++ post)).length ≤ 2000) :
    rdU ⟨(pre ++ (leb n ++ post)).toArray⟩ (pre.length : Nat) = (n, pre.length + (leb n).length, 0, true) := by
  have he : endF (⟨(pre ++ (leb n ++ post)).toArray⟩ : ByteArray).data.toList (pre.length : Nat) = (pre.length + (leb n).length, 0) := endF_mid pre (leb n) post (leb_enc h) (leb_ten h) hz
  unfold rdU
  rw [he]
  simp only [Int.toNat_natCast, ne_eq, not_true_eq_false, if_false, last_mid pre (leb n) post (leb_pos n), part_mid, leb_val h]
  rw [if_neg (by rintro ⟨a, b⟩; have := leb_lastBd h (by omega); omega), if_neg (by rintro ⟨a, b⟩; exact leb_lastNe h (by omega) b)]
/-- a number read from a text is that of its bytes -/
theorem rdU_back (s : ByteArray) (a : Int) (h : (rdU s a).2.2.2 = true) : ∃ n m : Nat, a = n ∧ n < m ∧ m ≤ s.size ∧ s.size ≤ 2000 ∧ (rdU s a).2.1 = m ∧ (rdU s a).2.2.1 = 0 ∧ (rdU s a).1 < 18446744073709551616 ∧ leb (rdU s a).1 = part s n m := by
  have hf := (rdU_facts s a h).1
  rcases endF_ways s a with ⟨n, m, rfl, hnm, hk, hlt, hz, he, hlow, hall⟩ | hbad
  · have hr := rdU_ok s n m he (by omega) hlt
    rw [hr] at h hf ⊢
    refine ⟨n, m, rfl, hnm, hlt, hz, ?_⟩
    by_cases g1 : m - n = 10 ∧ 1 < (s[m - 1]'(by omega)).toNat
    · rw [if_pos g1] at h; cases h
    · rw [if_neg g1] at h hf ⊢
      by_cases g2 : 1 < m - n ∧ (s[m - 1]'(by omega)).toNat = 0
      · rw [if_pos g2] at h; cases h
      · rw [if_neg g2] at h hf ⊢
        exact ⟨rfl, rfl, hf, canon_yes s hnm hk hlt (enc_part s (m - n - 1) n m (by omega) hlt hlow hall) g2⟩
  · have : ∃ c : Nat, c ≠ 0 ∧ endF s.data.toList a = (0, c) := by
      rcases hbad with ⟨h, _⟩ | ⟨h | h, _⟩
      · exact ⟨1, by decide, h⟩
      · exact ⟨2, by decide, h⟩
      · exact ⟨3, by decide, h⟩
    obtain ⟨c, hc, he⟩ := this
    rw [rdU_code s a he hc] at h
    cases h
theorem rdS_back (s : ByteArray) (a : Int) (h : (rdS s a).2.2.2 = true) : ∃ n m : Nat, a = n ∧ n < m ∧ m ≤ s.size ∧ s.size ≤ 2000 ∧ (rdS s a).2.1 = m ∧ (rdS s a).2.2.1 = 0 ∧ (-9223372036854775808 ≤ (rdS s a).1 ∧ (rdS s a).1 ≤ 9223372036854775807) ∧ lebs (rdS s a).1 = part s n m := by
  rcases endF_ways s a with ⟨n, m, rfl, hnm, hk, hlt, hz, he, hlow, hall⟩ | hbad
  · have hr := rdS_ok s n m he (by omega) hlt
    have hbd := valS_bd s hnm hlt hk
    rw [hr] at h ⊢
    refine ⟨n, m, rfl, hnm, hlt, hz, ?_⟩
    by_cases g1 : m - n = 10 ∧ (s[m - 1]'(by omega)).toNat ≠ 0 ∧ (s[m - 1]'(by omega)).toNat ≠ 127
    · rw [if_pos g1] at h; cases h
    · rw [if_neg g1] at h ⊢
      by_cases g2 : lebs (valS s n m) ≠ part s n m
      · rw [if_pos g2] at h; cases h
      · rw [if_neg g2] at h ⊢
        exact ⟨rfl, rfl, hbd g1, Classical.not_not.1 g2⟩
  · have : ∃ c : Nat, c ≠ 0 ∧ endF s.data.toList a = (0, c) := by
      rcases hbad with ⟨h, _⟩ | ⟨h | h, _⟩
      · exact ⟨1, by decide, h⟩
      · exact ⟨2, by decide, h⟩
      · exact ⟨3, by decide, h⟩
    obtain ⟨c, hc, he⟩ := this
    rw [rdS_code s a he hc] at h
    cases h
theorem enc_lebsN : ∀ (k : Nat) (n : Int), -(64 * 128 ^ k) ≤ n → n < 64 * 128 ^ k → enc (lebsN k n) := by
  intro k
  induction k with
  | zero => intro n h1 h2; show (UInt8.ofNat (n % 128).toNat).toNat < 128; rw [ofNat_toNat _ (by omega)]; omega
  | succ k ih =>
    intro n h1 h2
    simp only [lebsN]
    by_cases hb : -64 ≤ n ∧ n ≤ 63
    · rw [if_pos hb]; show (UInt8.ofNat (n % 128).toNat).toNat < 128; rw [ofNat_toNat _ (by omega)]; omega
    · rw [if_neg hb]
      have he := ih (n / 128) (by rw [Int.pow_succ] at h1; omega) (by rw [Int.pow_succ] at h2; omega)
      cases e : lebsN k (n / 128) with
      | nil => rw [e] at he; exact he.elim
      | cons c t =>
        rw [e] at he
        exact ⟨by rw [ofNat_toNat _ (by omega)]; omega, he⟩
def sgL (l : List UInt8) : Int := if 64 ≤ (l.getLast?.getD 0).toNat then -1 else 0
theorem sgL_cons (b : UInt8) {l : List UInt8} (h : 0 < l.length) : sgL (b :: l) = sgL l := by
  cases l with
  | nil => simp at h
  | cons c t => unfold sgL; rw [List.getLast?_cons_cons]
theorem lebsN_pos (k : Nat) (n : Int) : 0 < (lebsN k n).length := by cases k with | zero => simp [lebsN] | succ k => simp only [lebsN]; split <;> simp
theorem sv_one {n : Int} (h : -64 ≤ n ∧ n ≤ 63) : sv [UInt8.ofNat (n % 128).toNat] (sgL [UInt8.ofNat (n % 128).toNat]) = n := by
  have e : ∀ x : UInt8, sv [x] (sgL [x]) = ((x.toNat % 128 : Nat) : Int) + 128 * (if 64 ≤ x.toNat then -1 else 0) := fun x => rfl
  rw [e, ofNat_toNat _ (by omega)]
  split <;> omega
theorem sv_lebsN : ∀ (k : Nat) (n : Int), -(64 * 128 ^ k) ≤ n → n < 64 * 128 ^ k → sv (lebsN k n) (sgL (lebsN k n)) = n := by
  intro k
  induction k with
  | zero => intro n h1 h2; exact sv_one ⟨by omega, by omega⟩
  | succ k ih =>
    intro n h1 h2
    simp only [lebsN]
    by_cases hb : -64 ≤ n ∧ n ≤ 63
    · rw [if_pos hb]; exact sv_one hb
    · rw [if_neg hb, sgL_cons _ (lebsN_pos _ _)]
      have he := ih (n / 128) (by rw [Int.pow_succ] at h1; omega) (by rw [Int.pow_succ] at h2; omega)
      simp only [sv]
      rw [he, ofNat_toNat _ (by omega)]
      omega
theorem p9 : (64 : Int) * 128 ^ 9 = 590295810358705651712 := by decide
theorem lebs_nine {n : Int} (h1 : -9223372036854775808 ≤ n) (h2 : n ≤ 9223372036854775807) : lebs n = lebsN 9 n :=
  lebsN_more 9 n (by rw [p9]; omega) (by rw [p9]; omega) 1
section
variable {n : Int} (h1 : -9223372036854775808 ≤ n) (h2 : n ≤ 9223372036854775807)
include h1 h2
theorem lebs_ten : (lebs n).length ≤ 10 := by rw [lebs_nine h1 h2]; exact lebsN_le 9 n
theorem lebs_enc : enc (lebs n) := by rw [lebs_nine h1 h2]; exact enc_lebsN 9 n (by rw [p9]; omega) (by rw [p9]; omega)
theorem lebs_val : sv (lebs n) (sgL (lebs n)) = n := by rw [lebs_nine h1 h2]; exact sv_lebsN 9 n (by rw [p9]; omega) (by rw [p9]; omega)
theorem lebs_lastBd (h10 : (lebs n).length = 10) : ((lebs n).getLast?.getD 0).toNat = 0 ∨ ((lebs n).getLast?.getD 0).toNat = 127 := by
  obtain ⟨b, hb⟩ := getLast_some (lebs_pos n)
  have hlt := enc_last (lebs_enc h1 h2) b hb
  have hd : lebs n = (lebs n).dropLast ++ [b] := drop_last hb
  have hv := lebs_val h1 h2
  have hg : sgL (lebs n) = if 64 ≤ b.toNat then -1 else 0 := by unfold sgL; rw [hb]; rfl
  rw [hg, hd, sv_append, sv_valU, List.length_dropLast, h10] at hv
  have h9 : (128 : Int) ^ (10 - 1) = 9223372036854775808 := by decide
  have hU := valU_lt (lebs n).dropLast
  rw [List.length_dropLast, h10] at hU
  have h9' : (128 : Nat) ^ (10 - 1) = 9223372036854775808 := by decide
  rw [h9'] at hU
  rw [h9] at hv
  simp only [sv] at hv
  rw [hb]
  show b.toNat = 0 ∨ b.toNat = 127
  split at hv <;> omega
theorem rdS_mid (pre post : List UInt8) (hz : (pre ++ (lebs n ++ post)).length ≤ 2000) :
    rdS ⟨(pre ++ (lebs n ++ post)).toArray⟩ (pre.length : Nat) = (n, pre.length + (lebs n).length, 0, true) := by
  have he : endF (⟨(pre ++ (lebs n ++ post)).toArray⟩ : ByteArray).data.toList (pre.length : Nat) = (pre.length + (lebs n).length, 0) := endF_mid pre (lebs n) post (lebs_enc h1 h2) (lebs_ten h1 h2) hz
  have hval : valS ⟨(pre ++ (lebs n ++ post)).toArray⟩ pre.length (pre.length + (lebs n).length) = n := by
    unfold valS sgn
    rw [part_mid, last_mid pre (lebs n) post (lebs_pos n)]
    exact lebs_val h1 h2
  unfold rdS
  rw [he]
  simp only [Int.toNat_natCast, ne_eq, not_true_eq_false, if_false, last_mid pre (lebs n) post (lebs_pos n), part_mid, hval]
  rw [if_neg (by rintro ⟨a, b, c⟩; rcases lebs_lastBd h1 h2 (by omega) with g | g
                 · exact b g
                 · exact c g)]
end
end Go.Proofs.Ytheddnjhkcpmnaa
