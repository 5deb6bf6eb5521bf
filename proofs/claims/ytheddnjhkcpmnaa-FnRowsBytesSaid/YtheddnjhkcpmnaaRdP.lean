
/- Reading numbers from bytes: plain Lean, no program in sight. No condition. -/
import Derived.Test.YtheddnjhkcpmnaaLebP
set_option linter.unusedSimpArgs false
set_option linter.unusedVariables false
namespace Go.Proofs.Ytheddnjhkcpmnaa

theorem size_eq (s : ByteArray) : s.data.toList.length = s.size := by rw [Array.length_toList]; rfl
theorem byte_eq (s : ByteArray) (k : Nat) (h : k < s.size) : s.data.toList[k]'(by rw [size_eq]; exact h) = s[k] := by rw [Array.getElem_toList]; rfl
/-- the place behind a number, and a code: so many bytes at most, from place i on -/
def scan (s : List UInt8) : Nat → Nat → Nat × Nat
  | 0, _ => (0, 3)
  | f + 1, i => match s[i]? with
    | none => (0, 2)
    | some b => if b.toNat < 128 then (i + 1, 0) else scan s f (i + 1)
theorem scan_end (s : List UInt8) (f i : Nat) (h : s.length ≤ i) : scan s (f + 1) i = (0, 2) := by
  simp [scan, List.getElem?_eq_none h]
theorem scan_low (s : List UInt8) (f i : Nat) (h : i < s.length) (hb : s[i].toNat < 128) : scan s (f + 1) i = (i + 1, 0) := by
  simp [scan, List.getElem?_eq_getElem h, hb]
theorem scan_high (s : List UInt8) (f i : Nat) (h : i < s.length) (hb : ¬ s[i].toNat < 128) : scan s (f + 1) i = scan s f (i + 1) := by
  simp [scan, List.getElem?_eq_getElem h, hb]
/-- what a scan tells -/
theorem scan_spec (s : List UInt8) : ∀ (f i : Nat), (∃ k, k < f ∧ scan s f i = (i + k + 1, 0) ∧ ∃ h : i + k < s.length, s[i + k].toNat < 128 ∧ ∀ j, j < k → ∀ hj : i + j < s.length, 128 ≤ s[i + j].toNat) ∨ scan s f i = (0, 2) ∨ scan s f i = (0, 3) := by
  intro f
  induction f with
  | zero => intro i; exact .inr (.inr rfl)
  | succ f ih =>
    intro i
    rcases Nat.lt_or_ge i s.length with h | h
    · by_cases hb : s[i].toNat < 128
      · exact .inl ⟨0, by omega, scan_low s f i h hb, h, hb, fun j hj => by omega⟩
      · rw [scan_high s f i h hb]
        rcases ih (i + 1) with ⟨k, hk, he, hlt, hlow, hall⟩ | h2 | h3
        · refine .inl ⟨k + 1, by omega, by rw [he, show i + 1 + k + 1 = i + (k + 1) + 1 by omega], by omega, by simpa [show i + (k + 1) = i + 1 + k by omega] using hlow, ?_⟩
          intro j hj hjl
          cases j with
          | zero => simp; omega
          | succ j => have := hall j (by omega) (by omega); simpa [show i + (j + 1) = i + 1 + j by omega] using this
        · exact .inr (.inl h2)
        · exact .inr (.inr h3)
    · exact .inr (.inl (scan_end s f i h))

def endF (s : List UInt8) (a : Int) : Nat × Nat := if s.length ≤ 2000 ∧ 0 ≤ a ∧ a ≤ s.length then scan s 10 a.toNat else (0, 1)

theorem scan_lowB (s : ByteArray) {m n k : Nat} (hf : k < n + 10) (h : k < s.size) (hb : s[k].toNat < 128) (hsc : scan s.data.toList (n + 10 - k) k = scan s.data.toList m n) : scan s.data.toList m n = (k + 1, 0) := by
  rw [← hsc, show n + 10 - k = (n + 9 - k) + 1 by omega]
  exact scan_low _ _ _ (by rw [size_eq]; exact h) (by rw [byte_eq s k h]; omega)
theorem scan_highB (s : ByteArray) {m n k : Nat} (hf : k < n + 10) (h : k < s.size) (hb : 128 ≤ s[k].toNat) (hsc : scan s.data.toList (n + 10 - k) k = scan s.data.toList m n) : scan s.data.toList (n + 10 - (k + 1)) (k + 1) = scan s.data.toList m n := by
  rw [← hsc, show n + 10 - k = (n + 10 - (k + 1)) + 1 by omega]
  exact (scan_high _ _ _ (by rw [size_eq]; exact h) (by rw [byte_eq s k h]; omega)).symm
theorem scan_outB (s : ByteArray) {m n k : Nat} (hf : k < n + 10) (h : s.size ≤ k) (hsc : scan s.data.toList (n + 10 - k) k = scan s.data.toList m n) : scan s.data.toList m n = (0, 2) := by
  rw [← hsc, show n + 10 - k = (n + 9 - k) + 1 by omega]
  exact scan_end _ _ _ (by rw [size_eq]; exact h)
theorem scan_tenB (s : ByteArray) {m n k : Nat} (hf : k = n + 10) (hsc : scan s.data.toList (n + 10 - k) k = scan s.data.toList m n) : scan s.data.toList m n = (0, 3) := by
  rw [← hsc, show n + 10 - k = 0 by omega]; rfl

/-- the number of bytes, the lowest first -/
def valU : List UInt8 → Nat
  | [] => 0
  | b :: t => b.toNat % 128 + 128 * valU t
theorem valU_append (a b : List UInt8) : valU (a ++ b) = valU a + 128 ^ a.length * valU b := by
  induction a with
  | nil => simp [valU]
  | cons x a ih => simp only [List.cons_append, valU, ih, List.length_cons, Nat.pow_succ]; rw [Nat.mul_add, ← Nat.mul_assoc, Nat.mul_comm (128 ^ a.length) 128]; omega
theorem valU_lt (a : List UInt8) : valU a < 128 ^ a.length := by
  induction a with
  | nil => simp [valU]
  | cons x a ih => simp only [valU, List.length_cons, Nat.pow_succ]; omega
/-- the bytes from one place to another -/
def part (s : ByteArray) (i j : Nat) : List UInt8 := (s.data.toList.drop i).take (j - i)
theorem part_snoc (s : ByteArray) {i j : Nat} (hi : i ≤ j) (hj : j < s.size) : part s i (j + 1) = part s i j ++ [s[j]] := by
  unfold part
  rw [show j + 1 - i = (j - i) + 1 by omega, List.take_add_one, List.getElem?_drop, show i + (j - i) = j by omega,
    List.getElem?_eq_getElem (by rw [size_eq]; exact hj), byte_eq s j hj]
  rfl
theorem part_cons (s : ByteArray) {i j : Nat} (hi : i < j) (hj : i < s.size) : part s i j = s[i] :: part s (i + 1) j := by
  unfold part
  rw [show j - i = (j - (i + 1)) + 1 by omega, List.drop_eq_getElem_cons (by rw [size_eq]; exact hj), byte_eq s i hj]
  rfl
theorem part_nil (s : ByteArray) (i : Nat) : part s i i = [] := by simp [part]
theorem part_length (s : ByteArray) {i j : Nat} (hj : j ≤ s.size) : (part s i j).length = j - i := by
  unfold part; rw [List.length_take, List.length_drop, size_eq]; omega

theorem join64 (i V c : Nat) (hi : i ≤ 63) (hV : V < 2 ^ i) : V ||| (c * 2 ^ i) % 18446744073709551616 = (V + 2 ^ i * c) % 18446744073709551616 := by
  have hp : 2 ^ i * 2 ^ (64 - i) = 18446744073709551616 := by rw [← Nat.pow_add, show i + (64 - i) = 64 by omega]
  have e : (c * 2 ^ i) % 18446744073709551616 = 2 ^ i * (c % 2 ^ (64 - i)) := by
    rw [← hp, Nat.mul_comm c, Nat.mul_mod_mul_left]
  have hc : c % 2 ^ (64 - i) < 2 ^ (64 - i) := Nat.mod_lt _ (Nat.two_pow_pos _)
  have e2 : (V + 2 ^ i * c) % 18446744073709551616 = V + 2 ^ i * (c % 2 ^ (64 - i)) := by
    have h1 : 2 ^ i * (c % 2 ^ (64 - i)) + 2 ^ i ≤ 18446744073709551616 := by
      rw [← hp, ← Nat.mul_succ]; exact Nat.mul_le_mul_left _ hc
    have h2 : V + 2 ^ i * c = V + 2 ^ i * (c % 2 ^ (64 - i)) + 18446744073709551616 * (c / 2 ^ (64 - i)) := by
      conv => lhs; rw [← Nat.mod_add_div c (2 ^ (64 - i))]
      rw [Nat.mul_add, ← Nat.mul_assoc, hp]; omega
    rw [h2, Nat.add_mul_mod_self_left, Nat.mod_eq_of_lt (by omega)]
  rw [e, e2, Nat.or_comm, nat_join i _ V (by simp) hV, Nat.add_comm]

theorem lebBits_step (s : ByteArray) {n k : Nat} (hn : n ≤ k) (hk : k < s.size) (h9 : k ≤ n + 9) :
    bits .or .u64 ((valU (part s n k) : Int) % 18446744073709551616) (IntKind.u64.wrap (IntKind.u64.wrap (bits .and .u8 (s[k].toNat : Int) 127) * 2 ^ (7 * (k - n)))) = ((valU (part s n (k + 1)) : Nat) : Int) % 18446744073709551616 := by
  have hb : s[k].toNat < 256 := UInt8.toNat_lt _
  have hl : (part s n k).length = k - n := part_length s (by omega)
  have hV := valU_lt (part s n k)
  rw [hl, show (128 : Nat) = 2 ^ 7 from rfl, ← Nat.pow_mul] at hV
  have hV64 : 2 ^ (7 * (k - n)) ≤ 2 ^ 63 := Nat.pow_le_pow_right (by omega) (by omega)
  have h63 : (2 : Nat) ^ 63 = 9223372036854775808 := rfl
  have e1 : bits .and .u8 (s[k].toNat : Int) 127 = ((s[k].toNat % 128 : Nat) : Int) := by
    have := u8_and_127i (s[k].toNat : Int)
    rw [show (s[k].toNat : Int) % 256 = (s[k].toNat : Int) by omega] at this
    rw [this]; omega
  rw [e1, IntWalk.u64_in ((s[k].toNat % 128 : Nat) : Int) ⟨by omega, by omega⟩]
  have e2 : IntKind.u64.wrap (((s[k].toNat % 128 : Nat) : Int) * 2 ^ (7 * (k - n))) = ((((s[k].toNat % 128) * 2 ^ (7 * (k - n))) % 18446744073709551616 : Nat) : Int) := by
    generalize s[k].toNat % 128 = c
    rw [IntKind.wrap_u64, Int.natCast_emod, Int.natCast_mul, Int.natCast_pow]; rfl
  have e3 : ((valU (part s n k) : Int) % 18446744073709551616) = ((valU (part s n k) : Nat) : Int) := by omega
  rw [e2, e3, u64_or_nat _ _ (by omega) (Nat.mod_lt _ (by omega)), join64 _ _ _ (by omega) hV, part_snoc s hn hk, valU_append, hl]
  simp only [valU, Nat.mul_zero, Nat.add_zero]
  rw [show (128 : Nat) ^ (k - n) = 2 ^ (7 * (k - n)) by rw [Nat.pow_mul]]
  omega

def lastOf (s : ByteArray) (e : Nat) : Nat := (s.data.toList[e - 1]?.getD 0).toNat
theorem lastOf_eq (s : ByteArray) (e : Nat) (h : e < s.size) : lastOf s (e + 1) = s[e].toNat := by
  unfold lastOf
  rw [show e + 1 - 1 = e by omega, List.getElem?_eq_getElem (by rw [size_eq]; exact h), byte_eq s e h]; rfl
/-- what ReadU answers -/
def rdU (s : ByteArray) (a : Int) : Nat × Nat × Nat × Bool :=
  if (endF s.data.toList a).2 ≠ 0 then (0, 0, (endF s.data.toList a).2, false)
  else if (endF s.data.toList a).1 - a.toNat = 10 ∧ 1 < lastOf s (endF s.data.toList a).1 then (0, 0, 3, false)
  else if 1 < (endF s.data.toList a).1 - a.toNat ∧ lastOf s (endF s.data.toList a).1 = 0 then (0, 0, 4, false)
  else (valU (part s a.toNat (endF s.data.toList a).1), (endF s.data.toList a).1, 0, true)
theorem rdU_code (s : ByteArray) (a : Int) {c : Nat} (h : endF s.data.toList a = (0, c)) (hc : c ≠ 0) : rdU s a = (0, 0, c, false) := by
  unfold rdU; rw [h]; simp [hc]
theorem lastOf_eq' (s : ByteArray) (m : Nat) (h0 : 0 < m) (h : m ≤ s.size) : lastOf s m = (s[m - 1]'(by omega)).toNat := by
  have := lastOf_eq s (m - 1) (by omega)
  rw [show m - 1 + 1 = m by omega] at this
  exact this
theorem rdU_ok (s : ByteArray) (n m : Nat) (h : endF s.data.toList n = (m, 0)) (h0 : 0 < m) (hm : m ≤ s.size) :
    rdU s n = if m - n = 10 ∧ 1 < (s[m - 1]'(by omega)).toNat then (0, 0, 3, false) else if 1 < m - n ∧ (s[m - 1]'(by omega)).toNat = 0 then (0, 0, 4, false) else (valU (part s n m), m, 0, true) := by
  unfold rdU
  rw [h]
  simp only [lastOf_eq' s m h0 hm, Int.toNat_natCast, ne_eq, not_true_eq_false, if_false]
/-- the four ways of a place -/
theorem endF_ways (s : ByteArray) (a : Int) : (∃ n m : Nat, a = n ∧ n < m ∧ m ≤ n + 10 ∧ m ≤ s.size ∧ s.size ≤ 2000 ∧ endF s.data.toList a = (m, 0) ∧ lastOf s m < 128 ∧ ∀ j, n ≤ j → j + 1 < m → ∀ hj : j < s.size, 128 ≤ s[j].toNat) ∨
    ((endF s.data.toList a = (0, 1) ∧ ¬ (s.size ≤ 2000 ∧ 0 ≤ a ∧ a ≤ s.size)) ∨ ((endF s.data.toList a = (0, 2) ∨ endF s.data.toList a = (0, 3)) ∧ s.size ≤ 2000 ∧ 0 ≤ a ∧ a ≤ s.size)) := by
  unfold endF
  rw [size_eq]
  by_cases g : s.size ≤ 2000 ∧ 0 ≤ a ∧ a ≤ s.size
  · rw [if_pos g]
    obtain ⟨g1, g2, g3⟩ := g
    obtain ⟨n, rfl⟩ := Int.eq_ofNat_of_zero_le g2
    rw [Int.toNat_natCast]
    rcases scan_spec s.data.toList 10 n with ⟨k, hk, he, h, hlow, hall⟩ | h | h
    · have h' : n + k < s.size := by rw [size_eq] at h; exact h
      refine .inl ⟨n, n + k + 1, rfl, by omega, by omega, by omega, g1, he, ?_, ?_⟩
      · rw [byte_eq s (n + k) h'] at hlow; rw [lastOf_eq s (n + k) h']; exact hlow
      · intro j hj1 hj2 hjl
        have := hall (j - n) (by omega) (by rw [size_eq]; omega)
        simp only [show n + (j - n) = j by omega] at this
        rw [byte_eq s j hjl] at this; exact this
    · exact .inr (.inr ⟨.inl h, g1, g2, g3⟩)
    · exact .inr (.inr ⟨.inr h, g1, g2, g3⟩)
  · rw [if_neg g]; exact .inr (.inl ⟨rfl, g⟩)

theorem valU_64 (s : ByteArray) {n m : Nat} (h : n < m) (hm : m ≤ s.size) (h2 : m ≤ n + 10) (h3 : ¬ (m - n = 10 ∧ 1 < (s[m - 1]'(by omega)).toNat)) : valU (part s n m) < 18446744073709551616 := by
  have e : part s n m = part s n (m - 1) ++ [s[m - 1]'(by omega)] := by
    have := part_snoc s (i := n) (j := m - 1) (by omega) (by omega)
    rwa [show m - 1 + 1 = m by omega] at this
  have hl : (part s n (m - 1)).length = m - 1 - n := part_length s (by omega)
  have hv := valU_lt (part s n (m - 1))
  rw [e, valU_append, hl]
  rw [hl] at hv
  simp only [valU, Nat.mul_zero, Nat.add_zero]
  have hp9 : (128 : Nat) ^ 9 = 9223372036854775808 := by decide
  have hp8 : (128 : Nat) ^ 8 = 72057594037927936 := by decide
  by_cases k : m - n = 10
  · rw [show m - 1 - n = 9 by omega, hp9] at hv ⊢
    have : (s[m - 1]'(by omega)).toNat ≤ 1 := by omega
    omega
  · have hle : 128 ^ (m - 1 - n) ≤ 128 ^ 8 := Nat.pow_le_pow_right (by omega) (by omega)
    have hlt : (s[m - 1]'(by omega)).toNat % 128 ≤ 127 := by omega
    have := Nat.mul_le_mul hle hlt
    omega

/-- bytes of which all but the last have 128 or more -/
def enc : List UInt8 → Prop
  | [] => False
  | [b] => b.toNat < 128
  | b :: c :: t => 128 ≤ b.toNat ∧ enc (c :: t)
theorem enc_part (s : ByteArray) : ∀ (d n m : Nat), m = n + d + 1 → m ≤ s.size → lastOf s m < 128 → (∀ j, n ≤ j → j + 1 < m → ∀ hj : j < s.size, 128 ≤ s[j].toNat) → enc (part s n m) := by
  intro d
  induction d with
  | zero =>
    intro n m hd hm hlow _
    subst hd
    rw [part_cons s (by omega) (by omega), part_nil]
    rw [lastOf_eq s n (by omega)] at hlow
    exact hlow
  | succ d ih =>
    intro n m hd hm hlow hall
    have := ih (n + 1) m (by omega) hm hlow (fun j h1 h2 hj => hall j (by omega) h2 hj)
    rw [part_cons s (i := n) (by omega) (by omega)]
    have h0 := hall n (Nat.le_refl _) (by omega) (by omega)
    rw [part_cons s (i := n + 1) (by omega) (by omega)] at this ⊢
    exact ⟨h0, this⟩
theorem leb_last : ∀ (k n : Nat), 128 ≤ n → n < 128 ^ (k + 1) → ∃ b, (lebN k n).getLast? = some b ∧ b.toNat ≠ 0 := by
  intro k
  induction k with
  | zero => intro n h1 h2; simp at h2; omega
  | succ k ih =>
    intro n h1 h2
    simp only [lebN]
    rw [if_neg (by omega)]
    by_cases h : n / 128 < 128
    · have e : lebN k (n / 128) = [UInt8.ofNat (n / 128)] := by
        have := lebN_more 0 (n / 128) (by simpa using h) k
        rw [Nat.zero_add] at this
        rw [this]; rfl
      rw [e]
      refine ⟨UInt8.ofNat (n / 128), rfl, ?_⟩
      rw [ofNat_toNat _ (by omega)]; omega
    · obtain ⟨b, hb, h0⟩ := ih (n / 128) (by omega) (by rw [Nat.pow_succ] at h2; exact Nat.div_lt_of_lt_mul (by omega))
      refine ⟨b, ?_, h0⟩
      rw [List.getLast?_cons, hb]; rfl
theorem leb_valU : ∀ (l : List UInt8) (k : Nat), enc l → l.length ≤ k + 1 → (1 < l.length → ∃ b, l.getLast? = some b ∧ b.toNat ≠ 0) → lebN k (valU l) = l ∧ (1 < l.length → 128 ≤ valU l) := by
  intro l
  induction l with
  | nil => intro k h; exact h.elim
  | cons b t ih =>
    intro k h hl hne
    cases t with
    | nil =>
      have hb : b.toNat < 128 := h
      have e : valU [b] = b.toNat := by simp only [valU]; omega
      refine ⟨?_, fun hh => by simp at hh⟩
      rw [e]
      have hu : UInt8.ofNat b.toNat = b := by simp
      cases k with
      | zero => simp only [lebN]; rw [hu]
      | succ k => simp only [lebN]; rw [if_pos hb, hu]
    | cons c t =>
      obtain ⟨hb, he⟩ := h
      have hlc : (b :: c :: t).length = (c :: t).length + 1 := rfl
      obtain ⟨z, hz, hz0⟩ := hne (by simp)
      have hz' : (c :: t).getLast? = some z := by rw [List.getLast?_cons_cons] at hz; exact hz
      cases k with
      | zero => simp at hl
      | succ k =>
        obtain ⟨h1, h2⟩ := ih k he (by simp at hl ⊢; omega) (fun _ => ⟨z, hz', hz0⟩)
        have hpos : 0 < valU (c :: t) := by
          cases t with
          | nil =>
            have hc : c.toNat < 128 := he
            simp at hz'
            subst hz'
            simp only [valU]; omega
          | cons d t => have := h2 (by simp); omega
        have hv : valU (b :: c :: t) = b.toNat % 128 + 128 * valU (c :: t) := rfl
        have hb2 : b.toNat < 256 := UInt8.toNat_lt _
        refine ⟨?_, fun _ => by rw [hv]; omega⟩
        simp only [lebN]
        rw [hv, if_neg (by omega), show (b.toNat % 128 + 128 * valU (c :: t)) / 128 = valU (c :: t) by omega, h1,
          show (b.toNat % 128 + 128 * valU (c :: t)) % 128 + 128 = b.toNat by omega]
        simp
theorem part_last (s : ByteArray) {n m : Nat} (h : n < m) (hm : m ≤ s.size) : (part s n m).getLast? = some (s[m - 1]'(by omega)) := by
  have e : part s n m = part s n (m - 1) ++ [s[m - 1]'(by omega)] := by
    have := part_snoc s (i := n) (j := m - 1) (by omega) (by omega)
    rwa [show m - 1 + 1 = m by omega] at this
  rw [e]; simp
theorem canon_yes (s : ByteArray) {n m : Nat} (h : n < m) (h2 : m ≤ n + 10) (hm : m ≤ s.size) (he : enc (part s n m)) (h0 : ¬ (1 < m - n ∧ (s[m - 1]'(by omega)).toNat = 0)) : leb (valU (part s n m)) = part s n m := by
  refine (leb_valU (part s n m) 10 he ?_ ?_).1
  · rw [part_length s hm]; omega
  · intro hl
    rw [part_length s hm] at hl
    exact ⟨_, part_last s h hm, fun e => h0 ⟨by omega, e⟩⟩
theorem canon_no (s : ByteArray) {n m : Nat} (h : n < m) (hm : m ≤ s.size) (hv : valU (part s n m) < 18446744073709551616) (h0 : 1 < m - n ∧ (s[m - 1]'(by omega)).toNat = 0) : leb (valU (part s n m)) ≠ part s n m := by
  intro e
  by_cases hb : valU (part s n m) < 128
  · rw [leb_small _ hb] at e
    have := congrArg List.length e
    rw [part_length s hm] at this
    simp at this
    omega
  · have hp : 128 ^ (10 + 1) = 151115727451828646838272 := by decide
    obtain ⟨b, hb1, hb2⟩ := leb_last 10 (valU (part s n m)) (by omega) (by omega)
    have e' : lebN 10 (valU (part s n m)) = part s n m := e
    rw [e', part_last s h hm] at hb1
    injection hb1 with hb1
    subst hb1
    exact hb2 h0.2
theorem extract_eq (s : ByteArray) (n m : Nat) : (s.extract n m) = ⟨(part s n m).toArray⟩ := by
  apply ByteArray.ext
  apply Array.toList_inj.1
  simp [part, List.take_drop]

theorem valU_part_le (s : ByteArray) {n j m : Nat} (h1 : n ≤ j) (h2 : j ≤ m) (hm : m ≤ s.size) : valU (part s j m) ≤ valU (part s n m) := by
  obtain ⟨d, rfl⟩ : ∃ d, j = n + d := ⟨j - n, by omega⟩
  clear h1
  induction d with
  | zero => exact Nat.le_refl _
  | succ d ih =>
    have h := ih (by omega)
    have e : valU (part s (n + d) m) = (s[n + d]'(by omega)).toNat % 128 + 128 * valU (part s (n + d + 1) m) := by rw [part_cons s (by omega) (by omega)]; rfl
    rw [show n + (d + 1) = n + d + 1 by omega]
    generalize valU (part s (n + d + 1) m) = x at *
    generalize valU (part s (n + d) m) = y at *
    omega

theorem u64_step (b : UInt8) (V T : Nat) (h : T = b.toNat % 128 + 128 * V) (hV : (V : Int) ≤ 144115188075855871) : IntKind.u64.wrap ((V : Int) * 128 + IntKind.u64.wrap (bits .and .u8 (b.toNat : Int) 127)) = (T : Int) := by
  have hb : b.toNat < 256 := UInt8.toNat_lt _
  have := u8_and_127i (b.toNat : Int)
  rw [show (b.toNat : Int) % 256 = (b.toNat : Int) by omega] at this
  rw [this, IntWalk.u64_in ((b.toNat : Int) % 128) ⟨by omega, by omega⟩, IntWalk.u64_in _ ⟨by omega, by omega⟩]
  omega
end Go.Proofs.Ytheddnjhkcpmnaa
