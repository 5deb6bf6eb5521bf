
/- ReadExpr in plain Lean: words, numbers, tokens. No condition. -/
import Derived.Test.YtheddnjhkcpmnaaGreatDoorLwP
import Derived.Lib.Split
import Derived.Lib.SplitLaws
import Derived.Lib.AtoiTie
import Derived.Lib.IndexBytes
set_option linter.unusedSimpArgs false
set_option linter.unusedVariables false
namespace Go.Proofs.YtheddnjhkcpmnaaGreatDoor
open Go.Lib

/-- a text cut at its blanks -/
def spl : List UInt8 → List (List UInt8)
  | [] => [[]]
  | c :: r => if c = 32 then [] :: spl r else match spl r with
    | h :: t => (c :: h) :: t
    | [] => [[c]]
theorem spl_no : ∀ {p : List UInt8}, 32 ∉ p → spl p = [p]
  | [], _ => rfl
  | c :: r, h => by
    have hc : c ≠ 32 := fun e => h (by simp [e])
    have := spl_no (p := r) (fun e => h (by simp [e]))
    simp only [spl, if_neg hc, this]
theorem spl_cut : ∀ {p q : List UInt8}, 32 ∉ p → spl (p ++ 32 :: q) = p :: spl q
  | [], q, _ => by simp [spl]
  | c :: r, q, h => by
    have hc : c ≠ 32 := fun e => h (by simp [e])
    have := spl_cut (p := r) (q := q) (fun e => h (by simp [e]))
    simp only [List.cons_append, spl, if_neg hc, this]
theorem index_blank : ∀ (s : List UInt8), (index s [32] = -1 ∧ 32 ∉ s) ∨ ∃ p q, s = p ++ 32 :: q ∧ 32 ∉ p ∧ index s [32] = (p.length : Nat)
  | [] => .inl ⟨rfl, by simp⟩
  | b :: l => by
    by_cases hb : b = 32
    · subst hb
      exact .inr ⟨[], l, rfl, by simp, by simp [index]⟩
    · have hp : ([32] : List UInt8).isPrefixOf (b :: l) = false := by simp [List.isPrefixOf]; exact fun e => hb e.symm
      rcases index_blank l with ⟨h1, h2⟩ | ⟨p, q, rfl, h2, h3⟩
      · left
        refine ⟨by unfold index; rw [hp, h1]; rfl, ?_⟩
        simp only [List.mem_cons, not_or]; exact ⟨fun e => hb e.symm, h2⟩
      · right
        refine ⟨b :: p, q, rfl, ?_, ?_⟩
        · simp only [List.mem_cons, not_or]; exact ⟨fun e => hb e.symm, h2⟩
        · unfold index
          rw [hp, h3]
          have : (((p.length : Nat) : Int) == -1) = false := by rw [beq_eq_false_iff_ne]; omega
          simp [this]
theorem splitK_spl : ∀ (n : Nat) (s : List UInt8), s.length ≤ n → splitK [32] 0 (count s [32]) s = spl s := by
  intro n
  induction n with
  | zero =>
    intro s h
    obtain rfl : s = [] := List.eq_nil_of_length_eq_zero (by omega)
    rw [count_miss (by rfl)]; rfl
  | succ n ih =>
    intro s h
    rcases index_blank s with ⟨h1, h2⟩ | ⟨p, q, rfl, h2, h3⟩
    · rw [count_miss h1, spl_no h2]; rfl
    · rw [count_hit (by simp) h3, spl_cut h2, Nat.add_comm]
      have hd : (p ++ 32 :: q).drop (p.length + 1) = q := by
        rw [← List.drop_drop, List.drop_left]; rfl
      have e1 : ((index (p ++ 32 :: q) [32]) == -1) = false := by rw [h3, beq_eq_false_iff_ne]; omega
      simp only [splitK, List.length_singleton]
      rw [e1, h3]
      simp only [Int.toNat_natCast, Nat.add_zero, List.take_left, hd]
      rw [ih q (by simp at h; omega)]
      rfl
theorem splitB_spl (s : ByteArray) : (splitB ⟨#[32]⟩ 0 (countB s ⟨#[32]⟩) s).map (·.data.toList) = spl s.data.toList := by
  rw [splitB_data]; exact splitK_spl _ _ (Nat.le_refl _)
theorem spl_sizes : ∀ {s : List UInt8} {w : List UInt8}, w ∈ spl s → w.length ≤ s.length
  | [], w, h => by simp [spl] at h; subst h; simp
  | c :: r, w, h => by
    by_cases hc : c = 32
    · subst hc
      simp only [spl, if_pos, List.mem_cons] at h
      rcases h with rfl | h
      · simp
      · have := spl_sizes h; simp; omega
    · simp only [spl, if_neg hc] at h
      rcases hr : spl r with _ | ⟨a, t⟩
      · rw [hr] at h; simp at h; subst h; simp
      · rw [hr] at h
        simp only [List.mem_cons] at h
        rcases h with rfl | h
        · have := spl_sizes (s := r) (w := a) (by rw [hr]; simp); simp; omega
        · have := spl_sizes (s := r) (w := w) (by rw [hr]; simp [h]); simp; omega
theorem spl_len : ∀ (s : List UInt8), 1 ≤ (spl s).length ∧ (spl s).length ≤ s.length + 1
  | [] => by simp [spl]
  | c :: r => by
    have ih := spl_len r
    by_cases hc : c = 32
    · simp only [spl, if_pos hc, List.length_cons]; omega
    · simp only [spl, if_neg hc]
      rcases hr : spl r with _ | ⟨a, t⟩
      · rw [hr] at ih; simp at ih
      · rw [hr] at ih; simp at ih ⊢; omega

theorem digit_byte {b : UInt8} (h : 48 ≤ b.toNat ∧ b.toNat ≤ 57) : UInt8.ofNat (48 + (b.toNat - 48)) = b := by
  apply UInt8.toNat.inj
  simp; omega
theorem digitVal_ofNat {n : Nat} (h : n < 10) : digitVal (UInt8.ofNat (48 + n)) = some n := by
  have e : (UInt8.ofNat (48 + n)).toNat = 48 + n := by simp; omega
  unfold digitVal; rw [e, if_pos (by omega)]; congr 1; omega
theorem decFrom_snoc : ∀ (l : List UInt8) (acc : Nat) (b : UInt8), decFrom acc (l ++ [b]) = (decFrom acc l).bind fun m => (digitVal b).map fun d => m * 10 + d
  | [], acc, b => by
    simp only [List.nil_append, decFrom, Option.bind_some]
    cases digitVal b <;> rfl
  | a :: t, acc, b => by
    simp only [List.cons_append, decFrom]
    cases digitVal a with
    | none => rfl
    | some d => exact decFrom_snoc t _ b
theorem decFrom_num10 : ∀ (n : Nat), decFrom 0 (num10 n) = some n := by
  intro n
  induction n using Nat.strongRecOn with
  | _ n ih =>
    by_cases h : n < 10
    · rw [num10_small h]
      simp only [decFrom, digitVal_ofNat h]; congr 1; omega
    · rw [num10_more h, decFrom_snoc, ih (n / 10) (by omega), digitVal_ofNat (by omega)]
      simp only [Option.bind_some, Option.map_some]; congr 1; omega
theorem num10_inj {a b : Nat} (h : num10 a = num10 b) : a = b := by
  have := decFrom_num10 a
  rw [h, decFrom_num10 b] at this
  exact (Option.some.inj this).symm
theorem num10_ne (m : Nat) : num10 m ≠ [] := by
  by_cases h : m < 10
  · rw [num10_small h]; simp
  · rw [num10_more h]; simp
theorem num10_digit (m : Nat) : ∀ b ∈ num10 m, 48 ≤ b.toNat ∧ b.toNat ≤ 57 := by
  induction m using Nat.strongRecOn with
  | _ n ih =>
    have e : ∀ k, k < 10 → (UInt8.ofNat (48 + k)).toNat = 48 + k := fun k hk => by simp; omega
    intro b hb
    by_cases h : n < 10
    · rw [num10_small h, List.mem_singleton] at hb
      subst hb; rw [e _ h]; omega
    · rw [num10_more h, List.mem_append, List.mem_singleton] at hb
      rcases hb with hb | rfl
      · exact ih (n / 10) (by omega) b hb
      · rw [e _ (by omega)]; omega
theorem intT_inj {a b : Int} (h : intT a = intT b) : a = b := by
  unfold intT at h
  have hd : ∀ (m : Nat) r, num10 m ≠ 45 :: r := fun m r e => by
    have := num10_digit m 45 (by rw [e]; simp)
    exact absurd this (by decide)
  by_cases ha : a < 0 <;> by_cases hb : b < 0
  · rw [if_pos ha, if_pos hb] at h
    have := num10_inj (List.cons.inj h).2
    omega
  · rw [if_pos ha, if_neg hb] at h; exact absurd h.symm (hd _ _)
  · rw [if_neg ha, if_pos hb] at h; exact absurd h (hd _ _)
  · rw [if_neg ha, if_neg hb] at h
    have := num10_inj h
    omega
theorem atoi_intT (n : Int) : atoi (intT n) = some n := by
  have hdn : ∀ m, decNat (num10 m) = some m := fun m => by
    unfold decNat
    have : (num10 m).isEmpty = false := by
      cases h : num10 m with
      | nil => exact absurd h (num10_ne m)
      | cons => rfl
    rw [this]; exact decFrom_num10 m
  unfold intT
  by_cases h : n < 0
  · rw [if_pos h]
    simp only [atoi, beq_self_eq_true, if_true, hdn, Option.map_some]
    congr 1; omega
  · rw [if_neg h]
    cases hn : num10 n.toNat with
    | nil => exact absurd hn (num10_ne _)
    | cons b r =>
      have hb := num10_digit n.toNat b (by rw [hn]; simp)
      have h1 : (b == 45) = false := by rw [beq_eq_false_iff_ne]; rintro rfl; exact absurd hb (by decide)
      have h2 : (b == 43) = false := by rw [beq_eq_false_iff_ne]; rintro rfl; exact absurd hb (by decide)
      have := hdn n.toNat
      rw [hn] at this
      simp only [atoi, h1, h2, if_false, Bool.false_eq_true, this, Option.map_some]
      congr 1; omega
theorem atoiAll_intT {n : Int} (h1 : -9999999999 ≤ n) (h2 : n ≤ 9999999999) : atoiAll (intT n) = .ok n := by
  have := intT_len h1 h2
  rw [atoiAll_short _ (by omega), atoi_intT]; rfl
/-- the number that a text is, in its one form -/
noncomputable def dec (r : List UInt8) : Option Int := open Classical in if h : ∃ n : Int, (-2147483648 ≤ n ∧ n ≤ 2147483647) ∧ intT n = r then some h.choose else none
theorem dec_some {r : List UInt8} {n : Int} : dec r = some n ↔ (-2147483648 ≤ n ∧ n ≤ 2147483647) ∧ intT n = r := by
  unfold dec
  constructor
  · intro h
    split at h
    · rename_i hx
      have := hx.choose_spec
      rw [Option.some.inj h] at this
      exact this
    · cases h
  · intro h
    have hx : ∃ n : Int, (-2147483648 ≤ n ∧ n ≤ 2147483647) ∧ intT n = r := ⟨n, h⟩
    rw [dif_pos hx]
    congr 1
    exact intT_inj (hx.choose_spec.2.trans h.2.symm)
/-- what the reference's digits come to -/
def digB (s : List UInt8) : Int := if s.length = 0 ∨ 10 < s.length ∨ (s.head? = some 48 ∧ 1 < s.length) then -1 else match decFrom 0 s with
  | some m => m
  | none => -1
theorem head48 : ∀ (m : Nat), 10 ≤ m → (num10 m).head? ≠ some 48 := by
  intro m
  induction m using Nat.strongRecOn with
  | _ n ih =>
    intro h
    rw [num10_more (by omega)]
    have hne := num10_ne (n / 10)
    have e : (num10 (n / 10) ++ [UInt8.ofNat (48 + n % 10)]).head? = (num10 (n / 10)).head? := by
      cases hn : num10 (n / 10) with
      | nil => exact absurd hn hne
      | cons => rfl
    rw [e]
    by_cases h2 : n / 10 < 10
    · rw [num10_small h2]
      simp only [List.head?_cons, ne_eq, Option.some.injEq]
      intro e
      have := congrArg UInt8.toNat e
      simp at this
      omega
    · exact ih (n / 10) (by omega) (by omega)
theorem digB_num {m : Nat} (h : m < 10000000000) : digB (num10 m) = m := by
  have hl := num10_len 10 m (by simpa using h) (by decide)
  unfold digB
  rw [if_neg, decFrom_num10]
  rintro (h1 | h1 | ⟨h1, h2⟩)
  · exact num10_ne m (List.eq_nil_of_length_eq_zero h1)
  · omega
  · by_cases h3 : m < 10
    · rw [num10_small h3] at h2; simp at h2
    · exact head48 m (by omega) h1
theorem canon : ∀ (n : Nat) (s : List UInt8) (m : Nat), s.length = n → s ≠ [] → ¬ (s.head? = some 48 ∧ 1 < s.length) → decFrom 0 s = some m → num10 m = s ∧ (s.head? ≠ some 48 → 1 ≤ m) := by
  intro n
  induction n with
  | zero => intro s m h hne; exact absurd (List.eq_nil_of_length_eq_zero h) hne
  | succ n ih =>
    intro s m hl hne hz hd
    obtain ⟨t, b, rfl⟩ : ∃ t b, s = t ++ [b] := ⟨s.dropLast, s.getLast hne, (List.dropLast_concat_getLast hne).symm⟩
    rw [decFrom_snoc] at hd
    cases ht : decFrom 0 t with
    | none => rw [ht] at hd; cases hd
    | some k =>
      rw [ht] at hd
      cases hb : digitVal b with
      | none => rw [hb] at hd; cases hd
      | some d =>
        rw [hb] at hd
        simp only [Option.bind_some, Option.map_some, Option.some.injEq] at hd
        have hbd : (48 ≤ b.toNat ∧ b.toNat ≤ 57) ∧ d = b.toNat - 48 := by
          unfold digitVal at hb
          split at hb
          · rename_i h; exact ⟨h, (Option.some.inj hb).symm⟩
          · cases hb
        obtain ⟨hb1, rfl⟩ := hbd
        have hby := digit_byte hb1
        by_cases ht0 : t = []
        · subst ht0
          simp only [decFrom, Option.some.injEq] at ht
          subst ht
          subst hd
          rw [Nat.zero_mul, Nat.zero_add, num10_small (by omega), hby]
          refine ⟨rfl, fun h => ?_⟩
          simp only [List.nil_append, List.head?_cons, ne_eq, Option.some.injEq] at h
          have : b.toNat ≠ 48 := fun e => h (UInt8.toNat.inj e)
          omega
        · have hh : (t ++ [b]).head? = t.head? := by
            cases t with
            | nil => exact absurd rfl ht0
            | cons => rfl
          have htl : 1 ≤ t.length := List.length_pos_iff.2 ht0
          have hn48 : t.head? ≠ some 48 := fun e => hz ⟨hh.trans e, by simp; omega⟩
          obtain ⟨h1, h2⟩ := ih t k (by simp at hl; omega) ht0 (fun e => hn48 e.1) ht
          have hk := h2 hn48
          subst hd
          rw [num10_more (by omega), show (k * 10 + (b.toNat - 48)) / 10 = k by omega, show (k * 10 + (b.toNat - 48)) % 10 = b.toNat - 48 by omega, h1, hby]
          exact ⟨rfl, fun _ => by omega⟩
theorem digB_pos {s : List UInt8} (h : 0 ≤ digB s) : ∃ m : Nat, digB s = m ∧ num10 m = s := by
  unfold digB at h ⊢
  by_cases hc : s.length = 0 ∨ 10 < s.length ∨ (s.head? = some 48 ∧ 1 < s.length)
  · rw [if_pos hc] at h; omega
  · rw [if_neg hc] at h ⊢
    cases hd : decFrom 0 s with
    | none => rw [hd] at h; simp at h
    | some m =>
      exact ⟨m, rfl, (canon _ s m rfl (fun e => hc (.inl (by rw [e]; rfl))) (fun e => hc (.inr (.inr e))) hd).1⟩
theorem digB_ge (s : List UInt8) : -1 ≤ digB s := by
  unfold digB
  split
  · omega
  · split <;> omega
end Go.Proofs.YtheddnjhkcpmnaaGreatDoor
