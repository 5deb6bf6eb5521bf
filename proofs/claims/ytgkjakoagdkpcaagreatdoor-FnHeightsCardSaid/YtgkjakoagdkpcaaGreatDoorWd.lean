
/- strconv.Itoa at this program, in the plain laws' words. No condition. -/
import Derived.Test.YtgkjakoagdkpcaaGreatDoorMem
import Derived.Test.YtgkjakoagdkpcaaGreatDoorShelf
import Derived.Lib.ItoaNum
import Derived.WalkSmall
import Derived.Shelf.SlSorted.Search
import Derived.Test.YtgkjakoagdkpcaaGreatDoorNst
set_option linter.unusedSimpArgs false
set_option linter.unusedVariables false
namespace Go.Proofs.YtgkjakoagdkpcaaGreatDoor

/-- the decimal digits of a number -/
def num10 (n : Nat) : List UInt8 := if h : n < 10 then [UInt8.ofNat (48 + n)] else num10 (n / 10) ++ [UInt8.ofNat (48 + n % 10)]
termination_by n
decreasing_by omega
theorem num10_small {n : Nat} (h : n < 10) : num10 n = [UInt8.ofNat (48 + n)] := by rw [num10, dif_pos h]
theorem num10_more {n : Nat} (h : ¬ n < 10) : num10 n = num10 (n / 10) ++ [UInt8.ofNat (48 + n % 10)] := by rw [num10, dif_neg h]
theorem num10_len : ∀ (k n : Nat), n < 10 ^ k → 0 < k → (num10 n).length ≤ k := by
  intro k
  induction k with
  | zero => intro n _ h; omega
  | succ k ih =>
    intro n hn _
    by_cases h : n < 10
    · rw [num10_small h]; simp
    · rw [num10_more h, List.length_append, List.length_singleton]
      have hk : 0 < k := by
        rcases k with _ | k
        · simp at hn; omega
        · omega
      have := ih (n / 10) (by rw [Nat.pow_succ] at hn; omega) hk
      omega
/-- the text of a whole number -/
def intT (n : Int) : List UInt8 := if n < 0 then 45 :: num10 (-n).toNat else num10 n.toNat
theorem intT_len {n : Int} (h1 : -9999999999 ≤ n) (h2 : n ≤ 9999999999) : (intT n).length ≤ 11 := by
  unfold intT
  split
  · have := num10_len 10 (-n).toNat (by omega) (by decide); simp; omega
  · have := num10_len 10 n.toNat (by omega) (by decide); omega
/-- the words of the ops that stand alone -/
def opW (o : Int) : List UInt8 := if o = 3 then [43] else if o = 4 then [45] else if o = 5 then [42] else if o = 6 then [47] else if o = 7 then [60] else if o = 8 then [61] else if o = 9 then [105, 110] else if o = 10 then [114, 101, 99] else []
def tokT (t : P2) : List UInt8 := if t.o = 1 then intT t.n else if t.o = 2 then 118 :: num10 t.n.toNat else if t.o = 11 then 102 :: num10 t.n.toNat else opW t.o
theorem tokT_len {t : P2} (h : tokOk 100 100 t = true) : (tokT t).length ≤ 11 := by
  unfold tokOk at h
  unfold tokT
  by_cases h1 : t.o = 1
  · rw [if_pos h1] at h ⊢; have := inB_iff.1 h; exact intT_len (by omega) (by omega)
  · rw [if_neg h1] at h ⊢
    by_cases h2 : t.o = 2
    · rw [if_pos h2] at h ⊢; have := inB_iff.1 h; have := num10_len 2 t.n.toNat (by omega) (by decide); simp; omega
    · rw [if_neg h2] at h ⊢
      by_cases h3 : t.o = 11
      · rw [if_pos h3] at h ⊢; have := inB_iff.1 h; have := num10_len 2 t.n.toNat (by omega) (by decide); simp; omega
      · rw [if_neg h3]
        unfold opW
        repeat' split
        all_goals simp
/-- the text of an expression -/
def exprT : List P2 → List UInt8
  | [] => []
  | [t] => tokT t
  | t :: u :: l => tokT t ++ 32 :: exprT (u :: l)
/-- the text from place k on, a blank ahead of all but the first -/
def exprF : Nat → List P2 → List UInt8
  | _, [] => []
  | k, t :: l => (if k = 0 then tokT t else 32 :: tokT t) ++ exprF (k + 1) l
theorem exprF_step {l : List P2} {k : Nat} (h : k < l.length) : exprF k (l.drop k) = (if k = 0 then tokT l[k] else 32 :: tokT l[k]) ++ exprF (k + 1) (l.drop (k + 1)) := by
  rw [List.drop_eq_getElem_cons h]; rfl
def exprOk (l : List P2) : Bool := (l.all fun t => tokOk 100 100 t) && inB l.length 1 12
theorem exprOk_iff {l : List P2} : exprOk l = true ↔ (∀ t ∈ l, tokOk 100 100 t = true) ∧ (1 ≤ l.length ∧ l.length ≤ 12) := by
  unfold exprOk
  rw [Bool.and_eq_true, List.all_eq_true, inB_iff]
  constructor
  · rintro ⟨a, b, c⟩; exact ⟨a, by omega, by omega⟩
  · rintro ⟨a, b, c⟩; exact ⟨a, by omega, by omega⟩
def lowT (t : P2) : P2 := if t.o = 1 then ⟨1, t.n⟩ else if t.o = 2 then ⟨2, t.n⟩ else if t.o = 11 then ⟨7, t.n⟩ else if t.o = 9 then ⟨5, 0⟩ else if t.o = 10 then ⟨6, 0⟩ else ⟨4, t.o⟩
def lowE (l : List P2) : List P2 := if exprOk l = true then l.map lowT else []
theorem lowE_len (l : List P2) (h : l.length ≤ 1048576) : (lowE l).length ≤ 1048576 := by
  unfold lowE; split
  · simpa using h
  · simp
theorem low_step {l acc : List P2} {k : Nat} (h : k < l.length) (e : acc ++ (l.drop k).map lowT = l.map lowT) : (acc ++ [lowT l[k]]) ++ (l.drop (k + 1)).map lowT = l.map lowT := by
  rw [List.drop_eq_getElem_cons h, List.map_cons] at e
  rw [← e]; simp
end Go.Proofs.YtgkjakoagdkpcaaGreatDoor
set_option linter.unusedSimpArgs false
set_option linter.unusedVariables false
namespace Go.Proofs.YtgkjakoagdkpcaaGreatDoor
open Go.RowKit

theorem num10_dec : ∀ (n : Nat), num10 n = Lib.decDigits n := by
  intro n
  induction n using Nat.strongRecOn with
  | _ n ih =>
    by_cases h : n < 10
    · rw [num10_small h, Lib.decDigits_one h]
    · rw [num10_more h, ih (n / 10) (by omega), Lib.decDigits.eq_def n, dif_neg h]
theorem itoa_intT (n : Int) : Lib.itoa n = intT n := by
  unfold Lib.itoa intT
  by_cases h : n < 0
  · rw [if_pos h, if_pos h, num10_dec, show n.natAbs = (-n).toNat by omega]
  · rw [if_neg h, if_neg h, num10_dec]
/-- the table that strconv's formatting reads -/
def P10 (w : World) : Prop := Lib.TabIs Tryz.prog w "internal/strconv.uint64pow10" .u64 Lib.pow10Tab
theorem strconv_Itoa (n : Int) (h1 : -2147483648 ≤ n) (h2 : n ≤ 2147483647) (w : World) (ht : P10 w) :
    Calls Tryz.prog 71 #[.int .i64 n] w fun e w' => e = .returned (.string ⟨(intT n).toArray⟩) ∧ Below w.heap.size w w' := by
  refine (Tryz.strconv_Itoa n (by omega) (by omega) w ht).mono ?_
  rintro e w' ⟨rfl, k, os, rfl⟩
  rw [itoa_intT]
  exact ⟨rfl, below_grown_sl _ _ _ _ (Nat.le_refl _)⟩
end Go.Proofs.YtgkjakoagdkpcaaGreatDoor
