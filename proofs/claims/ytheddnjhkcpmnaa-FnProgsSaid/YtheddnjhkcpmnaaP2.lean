
/- Pairs of numbers in memory: plain facts. No condition. -/
import Derived.Test.YtheddnjhkcpmnaaMem
import Derived.Test.YtheddnjhkcpmnaaKit
set_option linter.unusedSimpArgs false
set_option linter.unusedVariables false
namespace Go.Proofs.Ytheddnjhkcpmnaa
open Go.RowKit

structure P2 where
  o : Int
  n : Int
deriving DecidableEq
def P2.cell (r : P2) : List Value := [.int .i64 r.o, .int .i64 r.n]
def P2.agg (r : P2) : Value := .agg #[.int .i64 r.o, .int .i64 r.n]
def pcells (l : List P2) : List Value := l.flatMap P2.cell
theorem pcells_length (l : List P2) : (pcells l).length = l.length * 2 := by
  induction l with
  | nil => rfl
  | cons r l ih => simp only [pcells, List.flatMap_cons, List.length_append, List.length_cons] at *; rw [ih]; simp [P2.cell]; omega
theorem pcells_append (a b : List P2) : pcells (a ++ b) = pcells a ++ pcells b := by simp [pcells]
theorem pcells_cons (r : P2) (l : List P2) : pcells (r :: l) = .int .i64 r.o :: .int .i64 r.n :: pcells l := rfl
theorem pcells_snoc (l : List P2) (r : P2) : pcells (l ++ [r]) = pcells l ++ [.int .i64 r.o, .int .i64 r.n] := by rw [pcells_append]; rfl
theorem pcells_set : ∀ (l : List P2) (k : Nat) (r : P2), k < l.length → ((pcells l).set (k * 2) (.int .i64 r.o)).set (k * 2 + 1) (.int .i64 r.n) = pcells (l.set k r) := by
  intro l
  induction l with
  | nil => intro k r h; simp at h
  | cons x l ih =>
    intro k r h
    cases k with
    | zero => simp [pcells_cons]
    | succ k =>
      have := ih k r (by simpa using h)
      rw [show (k + 1) * 2 = k * 2 + 1 + 1 by omega]
      simp only [pcells_cons, List.set_cons_succ]
      rw [← this]
theorem pcells_get (l : List P2) (k : Nat) (h : k < l.length) : (pcells l)[k * 2]? = some (.int .i64 l[k].o) ∧ (pcells l)[k * 2 + 1]? = some (.int .i64 l[k].n) := by
  have e : l = l.take k ++ (l[k] :: l.drop (k + 1)) := by rw [← List.drop_eq_getElem_cons h, List.take_append_drop]
  have hl : (pcells (l.take k)).length = k * 2 := by rw [pcells_length, List.length_take, Nat.min_eq_left (by omega)]
  have e2 : pcells l = pcells (l.take k) ++ (l[k].cell ++ pcells (l.drop (k + 1))) := by
    conv => lhs; rw [e]
    rw [pcells_append]; rfl
  rw [e2]
  refine ⟨?_, ?_⟩ <;> rw [List.getElem?_append_right (by omega), hl] <;> simp [P2.cell]
/-- the two cells of an element of a slice that is read -/
theorem Rd.two {w : World} {B c k : Nat} {A : Option Addr} {l : List P2} (h : Rd w B (.slice A l.length c) l.length (pcells l)) (hk : k < l.length) :
    ∃ b o, A = some ⟨b, o, none⟩ ∧ b < B ∧ w.cell? ⟨b, o + k * 2, none⟩ = some (.int .i64 l[k].o) ∧ w.cell? ⟨b, o + k * 2 + 1, none⟩ = some (.int .i64 l[k].n) := by
  obtain ⟨g0, g1⟩ := pcells_get l k hk
  obtain ⟨b, o, rfl, hbB, s0⟩ := h.at3 g0
  obtain ⟨_, _, e, _, s1⟩ := h.at3 g1
  cases e
  exact ⟨b, o, rfl, hbB, s0, by rw [← Nat.add_assoc] at s1; exact s1⟩
theorem Rd.two' {w w' : World} {B B' c k : Nat} {A : Option Addr} {l : List P2} (h : Rd w B (.slice A l.length c) l.length (pcells l)) (hb : Below B' w w') (hB : B ≤ B') (hk : k < l.length) :
    ∃ b o, A = some ⟨b, o, none⟩ ∧ b < B ∧ w'.cell? ⟨b, o + k * 2, none⟩ = some (.int .i64 l[k].o) ∧ w'.cell? ⟨b, o + k * 2 + 1, none⟩ = some (.int .i64 l[k].n) := (h.below' hb hB).two hk
def iotaP (k : Int) (n : Nat) : List P2 := (List.range n).map fun (j : Nat) => ⟨k + 2 * (j : Int), k + 2 * (j : Int) + 1⟩
theorem iotaP_length (k : Int) (n : Nat) : (iotaP k n).length = n := by simp [iotaP]
theorem iotaP_get (k : Int) (n j : Nat) (h : j < n) : (iotaP k n)[j]'(by rw [iotaP_length]; exact h) = ⟨k + 2 * (j : Int), k + 2 * (j : Int) + 1⟩ := by simp [iotaP]
theorem iotaP_succ (k : Int) (n : Nat) : iotaP k (n + 1) = iotaP k n ++ [⟨k + 2 * (n : Int), k + 2 * (n : Int) + 1⟩] := by simp [iotaP, List.range_succ]
theorem markP_set (l : List P2) (k : Int) (j : Nat) (h : j < l.length) : (iotaP k j ++ l.drop j).set j ⟨k + 2 * (j : Int), k + 2 * (j : Int) + 1⟩ = iotaP k (j + 1) ++ l.drop (j + 1) := by
  rw [List.set_append, if_neg (by rw [iotaP_length]; omega), iotaP_length, Nat.sub_self, List.drop_eq_getElem_cons h, iotaP_succ, List.set_cons_zero, List.append_assoc]
  rfl
theorem grown_setP {a w : World} {g : Nat} (h : a.grownBy w (some g)) {p : Addr} (hp : p.block = g) (u : Value) : a.grownBy (w.setCell p u) (some g) :=
  ⟨h.os, h.tape, h.output, by simpa [World.setCell] using h.size, fun i hi hne => (Below.heap_setCell w p u i (by rintro rfl; exact hne (by rw [hp]))).trans (h.block i hi hne)⟩
end Go.Proofs.Ytheddnjhkcpmnaa
set_option linter.unusedSimpArgs false
set_option linter.unusedVariables false
namespace Go.Proofs.Ytheddnjhkcpmnaa

/-- x put among rising numbers -/
def putL : List Int → Int → List Int
  | [], x => [x]
  | a :: l, x => if a < x then a :: putL l x else if a = x then a :: l else x :: a :: l
theorem putL_same : ∀ (l : List Int) (k : Nat) (x : Int), (∀ j (h : j < l.length), j < k → l[j] < x) → ∀ hk : k < l.length, l[k] = x → putL l x = l := by
  intro l
  induction l with
  | nil => intro k x _ hk; simp at hk
  | cons a l ih =>
    intro k x hlt hk he
    cases k with
    | zero => simp only [List.getElem_cons_zero] at he; subst he; simp only [putL]; rw [if_neg (by omega)]; simp
    | succ k =>
      have h0 := hlt 0 (by simp) (by omega)
      simp only [List.getElem_cons_zero] at h0
      simp only [putL]
      rw [if_pos h0, ih k x (fun j hj hjk => by have := hlt (j + 1) (by simpa using hj) (by omega); simpa using this) (by simpa using hk) (by simpa using he)]
theorem putL_new : ∀ (l : List Int) (k : Nat) (x : Int), k ≤ l.length → (∀ j (h : j < l.length), j < k → l[j] < x) → (∀ hk : k < l.length, ¬ l[k] < x ∧ l[k] ≠ x) → putL l x = l.take k ++ [x] ++ l.drop k := by
  intro l
  induction l with
  | nil => intro k x _ _ _; simp [putL]
  | cons a l ih =>
    intro k x hk hlt hn
    cases k with
    | zero =>
      obtain ⟨h1, h2⟩ := hn (by simp)
      simp only [List.getElem_cons_zero] at h1 h2
      simp only [putL]
      rw [if_neg h1, if_neg h2]; rfl
    | succ k =>
      have h0 := hlt 0 (by simp) (by omega)
      simp only [List.getElem_cons_zero] at h0
      simp only [putL]
      rw [if_pos h0, ih k x (by simpa using hk) (fun j hj hjk => by have := hlt (j + 1) (by simpa using hj) (by omega); simpa using this) (fun hk' => by have := hn (by simpa using hk'); simpa using this)]
      rfl
end Go.Proofs.Ytheddnjhkcpmnaa
set_option linter.unusedSimpArgs false
set_option linter.unusedVariables false
namespace Go.Proofs.Ytheddnjhkcpmnaa

/-- where an instruction goes on -/
def nextI (t : P2) (a : Int) : List Int := if t.o = 10 then [t.n] else if t.o = 11 then putL [a + 1] t.n else if t.o = 13 ∨ t.o = 14 ∨ t.o = 16 ∨ t.o = 18 then [] else [a + 1]
theorem nextI_length (t : P2) (a : Int) : (nextI t a).length ≤ 2 := by
  unfold nextI
  split
  · simp
  split
  · simp only [putL]; split
    · simp
    · split <;> simp
  split <;> simp
end Go.Proofs.Ytheddnjhkcpmnaa
namespace Go.Proofs.Ytheddnjhkcpmnaa
def inB (a b c : Int) : Bool := decide (b ≤ a ∧ a ≤ c)
theorem inB_yes {a b c : Int} (h1 : b ≤ a) (h2 : a ≤ c) : inB a b c = true := decide_eq_true ⟨h1, h2⟩
theorem inB_no {a b c : Int} (h : a < b ∨ c < a) : inB a b c = false := decide_eq_false (by omega)
theorem inB_iff {a b c : Int} : inB a b c = true ↔ b ≤ a ∧ a ≤ c := by unfold inB; exact decide_eq_true_iff
end Go.Proofs.Ytheddnjhkcpmnaa
set_option linter.unusedSimpArgs false
set_option linter.unusedVariables false
namespace Go.Proofs.Ytheddnjhkcpmnaa

def smallB (n : Int) : Bool := inB n (-2147483648) 2147483647
/-- a token is one, with so many variables and functions -/
def tokOk (vars funcs : Int) (t : P2) : Bool :=
  if t.o = 1 then smallB t.n else if t.o = 2 then inB t.n 0 (vars - 1) else if t.o = 11 then inB t.n 0 (funcs - 1) else inB t.o 3 10 && decide (t.n = 0)
/-- how many numbers a token takes -/
def need (params : List Int) (t : P2) : Int := if t.o = 11 then params.getD t.n.toNat 0 else if 3 ≤ t.o ∧ t.o ≤ 8 then 2 else 0
def parOk (params : List Int) : Bool := decide (params.length ≤ 5) && params.all fun n => decide (0 ≤ n ∧ n ≤ 2)
theorem parOk_iff {params : List Int} : parOk params = true ↔ params.length ≤ 5 ∧ ∀ n ∈ params, 0 ≤ n ∧ n ≤ 2 := by
  simp [parOk, List.all_eq_true]
theorem parOk_nil : parOk [] = true := rfl
theorem need_bd {params : List Int} (h : parOk params = true) (t : P2) : 0 ≤ need params t ∧ need params t ≤ 2 := by
  obtain ⟨_, h2⟩ := parOk_iff.1 h
  unfold need
  split
  · by_cases hk : t.n.toNat < params.length
    · have := h2 _ (List.getElem_mem hk); simpa [List.getD, List.getElem?_eq_getElem hk] using this
    · simp [List.getD, List.getElem?_eq_none (Nat.le_of_not_lt hk)]
  · split <;> omega
/-- the pile's count and its most, behind the tokens -/
def runE (vars : Int) (params : List Int) : List P2 → Int → Int → Option (Int × Int)
  | [], c, h => some (c, h)
  | t :: l, c, h => if tokOk vars params.length t = true ∧ need params t ≤ c then runE vars params l (c + 1 - need params t) (max h (c + 1 - need params t)) else none
theorem runE_yes {vars : Int} {params : List Int} {l : List P2} {k : Nat} {c h : Int} (hk : k < l.length) (h1 : tokOk vars params.length l[k] = true) (h2 : need params l[k] ≤ c) :
    runE vars params (l.drop k) c h = runE vars params (l.drop (k + 1)) (c + 1 - need params l[k]) (max h (c + 1 - need params l[k])) := by
  rw [List.drop_eq_getElem_cons hk]; simp only [runE]; rw [if_pos ⟨h1, h2⟩]
theorem runE_no {vars : Int} {params : List Int} {l : List P2} {k : Nat} {c h : Int} (hk : k < l.length) (h1 : ¬ (tokOk vars params.length l[k] = true ∧ need params l[k] ≤ c)) :
    runE vars params (l.drop k) c h = none := by
  rw [List.drop_eq_getElem_cons hk]; simp only [runE]; rw [if_neg h1]
def highOf (vars : Int) (params : List Int) (e : List P2) : Int :=
  if 1 ≤ e.length ∧ e.length ≤ 12 then (match runE vars params e 0 0 with | some (c, h) => if c = 1 then h else 0 | none => 0) else 0
theorem highOf_none {vars : Int} {params : List Int} {e : List P2} (h : runE vars params e 0 0 = none) : highOf vars params e = 0 := by
  unfold highOf; rw [h]; simp
theorem highOf_some {vars : Int} {params : List Int} {e : List P2} {c m : Int} (h : runE vars params e 0 0 = some (c, m)) (h1 : e.length ≤ 12) (hc : c = 1) : highOf vars params e = m := by
  unfold highOf
  subst hc
  cases e with
  | nil => simp [runE] at h
  | cons t l => rw [if_pos ⟨by simp, h1⟩, h]; simp
theorem highOf_bad {vars : Int} {params : List Int} {e : List P2} {c m : Int} (h : runE vars params e 0 0 = some (c, m)) (h1 : c ≠ 1 ∨ 12 < e.length) : highOf vars params e = 0 := by
  unfold highOf
  by_cases h2 : 1 ≤ e.length ∧ e.length ≤ 12
  · rw [if_pos h2, h]; simp; intro h3; omega
  · rw [if_neg h2]
theorem highOf_size {vars : Int} {params : List Int} {e : List P2} (h : ¬ (1 ≤ e.length ∧ e.length ≤ 12)) : highOf vars params e = 0 := by
  unfold highOf; rw [if_neg h]
theorem runE_bd {vars : Int} {params : List Int} (hp : parOk params = true) : ∀ (l : List P2) (c h : Int), 0 ≤ c → c ≤ h → ∀ c' h', runE vars params l c h = some (c', h') → 0 ≤ c' ∧ c' ≤ h' ∧ h ≤ h' ∧ h' ≤ h + l.length ∧ (l ≠ [] → 1 ≤ h') := by
  intro l
  induction l with
  | nil => intro c h h0 h1 c' h' he; simp only [runE, Option.some.injEq, Prod.mk.injEq] at he; obtain ⟨rfl, rfl⟩ := he; simp; omega
  | cons t l ih =>
    intro c h h0 h1 c' h' he
    simp only [runE] at he
    have hn := need_bd hp t
    by_cases hg : tokOk vars params.length t = true ∧ need params t ≤ c
    · rw [if_pos hg] at he
      have hm1 : c + 1 - need params t ≤ max h (c + 1 - need params t) := by omega
      have hm2 : max h (c + 1 - need params t) ≤ h + 1 := by omega
      obtain ⟨q1, q2, q3, q4, _⟩ := ih _ _ (by omega) hm1 _ _ he
      refine ⟨q1, q2, by omega, by simp; omega, fun _ => by omega⟩
    · rw [if_neg hg] at he; cases he
theorem highOf_bd {vars : Int} {params : List Int} (hp : parOk params = true) (e : List P2) : 0 ≤ highOf vars params e ∧ highOf vars params e ≤ 12 := by
  by_cases h2 : 1 ≤ e.length ∧ e.length ≤ 12
  · cases h : runE vars params e 0 0 with
    | none => rw [highOf_none h]; omega
    | some x =>
      obtain ⟨c, m⟩ := x
      obtain ⟨q1, q2, q3, q4, q5⟩ := runE_bd hp e 0 0 (by omega) (by omega) c m h
      by_cases hc : c = 1
      · rw [highOf_some h h2.2 hc]; omega
      · rw [highOf_bad h (.inl hc)]; omega
  · rw [highOf_size h2]; omega
theorem highOf_pos {vars : Int} {params : List Int} (hp : parOk params = true) {e : List P2} {c m : Int} (h : runE vars params e 0 0 = some (c, m)) (h1 : e.length ≤ 12) (hc : c = 1) : 1 ≤ highOf vars params e := by
  rw [highOf_some h h1 hc]
  obtain ⟨q1, q2, q3, q4, q5⟩ := runE_bd hp e 0 0 (by omega) (by omega) c m h
  refine q5 ?_
  rintro rfl
  simp [runE] at h
  omega
def goodExpr (e : List P2) (vars : Int) (params : List Int) : Bool := decide (0 ≤ vars ∧ vars ≤ 6) && (parOk params && decide (0 < highOf vars params e))
/-- what the reference's height is -/
def specHigh (vars : Int) (params : List Int) (e : List P2) : Int := if highOf vars params e = 0 then -1 else highOf vars params e
theorem specHigh_none {vars : Int} {params : List Int} {e : List P2} (h : runE vars params e 0 0 = none) : specHigh vars params e = -1 := by
  unfold specHigh; rw [highOf_none h]; rfl
theorem specHigh_some {vars : Int} {params : List Int} (hp : parOk params = true) {e : List P2} {c m : Int} (h : runE vars params e 0 0 = some (c, m)) (h1 : e.length ≤ 12) (hc : c = 1) : specHigh vars params e = m := by
  have := highOf_pos hp h h1 hc
  unfold specHigh; rw [if_neg (by omega)]; exact highOf_some h h1 hc
theorem specHigh_bad {vars : Int} {params : List Int} {e : List P2} {c m : Int} (h : runE vars params e 0 0 = some (c, m)) (h1 : c ≠ 1 ∨ 12 < e.length) : specHigh vars params e = -1 := by
  unfold specHigh; rw [highOf_bad h h1]; rfl
end Go.Proofs.Ytheddnjhkcpmnaa
