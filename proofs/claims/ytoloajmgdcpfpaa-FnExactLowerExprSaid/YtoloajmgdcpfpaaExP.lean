
/- Expressions: plain Lean, no program in sight. No condition. -/
import Derived.Test.YtoloajmgdcpfpaaP2
import Derived.Test.YtoloajmgdcpfpaaKit
namespace Go.Proofs.Ytoloajmgdcpfpaa
def inB (a b c : Int) : Bool := decide (b ≤ a ∧ a ≤ c)
theorem inB_yes {a b c : Int} (h1 : b ≤ a) (h2 : a ≤ c) : inB a b c = true := decide_eq_true ⟨h1, h2⟩
theorem inB_no {a b c : Int} (h : a < b ∨ c < a) : inB a b c = false := decide_eq_false (by omega)
theorem inB_iff {a b c : Int} : inB a b c = true ↔ b ≤ a ∧ a ≤ c := by unfold inB; exact decide_eq_true_iff
end Go.Proofs.Ytoloajmgdcpfpaa
set_option linter.unusedSimpArgs false
set_option linter.unusedVariables false
namespace Go.Proofs.Ytoloajmgdcpfpaa

def smallB (n : Int) : Bool := inB n (-2147483648) 2147483647
/-- a token is one, with so many variables and functions -/
def tokOk (vars funcs : Int) (t : P2) : Bool :=
  if t.o = 1 then smallB t.n else if t.o = 2 then inB t.n 0 (vars - 1) else if t.o = 11 then inB t.n 0 (funcs - 1) else inB t.o 3 10 && decide (t.n = 0)
/-- how many numbers a token takes -/
def need (params : List Int) (t : P2) : Int := if t.o = 11 then params.getD t.n.toNat 0 else if 3 ≤ t.o ∧ t.o ≤ 8 then 2 else 0
def parOk (params : List Int) : Bool := decide (params.length ≤ 5) && params.all fun n => decide (0 ≤ n ∧ n ≤ 2)
theorem parOk_iff {params : List Int} : parOk params = true ↔ params.length ≤ 5 ∧ ∀ n ∈ params, 0 ≤ n ∧ n ≤ 2 := by
  simp [parOk, List.all_eq_true]
theorem parOk_nil : parOk [] = true := rfl
theorem need_bd {params : List Int} (h : parOk params = true) (t : P2) : 0 ≤ need params t ∧ need params t ≤ 2 := by
  obtain ⟨_, h2⟩ := parOk_iff.1 h
  unfold need
  split
  · by_cases hk : t.n.toNat < params.length
    · have := h2 _ (List.getElem_mem hk); simpa [List.getD, List.getElem?_eq_getElem hk] using this
    · simp [List.getD, List.getElem?_eq_none (Nat.le_of_not_lt hk)]
  · split <;> omega
/-- the pile's count and its most, behind the tokens -/
def runE (vars : Int) (params : List Int) : List P2 → Int → Int → Option (Int × Int)
  | [], c, h => some (c, h)
  | t :: l, c, h => if tokOk vars params.length t = true ∧ need params t ≤ c then runE vars params l (c + 1 - need params t) (max h (c + 1 - need params t)) else none
theorem runE_yes {vars : Int} {params : List Int} {l : List P2} {k : Nat} {c h : Int} (hk : k < l.length) (h1 : tokOk vars params.length l[k] = true) (h2 : need params l[k] ≤ c) :
    runE vars params (l.drop k) c h = runE vars params (l.drop (k + 1)) (c + 1 - need params l[k]) (max h (c + 1 - need params l[k])) := by
  rw [List.drop_eq_getElem_cons hk]; simp only [runE]; rw [if_pos ⟨h1, h2⟩]
theorem runE_no {vars : Int} {params : List Int} {l : List P2} {k : Nat} {c h : Int} (hk : k < l.length) (h1 : ¬ (tokOk vars params.length l[k] = true ∧ need params l[k] ≤ c)) :
    runE vars params (l.drop k) c h = none := by
  rw [List.drop_eq_getElem_cons hk]; simp only [runE]; rw [if_neg h1]
def highOf (vars : Int) (params : List Int) (e : List P2) : Int :=
  if 1 ≤ e.length ∧ e.length ≤ 12 then (match runE vars params e 0 0 with | some (c, h) => if c = 1 then h else 0 | none => 0) else 0
theorem highOf_none {vars : Int} {params : List Int} {e : List P2} (h : runE vars params e 0 0 = none) : highOf vars params e = 0 := by
  unfold highOf; rw [h]; simp
theorem highOf_some {vars : Int} {params : List Int} {e : List P2} {c m : Int} (h : runE vars params e 0 0 = some (c, m)) (h1 : e.length ≤ 12) (hc : c = 1) : highOf vars params e = m := by
  unfold highOf
  subst hc
  cases e with
  | nil => simp [runE] at h
  | cons t l => rw [if_pos ⟨by simp, h1⟩, h]; simp
theorem highOf_bad {vars : Int} {params : List Int} {e : List P2} {c m : Int} (h : runE vars params e 0 0 = some (c, m)) (h1 : c ≠ 1 ∨ 12 < e.length) : highOf vars params e = 0 := by
  unfold highOf
  by_cases h2 : 1 ≤ e.length ∧ e.length ≤ 12
  · rw [if_pos h2, h]; simp; intro h3; omega
  · rw [if_neg h2]
theorem highOf_size {vars : Int} {params : List Int} {e : List P2} (h : ¬ (1 ≤ e.length ∧ e.length ≤ 12)) : highOf vars params e = 0 := by
  unfold highOf; rw [if_neg h]
theorem runE_bd {vars : Int} {params : List Int} (hp : parOk params = true) : ∀ (l : List P2) (c h : Int), 0 ≤ c → c ≤ h → ∀ c' h', runE vars params l c h = some (c', h') → 0 ≤ c' ∧ c' ≤ h' ∧ h ≤ h' ∧ h' ≤ h + l.length ∧ (l ≠ [] → 1 ≤ h') := by
  intro l
  induction l with
  | nil => intro c h h0 h1 c' h' he; simp only [runE, Option.some.injEq, Prod.mk.injEq] at he; obtain ⟨rfl, rfl⟩ := he; simp; omega
  | cons t l ih =>
    intro c h h0 h1 c' h' he
    simp only [runE] at he
    have hn := need_bd hp t
    by_cases hg : tokOk vars params.length t = true ∧ need params t ≤ c
    · rw [if_pos hg] at he
      have hm1 : c + 1 - need params t ≤ max h (c + 1 - need params t) := by omega
      have hm2 : max h (c + 1 - need params t) ≤ h + 1 := by omega
      obtain ⟨q1, q2, q3, q4, _⟩ := ih _ _ (by omega) hm1 _ _ he
      refine ⟨q1, q2, by omega, by simp; omega, fun _ => by omega⟩
    · rw [if_neg hg] at he; cases he
theorem highOf_bd {vars : Int} {params : List Int} (hp : parOk params = true) (e : List P2) : 0 ≤ highOf vars params e ∧ highOf vars params e ≤ 12 := by
  by_cases h2 : 1 ≤ e.length ∧ e.length ≤ 12
  · cases h : runE vars params e 0 0 with
    | none => rw [highOf_none h]; omega
    | some x =>
      obtain ⟨c, m⟩ := x
      obtain ⟨q1, q2, q3, q4, q5⟩ := runE_bd hp e 0 0 (by omega) (by omega) c m h
      by_cases hc : c = 1
      · rw [highOf_some h h2.2 hc]; omega
      · rw [highOf_bad h (.inl hc)]; omega
  · rw [highOf_size h2]; omega
theorem highOf_pos {vars : Int} {params : List Int} (hp : parOk params = true) {e : List P2} {c m : Int} (h : runE vars params e 0 0 = some (c, m)) (h1 : e.length ≤ 12) (hc : c = 1) : 1 ≤ highOf vars params e := by
  rw [highOf_some h h1 hc]
  obtain ⟨q1, q2, q3, q4, q5⟩ := runE_bd hp e 0 0 (by omega) (by omega) c m h
  refine q5 ?_
  rintro rfl
  simp [runE] at h
  omega
def goodExpr (e : List P2) (vars : Int) (params : List Int) : Bool := decide (0 ≤ vars ∧ vars ≤ 6) && (parOk params && decide (0 < highOf vars params e))
/-- what the reference's height is -/
def specHigh (vars : Int) (params : List Int) (e : List P2) : Int := if highOf vars params e = 0 then -1 else highOf vars params e
theorem specHigh_none {vars : Int} {params : List Int} {e : List P2} (h : runE vars params e 0 0 = none) : specHigh vars params e = -1 := by
  unfold specHigh; rw [highOf_none h]; rfl
theorem specHigh_some {vars : Int} {params : List Int} (hp : parOk params = true) {e : List P2} {c m : Int} (h : runE vars params e 0 0 = some (c, m)) (h1 : e.length ≤ 12) (hc : c = 1) : specHigh vars params e = m := by
  have := highOf_pos hp h h1 hc
  unfold specHigh; rw [if_neg (by omega)]; exact highOf_some h h1 hc
theorem specHigh_bad {vars : Int} {params : List Int} {e : List P2} {c m : Int} (h : runE vars params e 0 0 = some (c, m)) (h1 : c ≠ 1 ∨ 12 < e.length) : specHigh vars params e = -1 := by
  unfold specHigh; rw [highOf_bad h h1]; rfl
end Go.Proofs.Ytoloajmgdcpfpaa
