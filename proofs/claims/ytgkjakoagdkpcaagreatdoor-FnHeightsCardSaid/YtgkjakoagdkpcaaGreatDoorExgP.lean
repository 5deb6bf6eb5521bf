
/- Drawn expressions in plain Lean. No condition. -/
import Derived.Test.YtgkjakoagdkpcaaGreatDoorNst
set_option linter.unusedSimpArgs false
set_option linter.unusedVariables false
namespace Go.Proofs.YtgkjakoagdkpcaaGreatDoor

theorem runE_append {vars : Int} {params : List Int} : ∀ (a b : List P2) (c h : Int), runE vars params (a ++ b) c h = (runE vars params a c h).bind fun x => runE vars params b x.1 x.2
  | [], b, c, h => rfl
  | t :: a, b, c, h => by
    simp only [List.cons_append, runE]
    split
    · exact runE_append a b _ _
    · rfl
/-- from whatever pile the tokens go on, and put k numbers more -/
def Puts (vars : Int) (params : List Int) (k : Int) (l : List P2) : Prop := ∀ c h, 0 ≤ c → ∃ h', runE vars params l c h = some (c + k, h')
theorem Puts.nil {vars : Int} {params : List Int} : Puts vars params 0 [] := fun c h _ => ⟨h, by simp [runE]⟩
theorem Puts.app {vars : Int} {params : List Int} {j k : Int} {a b : List P2} (ha : Puts vars params j a) (hb : Puts vars params k b) (hj : 0 ≤ j) : Puts vars params (j + k) (a ++ b) := fun c h hc => by
  obtain ⟨h1, e1⟩ := ha c h hc
  obtain ⟨h2, e2⟩ := hb (c + j) h1 (by omega)
  exact ⟨h2, by rw [runE_append, e1]; simp only [Option.bind_some]; rw [e2, Int.add_assoc]⟩
theorem Puts.tok {vars : Int} {params : List Int} {k : Int} {a : List P2} {t : P2} (ha : Puts vars params k a) (h1 : tokOk vars params.length t = true) (h2 : need params t = k) (hk : 0 ≤ k) : Puts vars params 1 (a ++ [t]) := fun c h hc => by
  obtain ⟨h1', e1⟩ := ha c h hc
  refine ⟨max h1' (c + k + 1 - need params t), ?_⟩
  rw [runE_append, e1]
  simp only [Option.bind_some, runE]
  rw [if_pos ⟨h1, by omega⟩, h2]
  congr 1; congr 1; omega
theorem Puts.one {vars : Int} {params : List Int} {t : P2} (h1 : tokOk vars params.length t = true) (h2 : need params t = 0) : Puts vars params 1 [t] := by
  have := Puts.tok (vars := vars) (params := params) Puts.nil h1 h2 (Int.le_refl 0)
  simpa using this
/-- how many tokens an expression of a height has at most -/
def eL : Nat → Nat
  | 0 => 1
  | d + 1 => 2 * eL d + 1
theorem eL_pos (d : Nat) : 1 ≤ eL d := by cases d <;> simp [eL]
/-- how many choices it takes at most -/
def eT : Nat → Nat
  | 0 => 20
  | d + 1 => 3 * eT d
theorem eT_pos (d : Nat) : 20 ≤ eT d := by
  induction d with
  | zero => simp [eT]
  | succ d ih => simp only [eT]; omega
theorem eL3 {d : Nat} (h : d ≤ 3) : eL d ≤ 15 := by
  obtain rfl | rfl | rfl | rfl : d = 0 ∨ d = 1 ∨ d = 2 ∨ d = 3 := by omega
  all_goals decide
theorem eT3 {d : Nat} (h : d ≤ 3) : eT d ≤ 600 := by
  obtain rfl | rfl | rfl | rfl : d = 0 ∨ d = 1 ∨ d = 2 ∨ d = 3 := by omega
  all_goals decide
theorem ex_var {vars n : Int} {params : List Int} (h1 : 0 ≤ n) (h2 : n < vars) : Puts vars params 1 [⟨2, n⟩] := .one (inB_iff.2 (by show 0 ≤ n ∧ n ≤ vars - 1; omega)) rfl
theorem ex_io {vars o : Int} {params : List Int} (h : o = 9 ∨ o = 10) : Puts vars params 1 [⟨o, 0⟩] := by
  rcases h with rfl | rfl
  · exact .one rfl rfl
  · exact .one rfl rfl
theorem ex_num {vars n : Int} {params : List Int} (h : -2147483648 ≤ n ∧ n ≤ 2147483647) : Puts vars params 1 [⟨1, n⟩] := .one (inB_iff.2 h) rfl
theorem ex_op {vars o : Int} {params : List Int} {a b : List P2} (ha : Puts vars params 1 a) (hb : Puts vars params 1 b) (h1 : 3 ≤ o) (h2 : o ≤ 8) : Puts vars params 1 (a ++ b ++ [⟨o, 0⟩]) := by
  refine Puts.tok (k := 1 + 1) (ha.app hb (by decide)) ?_ ?_ (by decide)
  · unfold tokOk
    rw [if_neg (show ¬ o = 1 by omega), if_neg (show ¬ o = 2 by omega), if_neg (show ¬ o = 11 by omega)]
    rw [show inB o 3 10 = true from inB_iff.2 (by omega)]; rfl
  · unfold need
    rw [if_neg (show ¬ o = 11 by omega), if_pos ⟨h1, h2⟩]; rfl
theorem ex_call {vars : Int} {params : List Int} {a : List P2} {f : Nat} (hf : f < params.length) (ha : Puts vars params params[f] a) (h0 : 0 ≤ params[f]) : Puts vars params 1 (a ++ [⟨11, f⟩]) := by
  refine Puts.tok ha (inB_iff.2 (by show 0 ≤ (f : Int) ∧ (f : Int) ≤ params.length - 1; omega)) ?_ h0
  unfold need
  rw [if_pos rfl, Int.toNat_natCast]; simp [List.getD, List.getElem?_eq_getElem hf]
end Go.Proofs.YtgkjakoagdkpcaaGreatDoor
