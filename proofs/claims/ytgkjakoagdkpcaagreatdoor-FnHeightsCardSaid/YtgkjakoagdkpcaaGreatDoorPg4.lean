
/- isStmt, l3Stmt: what the Go text returns. No condition. -/
import Derived.Test.YtgkjakoagdkpcaaGreatDoorPg1
set_option linter.unusedSimpArgs false
set_option linter.unusedVariables false
set_option maxRecDepth 100000
namespace Go.Proofs.YtgkjakoagdkpcaaGreatDoor
open Go.RowKit

def stmtImpN (vars : Int) (params : List Int) (k N : Int) (ex : List P2) (n3 n4 : Nat) : Bool :=
  (inB k 1 9 && (decide (k = 7 ∨ n4 = 0) && decide (k = 7 ∨ k = 8 ∨ n3 = 0))) &&
  (if k = 3 then decide (ex.length = 0) && (decide (N = -1) || (inB N 0 (params.length - 1) && decide (params.getD N.toNat 0 = 0)))
   else if k = 6 then decide (ex.length = 0) && decide (N = 0)
   else if k = 1 then inB N 0 (vars - 1) && decide (0 < highOf vars params ex)
   else decide (N = 0) && decide (0 < highOf vars params ex))
def stmtImp (vars : Int) (params : List Int) (s : StmtM) : Bool := stmtImpN vars params s.qKind s.qN s.qEx s.qThen.length s.qElse.length
def stmtOkN (vars : Int) (params : List Int) (k N : Int) (ex : List P2) (n3 n4 : Nat) : Bool :=
  if k = 1 then goodExpr ex vars params && (inB N 0 (vars - 1) && decide (n3 + n4 = 0))
  else if k = 2 ∨ k = 4 ∨ k = 5 ∨ k = 9 then goodExpr ex vars params && (decide (N = 0) && decide (n3 + n4 = 0))
  else if k = 3 then decide (ex.length = 0) && (inB N 0 (params.length - 1) && decide (n3 + n4 = 0))
  else if k = 6 then decide (ex.length = 0) && (decide (N = 0) && decide (n3 + n4 = 0))
  else if k = 7 then goodExpr ex vars params && decide (N = 0)
  else if k = 8 then goodExpr ex vars params && (decide (N = 0) && decide (n4 = 0))
  else false
theorem stmtOk_N (vars : Int) (params : List Int) (s : StmtM) : stmtOk vars params s = stmtOkN vars params s.qKind s.qN s.qEx s.qThen.length s.qElse.length := rfl
theorem kinds {k : Int} (h : inB k 1 9 = true) : k = 1 ∨ k = 2 ∨ k = 3 ∨ k = 4 ∨ k = 5 ∨ k = 6 ∨ k = 7 ∨ k = 8 ∨ k = 9 := by have := inB_iff.1 h; omega
/-- one that puts off no call: the two words agree -/
theorem stmt_eq {vars : Int} {params : List Int} (hv : 0 ≤ vars ∧ vars ≤ 6) (hp : parOk params = true) {k N : Int} {ex : List P2} {n3 n4 : Nat} (h3 : k ≠ 3) : stmtImpN vars params k N ex n3 n4 = stmtOkN vars params k N ex n3 n4 := by
  have hg : goodExpr ex vars params = decide (0 < highOf vars params ex) := by unfold goodExpr; rw [decide_eq_true hv, hp]; simp
  unfold stmtImpN stmtOkN
  rw [hg]
  cases hi : inB k 1 9 with
  | false =>
    have : ¬ (1 ≤ k ∧ k ≤ 9) := fun h => by rw [inB_yes h.1 h.2] at hi; cases hi
    simp [show ¬ k = 1 by omega, show ¬ k = 2 by omega, show ¬ k = 4 by omega, show ¬ k = 5 by omega, show ¬ k = 9 by omega, h3, show ¬ k = 6 by omega, show ¬ k = 7 by omega, show ¬ k = 8 by omega]
  | true =>
    generalize decide (0 < highOf vars params ex) = g
    have e : decide (n3 + n4 = 0) = (decide (n3 = 0) && decide (n4 = 0)) := by rw [Bool.eq_iff_iff]; simp
    rcases kinds hi with rfl | rfl | rfl | rfl | rfl | rfl | rfl | rfl | rfl
    all_goals first | exact absurd rfl h3 | skip
    all_goals
      simp only [e]
      simp
      try cases g <;> cases decide (n3 = 0) <;> cases decide (n4 = 0) <;> simp
/-- one that puts off a call -/
theorem stmt_eq3 {vars : Int} {params : List Int} {N : Int} {ex : List P2} {n3 n4 : Nat} (h : 0 ≤ N) : stmtImpN vars params 3 N ex n3 n4 = (stmtOkN vars params 3 N ex n3 n4 && decide (params.getD N.toNat 0 = 0)) := by
  have e : decide (n3 + n4 = 0) = (decide (n3 = 0) && decide (n4 = 0)) := by rw [Bool.eq_iff_iff]; simp
  unfold stmtImpN stmtOkN
  simp only [e]
  have h1 : ¬ N = -1 := by omega
  simp [h1, inB]
  cases decide (n3 = 0) <;> cases decide (n4 = 0) <;> cases decide (ex = []) <;> simp
theorem stmt_lone {vars : Int} {params : List Int} {N : Int} {ex : List P2} {n3 n4 : Nat} : (inB N 0 (params.length - 1) && stmtImpN vars params 3 (-1) ex n3 n4) = stmtOkN vars params 3 N ex n3 n4 := by
  have e : decide (n3 + n4 = 0) = (decide (n3 = 0) && decide (n4 = 0)) := by rw [Bool.eq_iff_iff]; simp
  unfold stmtImpN stmtOkN
  simp only [e]
  simp [inB]
  cases decide (n3 = 0) <;> cases decide (n4 = 0) <;> cases decide (ex = []) <;> cases decide (0 ≤ N ∧ N ≤ (params.length : Int) - 1) <;> simp

end Go.Proofs.YtgkjakoagdkpcaaGreatDoor
