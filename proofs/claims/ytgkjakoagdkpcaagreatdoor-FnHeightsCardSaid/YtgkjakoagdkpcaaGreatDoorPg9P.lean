
/- The spec's word of a program, and that the program's own word is the same. No condition. -/
import Derived.Test.YtgkjakoagdkpcaaGreatDoorPg8
set_option linter.unusedSimpArgs false
set_option linter.unusedVariables false
set_option maxRecDepth 100000
namespace Go.Proofs.YtgkjakoagdkpcaaGreatDoor
open Go.RowKit

def siteZ (params : List Int) (f : FuncM) (s : Int) : Bool := decide (params.getD (f.qStmts.getD s.toNat st0).qN.toNat 0 = 0)
def progS (fs : List FuncM) : Bool := inB fs.length 1 5 && (parOk (parL fs) && (decide ((parL fs).getD 0 0 = 0) && fs.all fun f => funcB f (parL fs) && (sitesF 0 f.qStmts).all (siteZ (parL fs) f)))
theorem stmtOk_nonneg {vars : Int} {params : List Int} {s : StmtM} (h : stmtOk vars params s = true) : 0 ≤ s.qN := by
  unfold stmtOk at h
  split at h
  · simp only [Bool.and_eq_true] at h; exact (inB_iff.1 h.2.1).1
  split at h
  · simp only [Bool.and_eq_true, decide_eq_true_eq] at h; omega
  split at h
  · simp only [Bool.and_eq_true] at h; exact (inB_iff.1 h.2.1).1
  split at h
  · simp only [Bool.and_eq_true, decide_eq_true_eq] at h; omega
  split at h
  · simp only [Bool.and_eq_true, decide_eq_true_eq] at h; omega
  split at h
  · simp only [Bool.and_eq_true, decide_eq_true_eq] at h; omega
  · cases h
theorem stP_ne {vars : Int} {params : List Int} (hv : 0 ≤ vars ∧ vars ≤ 6) (hp : parOk params = true) {s : StmtM} (h3 : s.qKind ≠ 3) : stP vars params s = stmtOk vars params s := by
  unfold stP stmtImp
  rw [stmt_eq hv hp h3, ← stmtOk_N]
  cases h : stmtOk vars params s
  · simp
  · simp [stmtOk_nonneg h]
theorem stP_3 {vars : Int} {params : List Int} {s : StmtM} (h3 : s.qKind = 3) : stP vars params s = (stmtOk vars params s && decide (params.getD s.qN.toNat 0 = 0)) := by
  unfold stP stmtImp
  by_cases h : 0 ≤ s.qN
  · rw [h3, stmt_eq3 h, decide_eq_true h, Bool.true_and, stmtOk_N, h3]
  · cases h2 : stmtOk vars params s
    · simp [h]
    · exact absurd (stmtOk_nonneg h2) h
theorem func_st {params : List Int} {f : FuncM} (hv : 0 ≤ f.qVars ∧ f.qVars ≤ 6) (hp : parOk params = true) : f.qStmts.all (stP f.qVars params) = (f.qStmts.all (stmtOk f.qVars params) && (sitesF 0 f.qStmts).all (siteZ params f)) := by
  rw [Bool.eq_iff_iff, Bool.and_eq_true, List.all_eq_true, List.all_eq_true, List.all_eq_true]
  constructor
  · intro h
    refine ⟨fun s hs => ?_, fun x hx => ?_⟩
    · have := h s hs
      by_cases h3 : s.qKind = 3
      · rw [stP_3 h3, Bool.and_eq_true] at this; exact this.1
      · rwa [stP_ne hv hp h3] at this
    · obtain ⟨j, hj, rfl, h3⟩ := (sitesF_mem _ _ _).1 hx
      have := h _ (List.getElem_mem hj)
      rw [stP_3 h3, Bool.and_eq_true] at this
      unfold siteZ
      rw [show (((0 + j : Nat) : Int)).toNat = j by omega]
      simp only [List.getD, List.getElem?_eq_getElem hj, Option.getD_some]
      exact this.2
  · rintro ⟨h1, h2⟩ s hs
    by_cases h3 : s.qKind = 3
    · obtain ⟨j, hj, rfl⟩ := List.getElem_of_mem hs
      have := h2 _ ((sitesF_mem _ _ _).2 ⟨j, hj, rfl, h3⟩)
      unfold siteZ at this
      rw [show (((0 + j : Nat) : Int)).toNat = j by omega] at this
      simp only [List.getD, List.getElem?_eq_getElem hj, Option.getD_some] at this
      rw [stP_3 h3, h1 _ hs, Bool.true_and]
      exact this
    · rw [stP_ne hv hp h3]; exact h1 _ hs
theorem prog_eq (fs : List FuncM) : progS fs = progB fs := by
  unfold progS progB
  cases g2 : parOk (parL fs)
  · simp
  have e : (fs.all fun f => funcB f (parL fs) && (sitesF 0 f.qStmts).all (siteZ (parL fs) f)) = fs.all fun f => shapedB f && f.qStmts.all (stP f.qVars (parL fs)) := by
    congr 1
    funext f
    rw [func_eq]
    cases hs : shapedB f
    · simp
    · obtain ⟨v1, v2, _⟩ := shaped_vars hs
      rw [func_st ⟨v1, v2⟩ g2]; simp
  rw [e]
end Go.Proofs.YtgkjakoagdkpcaaGreatDoor
