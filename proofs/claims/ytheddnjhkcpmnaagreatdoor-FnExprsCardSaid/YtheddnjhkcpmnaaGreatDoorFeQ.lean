
/- The law of expressions: what its functions say, joined. No condition. -/
import Derived.Test.YtheddnjhkcpmnaaGreatDoorFeP
import Derived.Test.YtheddnjhkcpmnaaGreatDoorEx5
import Derived.Test.YtheddnjhkcpmnaaGreatDoorEt
import Derived.Test.YtheddnjhkcpmnaaGreatDoorRxI
set_option linter.unusedSimpArgs false
set_option linter.unusedVariables false
set_option maxRecDepth 100000
namespace Go.Proofs.YtheddnjhkcpmnaaGreatDoor
open Go.RowKit Go.Lib

def txS (l : List P2) : ByteArray := if exprOk l then ⟨(exprF 0 l).toArray⟩ else ⟨#[]⟩
theorem txS_size (l : List P2) : (txS l).size ≤ 144 := by
  unfold txS
  cases h : exprOk l with
  | false => simp [ByteArray.size]
  | true =>
    obtain ⟨h1, _, h2⟩ := exprOk_iff.1 h
    have := exprF_len h1 0
    simp [ByteArray.size]; omega
theorem tx_back {l : List P2} (h : exprOk l = true) : rdL (txS l).data.toList = l ∧ rdB (txS l).data.toList = true := by
  have e : (txS l).data.toList = exprF 0 l := by unfold txS; rw [h]; rfl
  rw [e]
  obtain ⟨h1, _, h2⟩ := exprOk_iff.1 h
  have := exprF_len h1 0
  exact rd_some (read_back h (by omega))
theorem rx_back {s : ByteArray} (h : rdB s.data.toList = true) : exprOk (rdL s.data.toList) = true ∧ txS (rdL s.data.toList) = s := by
  cases hr : rdE s.data.toList with
  | none => rw [(rd_none hr).2] at h; cases h
  | some l =>
    rw [(rd_some hr).1]
    obtain ⟨h1, h2⟩ := write_back hr
    refine ⟨h1, ?_⟩
    unfold txS; rw [h1]
    show (⟨(exprF 0 l).toArray⟩ : ByteArray) = s
    rw [h2, ba_mk]
theorem high_len {vars : Int} {params : List Int} (hp : parOk params = true) (e : List P2) : highOf vars params e ≤ e.length := by
  by_cases h2 : 1 ≤ e.length ∧ e.length ≤ 12
  · cases h : runE vars params e 0 0 with
    | none => rw [highOf_none h]; omega
    | some x =>
      obtain ⟨c, m⟩ := x
      obtain ⟨q1, q2, q3, q4, q5⟩ := runE_bd hp e 0 0 (by omega) (by omega) c m h
      by_cases hc : c = 1
      · rw [highOf_some h h2.2 hc]; omega
      · rw [highOf_bad h (.inl hc)]; omega
  · rw [highOf_size h2]; omega
theorem highR_law {e : List P2} {params : List Int} (h : highB e params = true) : 1 ≤ highR e params ∧ highR e params ≤ e.length := by
  have h1 : 0 < highR e params := of_decide_eq_true h
  refine ⟨by omega, ?_⟩
  unfold highR at h1 ⊢
  split
  · rename_i hp; exact high_len hp e
  · rename_i hp; rw [if_neg hp] at h1; omega
end Go.Proofs.YtheddnjhkcpmnaaGreatDoor
