
/- SameOutcome, TraceBegins: what the Go text returns. No condition. -/
import Derived.Test.YtheddnjhkcpmnaaDoorOc
set_option linter.unusedSimpArgs false
set_option linter.unusedVariables false
set_option maxRecDepth 100000
namespace Go.Proofs.YtheddnjhkcpmnaaDoor
open Go.RowKit

set_option maxHeartbeats 400000 in
theorem szOutcome (o : Oc) (s : Value) (left : Int) (w : World) (B : Nat) (hr : OcAt w w.heap.size o s) (h1 : 0 ≤ left) (h2 : left ≤ 4611686018427387904) :
    Calls Tryd.prog 7 #[o.agg s, .int .i64 left] w fun e w' => e = .returned (.int .i64 (if (o.trace.length : Int) ≤ left then left - o.trace.length else -1)) ∧ Below w.heap.size w w' := by
  unfold OcAt at hr
  unfold Oc.agg
  obtain ⟨code, value, tr, used⟩ := o
  dsimp only at *
  obtain ⟨A, c, rfl, hn, hc, hcell⟩ := id hr
  have Hr := hide hr; clear hr hcell
  have hW := (Below.refl w.heap.size w).alloc (Nat.le_refl _) (.cells #[.int .i64 code, .int .i64 value, .slice A tr.length c, .int .i64 used] 24)
  have HW := hide hW; clear hW hn hc
  by_cases g : (tr.length : Int) ≤ left
  all_goals
    go_enter Tryd.func7, Tryd.ntmps7
    go_wp2_with fail
    refine (szIntS _ _ _ left _ _ (Hr.out.go HW.out (Nat.le_refl _) HW.out.size) h1 h2).mono ?_
    rintro e w1 ⟨rfl, rfl⟩
    first | rw [if_pos (by omega)] | rw [if_neg (by omega)]
    go_wp2
    all_goals first
      | (exfalso; omega)
      | (go_ret
         exact ⟨retI (by first | rfl | (split <;> omega) | omega), HW.out⟩)

def sameOc (a b : Oc) : Bool := decide (a.code = b.code ∧ a.value = b.value ∧ a.used = b.used) && sameB a.trace b.trace
theorem sameOc_no {a b : Oc} (h : ¬ (a.code = b.code ∧ a.value = b.value ∧ a.used = b.used)) : false = sameOc a b := by unfold sameOc; rw [decide_eq_false h]; rfl
theorem sameOc_yes {a b : Oc} (h : a.code = b.code ∧ a.value = b.value ∧ a.used = b.used) : sameB a.trace b.trace = sameOc a b := by unfold sameOc; rw [decide_eq_true h]; rfl

def begins (a b : Oc) : Bool := decide (a.trace.length ≤ b.trace.length) && sameB a.trace (b.trace.take a.trace.length)
theorem begins_no {a b : Oc} (h : ¬ a.trace.length ≤ b.trace.length) : false = begins a b := by unfold begins; rw [decide_eq_false h]; rfl
theorem begins_yes {a b : Oc} (h : a.trace.length ≤ b.trace.length) : sameB a.trace (b.trace.take a.trace.length) = begins a b := by unfold begins; rw [decide_eq_true h]; rfl
theorem Rd.pre {w : World} {B n m c : Nat} {A : Option Addr} {xs : List Int} (h : Rd w B (.slice A n c) n (icells .i64 xs)) (hm : m ≤ n) : Rd w B (.slice A m c) m (icells .i64 (xs.take m)) := by
  obtain ⟨A', c', e, h1, h2, hc⟩ := h
  injection e with e1 e2 e3
  subst e1 e3
  refine ⟨A, c, rfl, by omega, h2, fun j u hu => hc j u ?_⟩
  have : icells .i64 (xs.take m) = (icells .i64 xs).take m := by simp [icells, List.map_take]
  rw [this, List.getElem?_take] at hu
  split at hu
  · exact hu
  · cases hu

end Go.Proofs.YtheddnjhkcpmnaaDoor
