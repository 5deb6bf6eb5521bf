
/- laws.sameRows: rows that are the same are the same. No condition. -/
import Derived.Test.YtheddnjhkcpmnaaNst
import Derived.Test.YtheddnjhkcpmnaaOpen
import Derived.Deep.QuietTactic
import Derived.BigQuiet
set_option linter.unusedSimpArgs false
set_option linter.unusedVariables false
set_option maxRecDepth 100000
namespace Go.Proofs.Ytheddnjhkcpmnaa
open Go.RowKit

set_option maxHeartbeats 1600000 in
theorem laws_sameRows (v v2 : Value) (l : List R3) (w : World) (B B2 : Nat) (hr : Rd w B v l.length (rcells l)) (hr2 : Rd w B2 v2 l.length (rcells l)) :
    Calls Try.prog 49 #[v, v2] w fun e w' => e = .returned (.bool true) ∧ Below w.heap.size w w' := by
  have hl : l.length ≤ 9223372036854775807 := by obtain ⟨_, _, _, h1, h2, _⟩ := id hr; unfold maxLen at h2; omega
  obtain ⟨A, c, rfl, _, _, _⟩ := id hr
  obtain ⟨A2, c2, rfl, _, _, _⟩ := id hr2
  have Hr := hide hr; have Hr2 := hide hr2
  clear hr hr2
  go_enter Try.func49, Try.ntmps49
  go_wp2
  go_loopw [13] (fun i wr => ∃ k q : Nat, k ≤ l.length ∧ i = .int .i64 k ∧ wr = w.drewN q) (fun i _ => l.length - (intOf i).toNat)
  case atStart => exact ⟨0, 0, by omega, rfl, rfl⟩
  case round =>
    obtain ⟨k, q, hk, rfl, rfl⟩ := hrel
    by_cases hlt : k < l.length
    · obtain ⟨g0, g1, g2⟩ := rcells_get l k hlt
      obtain ⟨b, o, rfl, hb, s0⟩ := Hr.out.at3 g0
      obtain ⟨_, _, e, _, s1⟩ := Hr.out.at3 g1
      cases e
      obtain ⟨_, _, e, _, s2⟩ := Hr.out.at3 g2
      cases e
      obtain ⟨b2, o2, rfl, hb2, t0⟩ := Hr2.out.at3 g0
      obtain ⟨_, _, e, _, t1⟩ := Hr2.out.at3 g1
      cases e
      obtain ⟨_, _, e, _, t2⟩ := Hr2.out.at3 g2
      cases e
      rw [← Nat.add_assoc] at s1 s2 t1 t2
      clear g0 g1 g2
      generalize l[k] = r at *
      have hkI : (k : Int) < (l.length : Int) := by omega
      have hk0 : (0 : Int) ≤ (k : Int) := by omega
      go_wp2
      go_quiet (fail)
      go_wp2
      go_roundw
      case rel => exact ⟨k + 1, _, by omega, by go_num, rfl⟩
      case measure => simp [intOf]; omega
    · have hkI : ¬ (k : Int) < (l.length : Int) := by omega
      go_wp2
      go_ret
      exact ⟨rfl, below_drewN (Below.refl _ _) _⟩
end Go.Proofs.Ytheddnjhkcpmnaa
