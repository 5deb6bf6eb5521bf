
/- The law's own comparison of tokens: what the Go text returns. No condition. -/
import Derived.Test.YtheddnjhkcpmnaaGreatDoorP2
import Derived.Test.YtheddnjhkcpmnaaGreatDoorChecked
import Derived.Deep.QuietTactic
import Derived.BigQuiet
import Derived.Deep.Light
set_option linter.unusedSimpArgs false
set_option linter.unusedVariables false
set_option maxRecDepth 100000
namespace Go.Proofs.YtheddnjhkcpmnaaGreatDoor
open Go.RowKit

set_option maxHeartbeats 1600000 in
theorem laws_sameToks (v v2 : Value) (l : List P2) (w : World) (hr : Rd w w.heap.size v l.length (pcells l)) (hr2 : Rd w w.heap.size v2 l.length (pcells l)) (hl : l.length ≤ 1000000) :
    Calls Tryz.prog 9 #[v, v2] w fun e w' => e = .returned (.bool true) ∧ Below w.heap.size w w' := by
  obtain ⟨A, c, rfl, hn, hc, hcell⟩ := id hr
  obtain ⟨A2, c2, rfl, hn2, hc2, hcell2⟩ := id hr2
  have Hr := hide hr; have Hr2 := hide hr2; clear hr hr2 hcell hcell2 hn hn2 hc hc2
  go_enter Tryz.func9, Tryz.ntmps9
  go_wp2
  go_loopw [13] (fun i wr => ∃ k : Nat, k ≤ l.length ∧ i = .int .i64 k ∧ Below w.heap.size w wr) (fun i _ => l.length - (intOf i).toNat)
  case atStart => exact ⟨0, by omega, rfl, Below.refl _ _⟩
  case round =>
    obtain ⟨k, hk, rfl, hb⟩ := hrel
    by_cases hlt : k < l.length
    · obtain ⟨b, o, rfl, hbB, hs0, hs1⟩ := Hr.out.two' hb (Nat.le_refl _) hlt
      obtain ⟨b2, o2, rfl, hbB2, hz0, hz1⟩ := Hr2.out.two' hb (Nat.le_refl _) hlt
      have i0 : (0 : Int) ≤ (k : Int) := by omega
      have i1 : (k : Int) < (l.length : Int) := by omega
      have Hb := hide hb; clear hb Hr Hr2
      generalize l[k].o = to at *
      generalize l[k].n = tn at *
      go_wp2_with fail
      go_quiet (fail)
      go_wp2_with fail
      go_roundw
      case rel => exact ⟨k + 1, by omega, by go_num, below_drewN Hb.out _⟩
      case measure => simp [intOf]; omega
    · obtain rfl : k = l.length := by omega
      go_wp2
      go_ret
      exact ⟨rfl, hb⟩
end Go.Proofs.YtheddnjhkcpmnaaGreatDoor
