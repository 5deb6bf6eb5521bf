
/- Ins in memory: what toIns, toInsS, eqIns, eqInsS, szInsS, markInsS, heldInsS do. No condition. -/
import Derived.Test.YtaebmliolpgmdaaP2
import Derived.Test.YtaebmliolpgmdaaChecked
import Derived.Handy
import Derived.Deep.Light
import Derived.Deep.QuietTactic
import Derived.BigQuiet
import Derived.StillTailTactics
import Derived.Deep.RegionWith
set_option linter.unusedSimpArgs false
set_option linter.unusedVariables false
set_option maxRecDepth 100000
namespace Go.Proofs.Ytaebmliolpgmdaa
open Go.RowKit

theorem okIns : SliceOk Try.prog 60 93 (.agg #[.int .i64 0, .int .i64 0]) 2 16 := .mk Try.underlying60 (by kernel_rfl) rfl (by decide)

set_option maxHeartbeats 400000 in
theorem toIns (a b : Int) (w : World) :
    Calls Try.prog 114 #[.agg #[.int .i64 a, .int .i64 b]] w fun e w' => e = .returned (.agg #[.int .i64 a, .int .i64 b]) ∧ Below w.heap.size w w' := by
  go_enter Try.func114, Try.ntmps114
  go_wp2
  go_returns
  exact ⟨rfl, by go_grown⟩

set_option maxHeartbeats 400000 in
theorem toInsS (v : Value) (l : List P2) (w : World) (hr : Rd w w.heap.size v l.length (pcells l)) (hl : l.length ≤ 1048576) :
    Calls Try.prog 94 #[v] w fun e w' => ∃ v', e = .returned v' ∧ w'.ownsRow w.heap.size 93 2 v' l.length (pcells l) ∧ Below w.heap.size w w' := by
  obtain ⟨A, c, rfl, hn, hc, hcell⟩ := id hr
  have Hr := hide hr; clear hr hcell
  go_enter Try.func94, Try.ntmps94
  go_wp2_with (at_make; go_must (refine wpList_makeN rfl _ _ _ rfl okIns l.length rfl rfl (by omega) (by unfold maxLen; omega) ?_); intro w1 hown1 hb1)
  go_loopw [4] (fun i wr => ∃ k : Nat, k ≤ l.length ∧ i = .int .i64 k ∧ wr.ownsRow w.heap.size 93 2 (.slice (some ⟨w.heap.size, 0, none⟩) l.length l.length) l.length (pcells (filledA ⟨0, 0⟩ l k)) ∧ Below w.heap.size w wr) (fun i _ => l.length - (intOf i).toNat)
  case atStart => exact ⟨0, by omega, rfl, by rw [filledA_zero]; have := made_cells #[.int .i64 0, .int .i64 0] l.length (by decide); rw [show pcells (List.replicate l.length ⟨0, 0⟩) = (List.replicate l.length [.int .i64 0, .int .i64 0]).flatten by rw [pcells, List.flatMap_replicate]; rfl]; rw [← this]; exact hown1, hb1⟩
  case round =>
    obtain ⟨k, hk, rfl, hown, hb⟩ := hrel
    by_cases hlt : k < l.length
    · obtain ⟨b, o, rfl, hbB, hs0, hs1⟩ := Hr.out.two' hb (Nat.le_refl _) hlt
      have Hown := hide hown; have Hb := hide hb; clear hown hb Hr hown1 hb1
      go_wp2_with fail
      refine (toIns _ _ _).mono ?_
      rintro e w2 ⟨rfl, hb2⟩
      have hown2 := own_keep Hown.out hb2
      obtain ⟨d0, hd0⟩ := own_at hown2 (j := k * 2) (by omega)
      obtain ⟨d1, hd1⟩ := own_at hown2 (j := k * 2 + 1) (by omega)
      have hf0 := hown2.frozenAt (k * 2)
      have hf1 := hown2.frozenAt (k * 2 + 1)
      have Hown2 := hide hown2; have Hb2 := hide (Hb.out.trans (hb2.mono Hb.out.size)); clear hown2 hb2
      go_wp2
      go_roundw
      case rel =>
        refine ⟨k + 1, by omega, by go_num, ?_, (Hb2.out.setCell (Nat.le_refl _) _).setCell (Nat.le_refl _) _⟩
        have := own_set (own_set Hown2.out (k * 2) (.int .i64 l[k].o)) (k * 2 + 1) (.int .i64 l[k].n)
        rw [pcells_set _ _ _ (by rw [filledA_length _ _ _ (by omega)]; exact hlt), filledA_set _ _ _ hlt] at this
        exact this
      case measure => simp [intOf]; omega
    · obtain rfl : k = l.length := by omega
      go_wp2
      go_ret
      exact ⟨_, rfl, by rw [filledA_all] at hown; exact hown, hb⟩

set_option maxHeartbeats 400000 in
theorem eqIns (a b : Int) (w : World) :
    Calls Try.prog 123 #[.agg #[.int .i64 a, .int .i64 b], .agg #[.int .i64 a, .int .i64 b]] w fun e w' => e = .returned (.bool true) ∧ Below w.heap.size w w' := by
  go_enter Try.func123, Try.ntmps123
  go_wp2
  go_returns
  exact ⟨rfl, by go_grown⟩

set_option maxHeartbeats 400000 in
theorem eqInsS (v v2 : Value) (l : List P2) (w : World) (hr : Rd w w.heap.size v l.length (pcells l)) (hr2 : Rd w w.heap.size v2 l.length (pcells l)) (hl : l.length ≤ 9223372036854775807) :
    Calls Try.prog 108 #[v, v2] w fun e w' => e = .returned (.bool true) ∧ Below w.heap.size w w' := by
  obtain ⟨A, c, rfl, hn, hc, hcell⟩ := id hr
  obtain ⟨A2, c2, rfl, hn2, hc2, hcell2⟩ := id hr2
  have Hr := hide hr; have Hr2 := hide hr2; clear hr hr2 hcell hcell2
  go_enter Try.func108, Try.ntmps108
  go_wp2
  go_loopw [5] (fun i wr => ∃ k : Nat, k ≤ l.length ∧ i = .int .i64 k ∧ Below w.heap.size w wr) (fun i _ => l.length - (intOf i).toNat)
  case atStart => exact ⟨0, by omega, rfl, Below.refl _ _⟩
  case round =>
    obtain ⟨k, hk, rfl, hb⟩ := hrel
    by_cases hlt : k < l.length
    · obtain ⟨b, o, rfl, hbB, hs0, hs1⟩ := Hr.out.two' hb (Nat.le_refl _) hlt
      obtain ⟨b2, o2, rfl, hbB2, hz0, hz1⟩ := Hr2.out.two' hb (Nat.le_refl _) hlt
      have Hb := hide hb; clear hb Hr Hr2
      go_wp2_with fail
      go_still_tail 8, (by kernel_rfl)
      change wpList _ _ _ _ _ wr.drew
      go_wp2_with (go_at_call 123; refine (eqIns _ _ _).mono ?_; rintro e w2 ⟨rfl, hb2⟩)
      go_roundw
      case rel => exact ⟨k + 1, by omega, by go_num, (Hb.out.drew).trans (hb2.mono Hb.out.size)⟩
      case measure => simp [intOf]; omega
    · obtain rfl : k = l.length := by omega
      go_wp2
      go_ret
      exact ⟨rfl, hb⟩

theorem szInsS (v : Value) (n : Nat) (cs : List Value) (left : Int) (w : World) (B : Nat) (hr : Rd w B v n cs) (h1 : 0 ≤ left) (h2 : left ≤ 4611686018427387904) :
    Calls Try.prog 87 #[v, .int .i64 left] w fun e w' => e = .returned (.int .i64 (if (n : Int) ≤ left then left - n else -1)) ∧ w = w' := by
  obtain ⟨A, c, rfl, hn, hc, hcell⟩ := id hr
  have hn' : n ≤ 9223372036854775807 := by unfold maxLen at hc; omega
  clear hcell hr hn hc
  by_cases g : (n : Int) ≤ left
  all_goals
    go_enter Try.func87, Try.ntmps87
    go_wp2
    all_goals first
      | (exfalso; omega)
      | (go_ret
         exact ⟨retI (by first | rfl | omega | rw [if_pos g] | rw [if_neg (by omega)]), rfl⟩)


end Go.Proofs.Ytaebmliolpgmdaa
