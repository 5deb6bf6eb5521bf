
/- Ins in memory: what toIns, toInsS, eqIns, eqInsS, szInsS, markInsS, heldInsS do. No condition. -/
import Derived.Test.YtoloajmgdcpfpaaP2
import Derived.Test.YtoloajmgdcpfpaaChecked
import Derived.Handy
import Derived.Deep.Light
import Derived.Deep.QuietTactic
import Derived.BigQuiet
import Derived.StillTailTactics
import Derived.Deep.RegionWith
set_option linter.unusedSimpArgs false
set_option linter.unusedVariables false
set_option maxRecDepth 100000
namespace Go.Proofs.Ytoloajmgdcpfpaa
open Go.RowKit

theorem okIns : SliceOk Try.prog 38 78 (.agg #[.int .i64 0, .int .i64 0]) 2 16 := .mk Try.underlying38 (by kernel_rfl) rfl (by decide)

set_option maxHeartbeats 400000 in
theorem eqIns (a b : Int) (w : World) :
    Calls Try.prog 56 #[.agg #[.int .i64 a, .int .i64 b], .agg #[.int .i64 a, .int .i64 b]] w fun e w' => e = .returned (.bool true) ∧ Below w.heap.size w w' := by
  go_enter Try.func56, Try.ntmps56
  go_wp2
  go_returns
  exact ⟨rfl, by go_grown⟩

set_option maxHeartbeats 400000 in
theorem eqInsS (v v2 : Value) (l : List P2) (w : World) (hr : Rd w w.heap.size v l.length (pcells l)) (hr2 : Rd w w.heap.size v2 l.length (pcells l)) (hl : l.length ≤ 9223372036854775807) :
    Calls Try.prog 24 #[v, v2] w fun e w' => e = .returned (.bool true) ∧ Below w.heap.size w w' := by
  obtain ⟨A, c, rfl, hn, hc, hcell⟩ := id hr
  obtain ⟨A2, c2, rfl, hn2, hc2, hcell2⟩ := id hr2
  have Hr := hide hr; have Hr2 := hide hr2; clear hr hr2 hcell hcell2
  go_enter Try.func24, Try.ntmps24
  go_wp2
  go_loopw [5] (fun i wr => ∃ k : Nat, k ≤ l.length ∧ i = .int .i64 k ∧ Below w.heap.size w wr) (fun i _ => l.length - (intOf i).toNat)
  case atStart => exact ⟨0, by omega, rfl, Below.refl _ _⟩
  case round =>
    obtain ⟨k, hk, rfl, hb⟩ := hrel
    by_cases hlt : k < l.length
    · obtain ⟨b, o, rfl, hbB, hs0, hs1⟩ := Hr.out.two' hb (Nat.le_refl _) hlt
      obtain ⟨b2, o2, rfl, hbB2, hz0, hz1⟩ := Hr2.out.two' hb (Nat.le_refl _) hlt
      have Hb := hide hb; clear hb Hr Hr2
      go_wp2_with fail
      go_still_tail 8, (by kernel_rfl)
      change wpList _ _ _ _ _ wr.drew
      go_wp2_with (go_at_call 56; refine (eqIns _ _ _).mono ?_; rintro e w2 ⟨rfl, hb2⟩)
      go_roundw
      case rel => exact ⟨k + 1, by omega, by go_num, (Hb.out.drew).trans (hb2.mono Hb.out.size)⟩
      case measure => simp [intOf]; omega
    · obtain rfl : k = l.length := by omega
      go_wp2
      go_ret
      exact ⟨rfl, hb⟩


set_option maxHeartbeats 800000 in
theorem markInsS (v : Value) (l : List P2) (k0 : Int) (w : World) (base : Nat) (hown : w.ownsRow base 78 2 v l.length (pcells l)) (hk : 0 ≤ k0) (hk2 : k0 + 2 * l.length ≤ 4000000000000000000) :
    Calls Try.prog 27 #[v, .int .i64 k0] w fun e w' => e = .returned (.int .i64 (k0 + 2 * l.length)) ∧ w'.ownsRow base 78 2 v l.length (pcells (iotaP k0 l.length)) ∧ w.grownBy w' v.ownBlock := by
  rcases id hown.2 with ⟨rfl, h0⟩ | ⟨g, cap, cur, rfl, hg, hh, hn, hc, _⟩
  · obtain rfl := List.eq_nil_of_length_eq_zero h0
    go_enter Try.func27, Try.ntmps27
    go_wp2
    go_rounds 1
    go_ret
    exact ⟨retI (by simp), World.ownsRow_nil _ _ _ _, World.grownBy.refl _ _⟩
  · have Hown := hide hown; clear hown hh
    go_enter Try.func27, Try.ntmps27
    go_wp2
    go_loopw [1, 5] (fun c i wr => ∃ j : Nat, j ≤ l.length ∧ i = .int .i64 j ∧ c = .int .i64 (k0 + 2 * j) ∧ wr.ownsRow base 78 2 (.slice (some ⟨g, 0, none⟩) l.length cap) l.length (pcells (iotaP k0 j ++ l.drop j)) ∧ w.grownBy wr (some g)) (fun _ i _ => l.length - (intOf i).toNat)
    case atStart => exact ⟨0, by omega, rfl, by simp, by simpa [iotaP] using Hown.out, World.grownBy.refl _ _⟩
    case round =>
      obtain ⟨j, hj, rfl, rfl, hown, hgr⟩ := hrel
      by_cases hlt : j < l.length
      · obtain ⟨d0, hd0⟩ := own_at hown (j := j * 2) (by omega)
        obtain ⟨d1, hd1⟩ := own_at hown (j := j * 2 + 1) (by omega)
        have hf0 := hown.frozenAt (j * 2)
        have hf1 := hown.frozenAt (j * 2 + 1)
        have Ho := hide hown; have Hg := hide hgr; clear hown hgr
        go_wp2
        go_roundw
        case rel =>
          refine ⟨j + 1, by omega, by go_num, by go_num, ?_, grown_setP (grown_setP Hg.out rfl _) rfl _⟩
          have := own_set (own_set Ho.out (j * 2) (.int .i64 (k0 + 2 * j))) (j * 2 + 1) (.int .i64 (k0 + 2 * j + 1))
          have e := pcells_set (iotaP k0 j ++ l.drop j) j ⟨k0 + 2 * (j : Int), k0 + 2 * (j : Int) + 1⟩ (by rw [List.length_append, iotaP_length, List.length_drop]; omega)
          rw [e, markP_set _ _ _ hlt] at this
          exact this
        case measure => simp [intOf]; omega
      · obtain rfl : j = l.length := by omega
        rw [List.drop_length, List.append_nil] at hown
        have Ho := hide hown; have Hg := hide hgr; clear hown hgr
        go_wp2
        go_ret
        exact ⟨rfl, Ho.out, Hg.out⟩

set_option maxHeartbeats 800000 in
theorem heldInsS (v : Value) (n : Nat) (k0 : Int) (w : World) (B : Nat) (hr : Rd w B v n (pcells (iotaP k0 n))) (hk : 0 ≤ k0) (hk2 : k0 + 2 * n ≤ 4000000000000000000) :
    Calls Try.prog 28 #[v, .int .i64 k0] w fun e w' => e = .returned (.int .i64 (k0 + 2 * n)) ∧ w = w' := by
  obtain ⟨A, c, rfl, hn, hc, hcell⟩ := id hr
  have Hr := hide hr; clear hr hcell
  go_enter Try.func28, Try.ntmps28
  go_wp2
  go_loop [1, 5] (fun c i => ∃ j : Nat, j ≤ n ∧ i = .int .i64 j ∧ c = .int .i64 (k0 + 2 * j)) (fun _ i => n - (intOf i).toNat)
  case atStart => exact ⟨0, by omega, rfl, by simp⟩
  case round =>
    obtain ⟨j, hj, rfl, rfl⟩ := hrel
    by_cases hlt : j < n
    · obtain ⟨g0, g1⟩ := pcells_get (iotaP k0 n) j (by rw [iotaP_length]; exact hlt)
      rw [iotaP_get _ _ _ hlt] at g0 g1
      obtain ⟨b, o, rfl, hbB, s0⟩ := Hr.out.at3 g0
      obtain ⟨_, _, e, _, s1⟩ := Hr.out.at3 g1
      cases e
      rw [← Nat.add_assoc] at s1
      clear Hr g0 g1
      go_wp2
      go_round
      case rel => exact ⟨j + 1, by omega, by go_num, by go_num⟩
      case measure => simp [intOf]; omega
    · obtain rfl : j = n := by omega
      go_wp2
      go_ret
      exact ⟨rfl, rfl⟩
end Go.Proofs.Ytoloajmgdcpfpaa
