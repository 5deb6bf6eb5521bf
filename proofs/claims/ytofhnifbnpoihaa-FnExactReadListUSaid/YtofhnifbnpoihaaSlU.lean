/- toUint64S, eqUint64S, markUint64S, heldUint64S: what the Go text does. No condition. -/
import Derived.Test.YtofhnifbnpoihaaMem
import Derived.Test.YtofhnifbnpoihaaChecked
import Derived.Handy
import Derived.Deep.Light
import Derived.Deep.QuietTactic
import Derived.BigQuiet
set_option linter.unusedSimpArgs false
set_option linter.unusedVariables false
set_option maxRecDepth 100000
namespace Go.Proofs.Ytofhnifbnpoihaa
open Go.RowKit
theorem okU64 : SliceOk Try.prog 36 25 (.int .u64 0) 1 8 := .mk Try.underlying36 (by kernel_rfl) rfl (by decide)

set_option maxHeartbeats 400000 in
theorem toUint64S (v : Value) (zs : List Int) (w : World) (hr : Rd w w.heap.size v zs.length (icells .u64 zs)) (hl : zs.length ≤ 1048576) :
    Calls Try.prog 28 #[v] w fun e w' => ∃ v', e = .returned v' ∧ w'.ownsRow w.heap.size 25 1 v' zs.length (icells .u64 zs) ∧ Below w.heap.size w w' := by
  obtain ⟨A, c, rfl, hn, hc, hcell⟩ := id hr
  go_enter Try.func28, Try.ntmps28
  go_wp2_with (at_make; go_must (refine wpList_makeN rfl _ _ _ rfl okU64 zs.length rfl rfl (by omega) (by unfold maxLen; omega) ?_); intro w1 hown1 hb1)
  go_loopw [4] (fun i wr => ∃ k : Nat, k ≤ zs.length ∧ i = .int .i64 k ∧ wr.ownsRow w.heap.size 25 1 (.slice (some ⟨w.heap.size, 0, none⟩) zs.length zs.length) zs.length (icells .u64 (filled zs k)) ∧ Below w.heap.size w wr) (fun i _ => zs.length - (intOf i).toNat)
  case atStart => exact ⟨0, by omega, rfl, by rw [filled_zero, ← made_int]; exact hown1, hb1⟩
  case round =>
    obtain ⟨k, hk, rfl, hown, hb⟩ := hrel
    by_cases hlt : k < zs.length
    · obtain ⟨b, o, rfl, hbB, hsrc0⟩ := hr.at_ (j := k) (by rw [icells_length]; exact hlt)
      rw [icells_get _ _ hlt] at hsrc0
      have hsrc : wr.cell? ⟨b, o + k, none⟩ = some (.int .u64 zs[k]) := (hb.cell (p := ⟨b, o + k, none⟩) hbB).trans hsrc0
      obtain ⟨old, hdst⟩ := own_at hown (j := k) (by omega)
      have hfr := hown.frozenAt k
      have Hown := hide hown; have Hb := hide hb; clear hown hb hsrc0 hcell hr hown1 hb1
      go_wp2
      go_roundw
      case rel =>
        refine ⟨k + 1, by omega, by go_num, ?_, Hb.out.setCell (Nat.le_refl _) _⟩
        have := (Hown.out.stored k (.int .u64 zs[k])).1
        rw [icells_set, filled_set _ _ hlt] at this
        exact this
      case measure => simp [intOf]; omega
    · obtain rfl : k = zs.length := by omega
      go_wp2
      go_ret
      exact ⟨_, rfl, by rw [filled_all] at hown; exact hown, hb⟩

set_option maxHeartbeats 400000 in
theorem eqUint64S (v v2 : Value) (zs : List Int) (w : World) (B B2 : Nat) (hr : Rd w B v zs.length (icells .u64 zs)) (hr2 : Rd w B2 v2 zs.length (icells .u64 zs)) (hl : zs.length ≤ 9223372036854775807) :
    Calls Try.prog 30 #[v, v2] w fun e w' => e = .returned (.bool true) ∧ ∃ q, w' = w.drewN q := by
  obtain ⟨A, c, rfl, hn, hc, hcell⟩ := id hr
  obtain ⟨A2, c2, rfl, hn2, hc2, hcell2⟩ := id hr2
  go_enter Try.func30, Try.ntmps30
  go_wp2
  go_loopw [5] (fun i wr => ∃ k q : Nat, k ≤ zs.length ∧ i = .int .i64 k ∧ wr = w.drewN q) (fun i _ => zs.length - (intOf i).toNat)
  case atStart => exact ⟨0, 0, by omega, rfl, rfl⟩
  case round =>
    obtain ⟨k, q, hk, rfl, rfl⟩ := hrel
    by_cases hlt : k < zs.length
    · obtain ⟨b, o, rfl, hbB, hsrc⟩ := hr.at_ (j := k) (by rw [icells_length]; exact hlt)
      obtain ⟨b2, o2, rfl, hbB2, hsrc2⟩ := hr2.at_ (j := k) (by rw [icells_length]; exact hlt)
      rw [icells_get _ _ hlt] at hsrc hsrc2
      clear hcell hcell2 hr hr2
      go_wp2
      go_quiet (fail)
      go_wp2
      go_roundw
      case rel => exact ⟨k + 1, _, by omega, by go_num, rfl⟩
      case measure => simp [intOf]; omega
    · obtain rfl : k = zs.length := by omega
      go_wp2
      go_ret
      exact ⟨rfl, _, rfl⟩
end Go.Proofs.Ytofhnifbnpoihaa
