
/- PutU, LongU, PutS: what the Go text returns. No condition. -/
import Derived.Test.YtheddnjhkcpmnaaLebP
import Derived.Test.YtheddnjhkcpmnaaChecked
set_option linter.unusedSimpArgs false
set_option linter.unusedVariables false
set_option maxRecDepth 100000
namespace Go.Proofs.Ytheddnjhkcpmnaa
open Go.RowKit

theorem okU8 : SliceOk Try.prog 22 5 (.int .u8 0) 1 1 := .mk Try.underlying22 (by kernel_rfl) rfl (by decide)

set_option maxHeartbeats 400000 in
theorem impl_putU (n : Nat) (hn : n < 18446744073709551616) (w : World) :
    Calls Try.prog 62 #[.int .u64 (n : Int)] w fun e w' => e = .returned (.string ⟨(leb n).toArray⟩) ∧ Below w.heap.size w w' := by
  go_enter Try.func62, Try.ntmps62
  go_wp2
  go_loopw [0, 3] (fun m v wr => ∃ (k : Nat) (acc : List UInt8), k < 18446744073709551616 ∧ m = .int .u64 k ∧ acc ++ leb k = leb n ∧ wr.ownsRow w.heap.size 5 1 v acc.length (bcells acc) ∧ Below w.heap.size w wr) (fun m _ _ => (intOf m).toNat)
  case atStart => exact ⟨n, [], hn, rfl, rfl, World.ownsRow_nil _ _ _ _, Below.refl _ _⟩
  case round =>
    obtain ⟨k, acc, hk, rfl, hacc, hown, hb⟩ := hrel
    have hal := leb_part hacc
    by_cases h7 : k < 128
    · have Hacc := hide hacc; clear hacc
      go_wp2_with (at_builtin; refine wpList_push rfl _ _ _ rfl okU8 rfl hown _ rfl rfl (by simp [Value.oneCell']) (by unfold maxLen; omega) (by omega) hb.size ?_; intro v1 w1 hown1 hg1; have hcv := run_str_own Try.underlying22 Try.underlying5 Try.underlying9 (own_snoc hown1 (UInt8.ofNat k) (by rw [ofNat_toNat _ (by omega)])))
      go_ret
      exact ⟨retS (by rw [← Hacc.out, leb_small _ h7]), belowPush hb hown hb.size hg1⟩
    · have Hacc := hide hacc; clear hacc
      go_wp2_with (at_builtin; refine wpList_push rfl _ _ _ rfl okU8 rfl hown _ rfl rfl (by simp [Value.oneCell']) (by unfold maxLen; omega) (by omega) hb.size ?_; intro v1 w1 hown1 hg1)
      have e1 := u8_or_128 k
      go_roundw
      case rel => 
        refine ⟨k / 128, acc ++ [UInt8.ofNat (k % 128 + 128)], by omega, by simp, ?_, ?_, belowPush hb hown hb.size hg1⟩
        · rw [← Hacc.out, leb_great k (by omega) hk]; simp
        · have := own_snoc hown1 (UInt8.ofNat (k % 128 + 128)) (by rw [ofNat_toNat _ (by omega)]; exact e1)
          simpa using this
      case measure => simp [intOf]; omega

set_option maxHeartbeats 400000 in
theorem spec_l1PutU (n : Nat) (hn : n < 18446744073709551616) (w : World) :
    Calls Try.prog 64 #[.int .u64 (n : Int)] w fun e w' => e = .returned (.string ⟨(leb n).toArray⟩) ∧ Below w.heap.size w w' := by
  go_enter Try.func64, Try.ntmps64
  go_wp2
  go_loopw [0, 3] (fun m v wr => ∃ (k : Nat) (acc : List UInt8), k < 18446744073709551616 ∧ m = .int .u64 k ∧ acc ++ leb k = leb n ∧ wr.ownsRow w.heap.size 5 1 v acc.length (bcells acc) ∧ Below w.heap.size w wr) (fun m _ _ => (intOf m).toNat)
  case atStart => exact ⟨n, [], hn, rfl, rfl, World.ownsRow_nil _ _ _ _, Below.refl _ _⟩
  case round =>
    obtain ⟨k, acc, hk, rfl, hacc, hown, hb⟩ := hrel
    have hal := leb_part hacc
    have hki : (k : Int) ≤ 18446744073709551615 := by omega
    have Hk := hide hk; clear hk
    by_cases h7 : k < 128
    · have Hacc := hide hacc; clear hacc
      go_wp2_with (at_builtin; refine wpList_push rfl _ _ _ rfl okU8 rfl hown _ rfl rfl (by simp [Value.oneCell']) (by unfold maxLen; omega) (by omega) hb.size ?_; intro v1 w1 hown1 hg1; have hcv := run_str_own Try.underlying22 Try.underlying5 Try.underlying9 (own_snoc hown1 (UInt8.ofNat k) (by rw [ofNat_toNat _ (by omega)])))
      go_ret
      exact ⟨retS (by rw [← Hacc.out, leb_small _ h7]), belowPush hb hown hb.size hg1⟩
    · have Hacc := hide hacc; clear hacc
      go_wp2_with (at_builtin; refine wpList_push rfl _ _ _ rfl okU8 rfl hown _ rfl rfl (by simp [Value.oneCell']) (by unfold maxLen; omega) (by omega) hb.size ?_; intro v1 w1 hown1 hg1)
      go_roundw
      case rel => 
        refine ⟨k / 128, acc ++ [UInt8.ofNat (k % 128 + 128)], by have := Hk.out; omega, by simp, ?_, ?_, belowPush hb hown hb.size hg1⟩
        · rw [← Hacc.out, leb_great k (by omega) Hk.out]; simp
        · have := own_snoc hown1 (UInt8.ofNat (k % 128 + 128)) (by rw [ofNat_toNat _ (by omega)]; omega)
          simpa using this
      case measure => simp [intOf]; omega

set_option maxHeartbeats 400000 in
theorem impl_putS (n : Int) (h1 : -9223372036854775808 ≤ n) (h2 : n ≤ 9223372036854775807) (w : World) :
    Calls Try.prog 67 #[.int .i64 n] w fun e w' => e = .returned (.string ⟨(lebs n).toArray⟩) ∧ Below w.heap.size w w' := by
  go_enter Try.func67, Try.ntmps67
  go_wp2
  go_loopw [0, 3] (fun m v wr => ∃ (k : Int) (acc : List UInt8), -9223372036854775808 ≤ k ∧ k ≤ 9223372036854775807 ∧ m = .int .i64 k ∧ acc ++ lebs k = lebs n ∧ wr.ownsRow w.heap.size 5 1 v acc.length (bcells acc) ∧ Below w.heap.size w wr) (fun m _ _ => (intOf m).natAbs)
  case atStart => exact ⟨n, [], h1, h2, rfl, rfl, World.ownsRow_nil _ _ _ _, Below.refl _ _⟩
  case round =>
    obtain ⟨k, acc, hk1, hk2, rfl, hacc, hown, hb⟩ := hrel
    have hal := lebs_part hacc
    have Hacc := hide hacc; clear hacc
    by_cases h7 : -64 ≤ k ∧ k ≤ 63
    · go_wp2_with (at_builtin; refine wpList_push rfl _ _ _ rfl okU8 rfl hown _ rfl rfl (by simp [Value.oneCell']) (by unfold maxLen; omega) (by omega) hb.size ?_; intro v1 w1 hown1 hg1; have hcv := run_str_own Try.underlying22 Try.underlying5 Try.underlying9 (own_snoc hown1 (UInt8.ofNat (k % 128).toNat) (by rw [ofNat_toNat _ (by omega), u8_and_127i]; omega)))
      go_ret
      exact ⟨retS (by rw [← Hacc.out, lebs_small _ h7]), belowPush hb hown hb.size hg1⟩
    · go_wp2_with (at_builtin; refine wpList_push rfl _ _ _ rfl okU8 rfl hown _ rfl rfl (by simp [Value.oneCell']) (by unfold maxLen; omega) (by omega) hb.size ?_; intro v1 w1 hown1 hg1)
      all_goals
        go_roundw
        case rel => 
          refine ⟨k / 128, acc ++ [UInt8.ofNat ((k % 128).toNat + 128)], by omega, by omega, by simp, ?_, ?_, belowPush hb hown hb.size hg1⟩
          · rw [← Hacc.out, lebs_great k h7 hk1 hk2]; simp
          · have := own_snoc hown1 (UInt8.ofNat ((k % 128).toNat + 128)) (by rw [ofNat_toNat _ (by omega), u8_or_128i]; omega)
            simpa using this
        case measure => simp [intOf]; omega

set_option maxHeartbeats 1000000 in
theorem spec_PutS (n : Int) (h1 : -9223372036854775808 ≤ n) (h2 : n ≤ 9223372036854775807) (w : World) :
    Calls Try.prog 18 #[.int .i64 n] w fun e w' => e = .returned (.string ⟨(lebs n).toArray⟩) ∧ Below w.heap.size w w' := by
  go_enter Try.func18, Try.ntmps18
  go_wp2
  go_loopw [0, 3] (fun m v wr => ∃ (k : Int) (acc : List UInt8), -9223372036854775808 ≤ k ∧ k ≤ 9223372036854775807 ∧ m = .int .i64 k ∧ acc ++ lebs k = lebs n ∧ wr.ownsRow w.heap.size 5 1 v acc.length (bcells acc) ∧ Below w.heap.size w wr) (fun m _ _ => (intOf m).natAbs)
  case atStart => exact ⟨n, [], h1, h2, rfl, rfl, World.ownsRow_nil _ _ _ _, Below.refl _ _⟩
  case round =>
    obtain ⟨k, acc, hk1, hk2, rfl, hacc, hown, hb⟩ := hrel
    have hal := lebs_part hacc
    have Hacc := hide hacc; clear hacc
    have e1 := i64_and_127 k
    have e2 : 0 ≤ k % 128 := by omega
    have e3 : k % 128 ≤ 127 := by omega
    by_cases h7 : -64 ≤ k ∧ k ≤ 63
    · go_wp2_with (at_builtin; refine wpList_push rfl _ _ _ rfl okU8 rfl hown _ rfl rfl (by simp [Value.oneCell']) (by unfold maxLen; omega) (by omega) hb.size ?_; intro v1 w1 hown1 hg1; have hcv := run_str_own Try.underlying22 Try.underlying5 Try.underlying9 (own_snoc hown1 (UInt8.ofNat (k % 128).toNat) (by rw [ofNat_toNat _ (by omega)]; omega)))
      all_goals first
        | (exfalso; omega)
        | (go_ret
           exact ⟨retS (by rw [← Hacc.out, lebs_small _ h7]), belowPush hb hown hb.size hg1⟩)
    · go_wp2_with (at_builtin; refine wpList_push rfl _ _ _ rfl okU8 rfl hown _ rfl rfl (by simp [Value.oneCell']) (by unfold maxLen; omega) (by omega) hb.size ?_; intro v1 w1 hown1 hg1)
      all_goals first
        | (exfalso; omega)
        | (go_roundw
           case rel => 
             refine ⟨k / 128, acc ++ [UInt8.ofNat ((k % 128).toNat + 128)], by omega, by omega, congrArg (Value.int .i64) (by omega), ?_, ?_, belowPush hb hown hb.size hg1⟩
             · rw [← Hacc.out, lebs_great k h7 hk1 hk2]; simp
             · have := own_snoc hown1 (UInt8.ofNat ((k % 128).toNat + 128)) (by rw [ofNat_toNat _ (by omega)]; omega)
               simpa using this
           case measure => simp [intOf]; omega)

theorem spec_PutU (n : Nat) (hn : n < 18446744073709551616) (w : World) :
    Calls Try.prog 12 #[.int .u64 (n : Int)] w fun e w' => e = .returned (.string ⟨(leb n).toArray⟩) ∧ Below w.heap.size w w' := by
  go_enter Try.func12, Try.ntmps12
  go_wp2_with (go_at_call 64; refine (spec_l1PutU n hn _).mono ?_; rintro e w' ⟨rfl, hb⟩)
  go_ret
  exact ⟨rfl, hb⟩
theorem impl_PutU (n : Nat) (hn : n < 18446744073709551616) (w : World) :
    Calls Try.prog 10 #[.int .u64 (n : Int)] w fun e w' => e = .returned (.string ⟨(leb n).toArray⟩) ∧ Below w.heap.size w w' := by
  go_enter Try.func10, Try.ntmps10
  go_wp2_with (go_at_call 62; refine (impl_putU n hn _).mono ?_; rintro e w' ⟨rfl, hb⟩)
  go_ret
  exact ⟨rfl, hb⟩
theorem impl_PutS (n : Int) (h1 : -9223372036854775808 ≤ n) (h2 : n ≤ 9223372036854775807) (w : World) :
    Calls Try.prog 16 #[.int .i64 n] w fun e w' => e = .returned (.string ⟨(lebs n).toArray⟩) ∧ Below w.heap.size w w' := by
  go_enter Try.func16, Try.ntmps16
  go_wp2_with (go_at_call 67; refine (impl_putS n h1 h2 _).mono ?_; rintro e w' ⟨rfl, hb⟩)
  go_ret
  exact ⟨rfl, hb⟩
theorem spec_LongU (n : Nat) (hn : n < 18446744073709551616) (w : World) :
    Calls Try.prog 14 #[.int .u64 (n : Int)] w fun e w' => e = .returned (.int .i64 ((leb n).length : Int)) ∧ Below w.heap.size w w' := by
  go_enter Try.func14, Try.ntmps14
  go_wp2_with (go_at_call 64; refine (spec_l1PutU n hn _).mono ?_; rintro e w' ⟨rfl, hb⟩)
  go_ret
  exact ⟨retI (by simp [ByteArray.size]), hb⟩
theorem impl_LongU (n : Nat) (hn : n < 18446744073709551616) (w : World) :
    Calls Try.prog 13 #[.int .u64 (n : Int)] w fun e w' => e = .returned (.int .i64 ((leb n).length : Int)) ∧ Below w.heap.size w w' := by
  go_enter Try.func13, Try.ntmps13
  go_wp2_with (go_at_call 62; refine (impl_putU n hn _).mono ?_; rintro e w' ⟨rfl, hb⟩)
  go_ret
  exact ⟨retI (by simp [ByteArray.size]), hb⟩
end Go.Proofs.Ytheddnjhkcpmnaa
