
/- ReadU, ReadS: what the Go text returns. No condition. -/
import Derived.Test.YtheddnjhkcpmnaaRdP
import Derived.Test.YtheddnjhkcpmnaaLebP
import Derived.Deep.Light
import Derived.Handy
import Derived.Deep.RegionWith
set_option linter.unusedSimpArgs false
set_option linter.unusedVariables false
set_option maxRecDepth 100000
namespace Go.Proofs.Ytheddnjhkcpmnaa
open Go.RowKit

theorem retII {p : Nat × Nat} {a b : Int} (h : ((p.1 : Int), (p.2 : Int)) = (a, b)) : Ending.returned (.tuple #[.int .i64 a, .int .i64 b]) = .returned (.tuple #[.int .i64 p.1, .int .i64 p.2]) := by
  injection h with h1 h2; rw [h1, h2]

set_option maxHeartbeats 400000 in
theorem impl_lebEnd (s : ByteArray) (a : Int) (hs : s.size ≤ 9223372036854775807) (h1 : -9223372036854775808 ≤ a) (h2 : a ≤ 9223372036854775807) (w : World) :
    Calls Try.prog 110 #[.string s, .int .i64 a] w fun e w' => e = .returned (.tuple #[.int .i64 (endF s.data.toList a).1, .int .i64 (endF s.data.toList a).2]) ∧ w = w' := by
  have hl := size_eq s
  by_cases g1 : s.size ≤ 2000 <;> by_cases g2 : 0 ≤ a <;> by_cases g3 : a ≤ s.size
  · obtain ⟨n, rfl⟩ := Int.eq_ofNat_of_zero_le g2
    have e : endF s.data.toList n = scan s.data.toList 10 n := by unfold endF; rw [if_pos (by omega)]; simp
    rw [e]
    clear e h1 h2 hl
    go_enter Try.func110, Try.ntmps110
    go_wp2
    go_loop [6] (fun i => ∃ k : Nat, k ≤ s.size ∧ n ≤ k ∧ k ≤ n + 10 ∧ i = .int .i64 k ∧ scan s.data.toList (n + 10 - k) k = scan s.data.toList 10 n) (fun i => n + 10 - (intOf i).toNat)
    case atStart => exact ⟨n, by omega, by omega, by omega, rfl, by rw [show n + 10 - n = 10 by omega]⟩
    case round =>
      obtain ⟨k, hk1, hk2, hk3, rfl, hsc⟩ := hrel
      have Hsc := hide hsc; clear hsc
      by_cases k1 : k < s.size <;> by_cases k2 : k < n + 10
      · by_cases k3 : s[k].toNat < 128
        · have Hf := hide (scan_lowB s k2 k1 k3 Hsc.out)
          clear Hsc
          go_wp2
          go_ret2
          exact ⟨by rw [Hf.out]; rfl, rfl⟩
        · have Hf := hide (scan_highB s k2 k1 (by omega) Hsc.out)
          clear Hsc
          go_wp2
          go_round
          case rel => exact ⟨k + 1, by omega, by omega, by omega, by go_num, Hf.out⟩
          case measure => simp [intOf]; omega
      · have Hf := hide (scan_tenB s (by omega) Hsc.out)
        clear Hsc
        have g5 : n + 10 ≤ s.size := by omega
        go_wp2
        go_ret2
        exact ⟨by rw [Hf.out]; rfl, rfl⟩
      · have Hf := hide (scan_outB s k2 (by omega) Hsc.out)
        clear Hsc
        have g5 : ¬ n + 10 ≤ s.size := by omega
        go_wp2
        go_ret2
        exact ⟨by rw [Hf.out]; rfl, rfl⟩
      · have Hf := hide (scan_tenB s (by omega) Hsc.out)
        clear Hsc
        have g5 : n + 10 ≤ s.size := by omega
        go_wp2
        go_ret2
        exact ⟨by rw [Hf.out]; rfl, rfl⟩
  all_goals
    have Hf : Hid (endF s.data.toList a = (0, 1)) := by unfold Hid endF; rw [if_neg (by omega)]
    clear hl
    go_enter Try.func110, Try.ntmps110
    go_wp2
    all_goals (go_ret2; exact ⟨by rw [Hf.out]; rfl, rfl⟩)

set_option maxHeartbeats 400000 in
theorem spec_l1End (s : ByteArray) (n : Nat) (hs : s.size ≤ 2000) (hn : n ≤ s.size) (w : World) :
    Calls Try.prog 72 #[.string s, .int .i64 (n : Int)] w fun e w' => e = .returned (.tuple #[.int .i64 (scan s.data.toList 10 n).1, .int .i64 (scan s.data.toList 10 n).2]) ∧ w = w' := by
  go_enter Try.func72, Try.ntmps72
  go_wp2
  go_loop [6] (fun i => ∃ k : Nat, k ≤ 9 ∧ n + k ≤ s.size ∧ i = .int .i64 k ∧ scan s.data.toList (n + 10 - (n + k)) (n + k) = scan s.data.toList 10 n) (fun i => 10 - (intOf i).toNat)
  case atStart => exact ⟨0, by omega, by omega, rfl, by simp [show n + 10 - n = 10 by omega]⟩
  case round =>
    obtain ⟨k, hk1, hk2, rfl, hsc⟩ := hrel
    have Hsc := hide hsc; clear hsc
    by_cases k1 : n + k < s.size
    · by_cases k3 : s[n + k].toNat < 128
      · have Hf := hide (scan_lowB s (by omega) k1 k3 Hsc.out)
        clear Hsc
        go_wp2
        go_ret2
        exact ⟨by rw [Hf.out]; rfl, rfl⟩
      · have Hf := hide (scan_highB s (by omega) k1 (by omega) Hsc.out)
        clear Hsc
        by_cases k4 : k = 9
        · have Hg := hide (scan_tenB s (k := n + 10) rfl (by subst k4; exact Hf.out))
          subst k4
          go_wp2
          go_ret2
          exact ⟨by rw [Hg.out]; rfl, rfl⟩
        · go_wp2
          go_round
          case rel => exact ⟨k + 1, by omega, by omega, by go_num, Hf.out⟩
          case measure => simp [intOf]; omega
    · have Hf := hide (scan_outB s (by omega) (by omega) Hsc.out)
      clear Hsc
      obtain rfl : k = s.size - n := by omega
      go_wp2
      go_ret2
      exact ⟨by rw [Hf.out]; rfl, rfl⟩

set_option maxHeartbeats 400000 in
theorem impl_lebBits (s : ByteArray) (n m : Nat) (hn : n ≤ m) (hm : m ≤ s.size) (hm2 : m ≤ n + 10) (hs : s.size ≤ 2000) (w : World) :
    Calls Try.prog 111 #[.string s, .int .i64 (n : Int), .int .i64 (m : Int)] w fun e w' => e = .returned (.int .u64 ((valU (part s n m) : Int) % 18446744073709551616)) ∧ w = w' := by
  go_enter Try.func111, Try.ntmps111
  go_wp2

  go_loop [7, 8] (fun v i => ∃ k : Nat, n ≤ k ∧ k ≤ m ∧ i = .int .i64 k ∧ v = .int .u64 ((valU (part s n k) : Int) % 18446744073709551616)) (fun _ i => m - (intOf i).toNat)
  case atStart => exact ⟨n, by omega, by omega, rfl, by simp [part_nil, valU]⟩
  case round =>
    obtain ⟨k, hk1, hk2, rfl, rfl⟩ := hrel
    by_cases k1 : k < m
    · go_wp2
      go_round
      case rel => exact ⟨k + 1, by omega, by omega, by go_num, congrArg (Value.int .u64) (lebBits_step s hk1 (by omega) (by omega))⟩
      case measure => simp [intOf]; omega
    · obtain rfl : k = m := by omega
      go_wp2
      go_ret
      exact ⟨rfl, rfl⟩

theorem retR {r : Nat × Nat × Nat × Bool} {a b c : Int} {d : Bool} (h : ((r.1 : Int), (r.2.1 : Int), (r.2.2.1 : Int), r.2.2.2) = (a, b, c, d)) :
    Ending.returned (.tuple #[.int .u64 a, .int .i64 b, .int .i64 c, .bool d]) = .returned (.tuple #[.int .u64 r.1, .int .i64 r.2.1, .int .i64 r.2.2.1, .bool r.2.2.2]) := by
  simp only [Prod.mk.injEq] at h
  obtain ⟨h1, h2, h3, h4⟩ := h
  rw [h1, h2, h3, h4]

set_option maxHeartbeats 400000 in
theorem impl_readU (s : ByteArray) (a : Int) (hs : s.size ≤ 9223372036854775807) (h1 : -9223372036854775808 ≤ a) (h2 : a ≤ 9223372036854775807) (w : World) :
    Calls Try.prog 63 #[.string s, .int .i64 a] w fun e w' => e = .returned (.tuple #[.int .u64 (rdU s a).1, .int .i64 (rdU s a).2.1, .int .i64 (rdU s a).2.2.1, .bool (rdU s a).2.2.2]) ∧ w = w' := by
  have hc := fun w => impl_lebEnd s a hs h1 h2 w
  rcases endF_ways s a with ⟨n, m, rfl, hnm, hk, hlt, hz, he, hlow, hall⟩ | h
  · have Hr := hide (rdU_ok s n m he (by omega) hlt)
    have hv := valU_64 s hnm hlt hk
    rw [he] at hc
    have hb := fun w => impl_lebBits s n m (by omega) (by omega) (by omega) hz w
    have Hb := Lib.hid hb; clear hb
    have Hc := Lib.hid hc; clear hc he hall hlow
    by_cases k9 : m - n = 10 <;> by_cases k0 : 1 < m - n <;> by_cases l1 : 1 < s[m - 1].toNat <;> by_cases l0 : s[m - 1].toNat = 0
    all_goals first
      | (exfalso; omega)
      | (have Hv := hide (fun h => Int.emod_eq_of_lt (Int.natCast_nonneg _) (Int.ofNat_lt.2 (hv h)))
         clear hv
         go_enter Try.func63, Try.ntmps63
         go_wp2_with (first
           | (go_at_call 110; refine (Hc.out _).mono ?_; rintro e w' ⟨rfl, rfl⟩)
           | (go_at_call 111; refine (Hb.out _).mono ?_; rintro e w' ⟨rfl, rfl⟩))
         refine bodyPost_ret (results4 rfl _ _ _) rfl ?_
         refine ⟨retR ?_, rfl⟩
         rw [Hr.out]
         first
           | (simp [k9, k0, l1, l0]; done)
           | (simp [k9, k0, l1, l0]; exact (Hv.out (by omega)).symm))
  · have hr : ∃ c : Nat, c ≠ 0 ∧ endF s.data.toList a = (0, c) := by
      rcases h with ⟨h, _⟩ | ⟨h | h, _⟩
      · exact ⟨1, by decide, h⟩
      · exact ⟨2, by decide, h⟩
      · exact ⟨3, by decide, h⟩
    obtain ⟨c, hc0, he⟩ := hr
    have Hr := hide (rdU_code s a he hc0)
    rw [he] at hc
    have Hc := Lib.hid hc; clear hc he h
    have hc1 : ((c : Int) != 0) = true := by rw [bne_iff_ne]; omega
    go_enter Try.func63, Try.ntmps63
    go_wp2_with (go_at_call 110; refine (Hc.out _).mono ?_; rintro e w' ⟨rfl, rfl⟩)
    refine bodyPost_ret (results4 rfl _ _ _) rfl ?_
    refine ⟨retR ?_, rfl⟩
    rw [Hr.out]
    rfl

end Go.Proofs.Ytheddnjhkcpmnaa
