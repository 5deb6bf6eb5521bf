
/- spec.ReadU: what the Go text returns. No condition. -/
import Derived.Test.YtheddnjhkcpmnaaRd
import Derived.Deep.Light
import Derived.Handy
import Derived.Deep.RegionWith
set_option linter.unusedSimpArgs false
set_option linter.unusedVariables false
set_option maxRecDepth 100000
namespace Go.Proofs.Ytheddnjhkcpmnaa
open Go.RowKit

theorem valU_step (s : ByteArray) {k m : Nat} (hk : k < m) (hm : m ≤ s.size) : valU (part s k m) = (s[k]'(by omega)).toNat % 128 + 128 * valU (part s (k + 1) m) := by
  rw [part_cons s hk (by omega)]; rfl

set_option maxHeartbeats 1600000 in
theorem spec_ReadU (s : ByteArray) (a : Int) (hs : s.size ≤ 9223372036854775807) (h1 : -9223372036854775808 ≤ a) (h2 : a ≤ 9223372036854775807) (w : World) :
    Calls Try.prog 20 #[.string s, .int .i64 a] w fun e w' => e = .returned (.tuple #[.int .u64 (rdU s a).1, .int .i64 (rdU s a).2.1, .int .i64 (rdU s a).2.2.1, .bool (rdU s a).2.2.2]) ∧ Below w.heap.size w w' := by
  rcases endF_ways s a with ⟨n, m, rfl, hnm, hk, hlt, hz, he, hlow, hall⟩ | h
  · have hen := enc_part s (m - n - 1) n m (by omega) hlt hlow hall
    have Hr := hide (rdU_ok s n m he (by omega) hlt)
    have hv := valU_64 s hnm hlt hk
    have hse : scan s.data.toList 10 n = (m, 0) := by
      unfold endF at he; rw [if_pos (by rw [size_eq]; omega)] at he; simpa using he
    have hc := fun w => spec_l1End s n hz (by omega) w
    have hd : decide (n ≤ s.size) = true := by simp; omega
    rw [hse] at hc
    have Hc := Lib.hid hc; clear hc he hall hlow hse
    by_cases k9 : m - n = 10 ∧ 1 < s[m - 1].toNat
    · obtain ⟨k9, l1⟩ := k9
      clear hv
      go_enter Try.func20, Try.ntmps20
      go_wp2_with (first | (go_at_call 72; refine (Hc.out _).mono ?_; rintro e w' ⟨rfl, rfl⟩) | (go_at_call 71; go_in) | (go_at_call 81; go_in))
      refine bodyPost_ret (results4 rfl _ _ _) rfl ?_
      refine ⟨retR ?_, Below.refl _ _⟩
      rw [Hr.out]
      simp [k9, l1]
    · have hv := hv k9
      have l1 : m - n = 10 → (s[m - 1].toNat : Int) ≤ 1 := by omega
      by_cases k10 : m - n = 10
      all_goals
        try have l1 := l1 k10
        have Hv := hide hv; clear hv
        go_enter Try.func20, Try.ntmps20
        go_wp2_with (first | (go_at_call 72; refine (Hc.out _).mono ?_; rintro e w' ⟨rfl, rfl⟩) | (go_at_call 71; go_in) | (go_at_call 81; go_in))
        go_loop [10, 11] (fun v i => ∃ q : Int, (n : Int) - 1 ≤ q ∧ q ≤ (m : Int) - 1 ∧ i = .int .i64 q ∧ v = .int .u64 ((valU (part s (q + 1).toNat m) : Nat) : Int)) (fun _ i => (intOf i + 1).toNat)
        case atStart => exact ⟨(m : Int) - 1, by omega, by omega, rfl, by rw [show ((m : Int) - 1 + 1).toNat = m by omega, part_nil]; rfl⟩
        case round =>
          obtain ⟨q, hq1, hq2, rfl, rfl⟩ := hrel
          by_cases hq : (n : Int) ≤ q
          · obtain ⟨j, rfl⟩ := Int.eq_ofNat_of_zero_le (show 0 ≤ q by omega)
            rw [show ((j : Int) + 1).toNat = j + 1 by omega]
            have hst := valU_step s (k := j) (m := m) (by omega) hlt
            have hle := valU_part_le s (n := n) (j := j) (m := m) (by omega) (by omega) hlt
            have hvb := Hv.out
            generalize valU (part s (j + 1) m) = V at *
            obtain ⟨hT, hT0⟩ : (V : Int) ≤ 144115188075855871 ∧ 0 ≤ (V : Int) := by omega
            have Hst := hide hst; clear hst hvb hle
            go_wp2
            go_round
            case rel => exact ⟨(j : Int) - 1, by omega, by omega, rfl, congrArg (Value.int .u64) (by rw [show ((j : Int) - 1 + 1).toNat = j by omega]; exact u64_step _ _ _ Hst.out hT)⟩
            case measure => (simp [intOf]; try omega)
          · rw [show (q + 1).toNat = n by omega]
            by_cases h0 : 1 < m - n ∧ s[m - 1].toNat = 0
            · have hne := canon_no s hnm hlt Hv.out h0
              have hp := fun w => spec_l1PutU (valU (part s n m)) Hv.out w
              generalize valU (part s n m) = V at *
              have Hp := Lib.hid hp; clear hp
              have hq : (leb V == (s.extract n m).toList) = false := by rw [extract_eq, beq_eq_false_iff_ne]; simpa using hne
              clear hne
              go_wp2_with fail
              go_region_with (go_at_call 64; refine (Hp.out _).mono ?_; rintro e w' ⟨rfl, hb⟩)
              all_goals
                go_wp2
                refine bodyPost_ret (results4 rfl _ _ _) rfl ?_
                refine ⟨retR ?_, ?_⟩
                · rw [Hr.out]
                  simp [k10, h0]
                · first | exact hb | exact ((Below.refl _ _).drew).trans hb
            · have hye := canon_yes s hnm hk hlt hen h0
              have hp := fun w => spec_l1PutU (valU (part s n m)) Hv.out w
              rw [hye, ← extract_eq] at hp
              clear hye
              generalize valU (part s n m) = V at *
              have Hp := Lib.hid hp; clear hp
              go_wp2_with fail
              go_region_with (go_at_call 64; refine (Hp.out _).mono ?_; rintro e w' ⟨rfl, hb⟩)
              all_goals
                go_wp2
                refine bodyPost_ret (results4 rfl _ _ _) rfl ?_
                refine ⟨retR ?_, ?_⟩
                · rw [Hr.out]
                  simp [k9, h0]
                · first | exact hb | exact ((Below.refl _ _).drew).trans hb
  · rcases h with ⟨he, hbad⟩ | ⟨hc0, hz, ha0, hat⟩
    · have Hr := hide (rdU_code s a he (by decide))
      clear he
      by_cases g1 : s.size ≤ 2000 <;> by_cases g2 : 0 ≤ a <;> by_cases g3 : a ≤ s.size
      all_goals first
        | (exfalso; omega)
        | (clear hbad
           go_enter Try.func20, Try.ntmps20
           go_wp2
           all_goals
             refine bodyPost_ret (results4 rfl _ _ _) rfl ?_
             refine ⟨retR ?_, Below.refl _ _⟩
             rw [Hr.out]
             rfl)
    · obtain ⟨n, rfl⟩ := Int.eq_ofNat_of_zero_le ha0
      have hr : ∃ c : Nat, 0 < c ∧ endF s.data.toList n = (0, c) := by
        rcases hc0 with h | h
        · exact ⟨2, by decide, h⟩
        · exact ⟨3, by decide, h⟩
      obtain ⟨c, hc1, he⟩ := hr
      have Hr := hide (rdU_code s n he (by omega))
      have hse : scan s.data.toList 10 n = (0, c) := by
        unfold endF at he; rw [if_pos (by rw [size_eq]; omega)] at he; simpa using he
      have hc := fun w => spec_l1End s n hz (by omega) w
      rw [hse] at hc
      have Hc := Lib.hid hc; clear hc he hse hc0
      have hd : decide (n ≤ s.size) = true := by simp; omega
      go_enter Try.func20, Try.ntmps20
      go_wp2_with (first | (go_at_call 72; refine (Hc.out _).mono ?_; rintro e w' ⟨rfl, rfl⟩) | (go_at_call 71; go_in) | (go_at_call 81; go_in))
      refine bodyPost_ret (results4 rfl _ _ _) rfl ?_
      refine ⟨retR ?_, Below.refl _ _⟩
      rw [Hr.out]
      rfl
end Go.Proofs.Ytheddnjhkcpmnaa
