
/- spec.ReadS, and FnExactReadS: the call returns true. No condition. -/
import Derived.Test.YtheddnjhkcpmnaaRs
import Derived.Test.YtheddnjhkcpmnaaLebL
set_option linter.unusedSimpArgs false
set_option linter.unusedVariables false
set_option maxRecDepth 100000
namespace Go.Proofs.Ytheddnjhkcpmnaa
open Go.RowKit

theorem i64_step (b : UInt8) (V T : Int) (h : T = ((b.toNat % 128 : Nat) : Int) + 128 * V) (hT : -9223372036854775808 ≤ T ∧ T ≤ 9223372036854775807) : wrap64 (V * 128 + wrap64 (bits .and .u8 (b.toNat : Int) 127)) = T := by
  have hb : b.toNat < 256 := UInt8.toNat_lt _
  have := u8_and_127i (b.toNat : Int)
  rw [show (b.toNat : Int) % 256 = (b.toNat : Int) by omega] at this
  rw [this]
  unfold wrap64
  omega

set_option maxHeartbeats 1600000 in
theorem spec_ReadS (s : ByteArray) (a : Int) (hs : s.size ≤ 9223372036854775807) (h1 : -9223372036854775808 ≤ a) (h2 : a ≤ 9223372036854775807) (w : World) :
    Calls Try.prog 21 #[.string s, .int .i64 a] w fun e w' => e = .returned (.tuple #[.int .i64 (rdS s a).1, .int .i64 (rdS s a).2.1, .int .i64 (rdS s a).2.2.1, .bool (rdS s a).2.2.2]) ∧ Below w.heap.size w w' := by
  rcases endF_ways s a with ⟨n, m, rfl, hnm, hk, hlt, hz, he, hlow, hall⟩ | h
  · have Hr := hide (rdS_ok s n m he (by omega) hlt)
    have hv := valS_bd s hnm hlt hk
    have hsg : sgn s m = if 64 ≤ s[m - 1].toNat then -1 else 0 := by unfold sgn; rw [lastOf_eq' s m (by omega) hlt]
    have hse : scan s.data.toList 10 n = (m, 0) := by
      unfold endF at he; rw [if_pos (by rw [size_eq]; omega)] at he; simpa using he
    have hc := fun w => spec_l1End s n hz (by omega) w
    rw [hse] at hc
    have hd : decide (n ≤ s.size) = true := by simp; omega
    have Hc := Lib.hid hc; clear hc he hall hse hlow
    by_cases k9 : m - n = 10 ∧ s[m - 1].toNat ≠ 0 ∧ s[m - 1].toNat ≠ 127
    · obtain ⟨k9, l0, l1⟩ := k9
      clear hv hsg
      have b0 : ((s[m - 1].toNat : Int) != 0) = true := by rw [bne_iff_ne]; omega
      have b1 : ((s[m - 1].toNat : Int) != 127) = true := by rw [bne_iff_ne]; omega
      go_enter Try.func21, Try.ntmps21
      go_wp2_with (first | (go_at_call 72; refine (Hc.out _).mono ?_; rintro e w' ⟨rfl, rfl⟩) | (go_at_call 71; go_in) | (go_at_call 81; go_in))
      refine bodyPost_ret (results4 rfl _ _ _) rfl ?_
      refine ⟨retRS ?_, Below.refl _ _⟩
      rw [Hr.out]
      simp [k9, l0, l1]
    · have hv := hv k9
      have hq : lebs (valS s n m) ≠ part s n m → (lebs (valS s n m) == (s.extract n m).toList) = false := by
        intro h; rw [extract_eq, beq_eq_false_iff_ne]; simpa using h
      have hp : ¬ lebs (valS s n m) ≠ part s n m → ∀ w, Calls Try.prog 18 #[.int .i64 (valS s n m)] w fun e w' => e = .returned (.string (s.extract n m)) ∧ Below w.heap.size w w' := by
        intro h w
        rw [extract_eq, ← Decidable.not_not.1 h]
        exact spec_PutS (valS s n m) hv.1 hv.2 w
      have hp0 := fun w => spec_PutS (valS s n m) hv.1 hv.2 w
      have Hq := hide hq; clear hq
      have Hp := hide hp; clear hp
      have Hp0 := hide hp0; clear hp0
      have Hv := hide hv; clear hv
      have cs : (m - n = 10 ∧ s[m - 1].toNat = 0) ∨ (m - n = 10 ∧ s[m - 1].toNat = 127) ∨ (m - n ≠ 10 ∧ 64 ≤ s[m - 1].toNat) ∨ (m - n ≠ 10 ∧ s[m - 1].toNat < 64) := by omega
      have Hsg := hide hsg; clear hsg
      have Hk9 := hide k9; clear k9
      rcases cs with ⟨k10, l0⟩ | ⟨k10, l0⟩ | ⟨k10, l0⟩ | ⟨k10, l0⟩
      rotate_left 2
      have hb64 : decide (64 ≤ (s[m - 1].toNat : Int)) = true := by simp; omega
      all_goals
        go_enter Try.func21, Try.ntmps21
        go_wp2_with (first | (go_at_call 72; refine (Hc.out _).mono ?_; rintro e w' ⟨rfl, rfl⟩) | (go_at_call 71; go_in) | (go_at_call 81; go_in))
        go_loop [10, 11] (fun v i => ∃ q : Int, (n : Int) - 1 ≤ q ∧ q ≤ (m : Int) - 1 ∧ i = .int .i64 q ∧ v = .int .i64 (valS s (q + 1).toNat m)) (fun _ i => (intOf i + 1).toNat)
        case atStart => exact ⟨(m : Int) - 1, by omega, by omega, rfl, by rw [show ((m : Int) - 1 + 1).toNat = m by omega, valS_end, Hsg.out]; first | rw [if_pos (by omega)] | rw [if_neg (by omega)]⟩
        case round =>
          obtain ⟨q, hq1, hq2, rfl, rfl⟩ := hrel
          by_cases hq : (n : Int) ≤ q
          · obtain ⟨j, rfl⟩ := Int.eq_ofNat_of_zero_le (show 0 ≤ q by omega)
            rw [show ((j : Int) + 1).toNat = j + 1 by omega]
            have hst := sv_step s (k := j) (m := m) (by omega) hlt
            have hbd := valS_part s (n := n) (j := j) (m := m) (by omega) (by omega) hlt Hv.out
            generalize valS s (j + 1) m = V at *
            obtain ⟨hT, hT0⟩ : V ≤ 72057594037927935 ∧ -72057594037927936 ≤ V := by omega
            have Hst := hide hst; have Hbd := hide hbd; clear hst hbd
            go_wp2
            go_round
            have HF : ∃ q : Int, (n : Int) - 1 ≤ q ∧ q ≤ (m : Int) - 1 ∧ Value.int .i64 ((j : Int) - 1) = .int .i64 q ∧ Value.int .i64 (wrap64 (V * 128 + wrap64 (bits .and .u8 (s[j].toNat : Int) 127))) = .int .i64 (valS s (q + 1).toNat m) := ⟨(j : Int) - 1, by omega, by omega, rfl, congrArg (Value.int .i64) (by rw [show ((j : Int) - 1 + 1).toNat = j by omega]; exact i64_step _ _ _ Hst.out Hbd.out)⟩
            case rel => first | exact HF | (refine ⟨trivial, ?_⟩; (repeat apply Exists.intro); exact ⟨HF, rfl⟩)
            case measure => (simp [intOf]; try omega)
          · rw [show (q + 1).toNat = n by omega]
            by_cases g : lebs (valS s n m) ≠ part s n m
            · have hne := Hq.out g
              have Hg := hide g; clear g
              generalize valS s n m = V at *
              go_wp2_with fail
              go_region_with (go_at_call 18; refine (Hp0.out _).mono ?_; rintro e w' ⟨rfl, hb⟩)
              all_goals
                go_wp2
                refine bodyPost_ret (results4 rfl _ _ _) rfl ?_
                refine ⟨retRS ?_, ?_⟩
                · rw [Hr.out, if_neg Hk9.out, if_pos Hg.out]; rfl
                · first | exact hb | exact ((Below.refl _ _).drew).trans hb
            · have Hp := hide (Hp.out g)
              have Hg := hide g; clear g
              generalize valS s n m = V at *
              go_wp2_with fail
              go_region_with (go_at_call 18; refine (Hp.out _).mono ?_; rintro e w' ⟨rfl, hb⟩)
              all_goals
                go_wp2
                refine bodyPost_ret (results4 rfl _ _ _) rfl ?_
                refine ⟨retRS ?_, ?_⟩
                · rw [Hr.out, if_neg Hk9.out, if_neg Hg.out]; rfl
                · first | exact hb | exact ((Below.refl _ _).drew).trans hb
  · rcases h with ⟨he, hbad⟩ | ⟨hc0, hz, ha0, hat⟩
    · have Hr := hide (rdS_code s a he (by decide))
      clear he
      by_cases g1 : s.size ≤ 2000 <;> by_cases g2 : 0 ≤ a <;> by_cases g3 : a ≤ s.size
      all_goals first
        | (exfalso; omega)
        | (clear hbad
           go_enter Try.func21, Try.ntmps21
           go_wp2
           all_goals
             refine bodyPost_ret (results4 rfl _ _ _) rfl ?_
             refine ⟨retRS ?_, Below.refl _ _⟩
             rw [Hr.out]
             rfl)
    · obtain ⟨n, rfl⟩ := Int.eq_ofNat_of_zero_le ha0
      have hr : ∃ c : Nat, 0 < c ∧ endF s.data.toList n = (0, c) := by
        rcases hc0 with h | h
        · exact ⟨2, by decide, h⟩
        · exact ⟨3, by decide, h⟩
      obtain ⟨c, hc1, he⟩ := hr
      have Hr := hide (rdS_code s n he (by omega))
      have hse : scan s.data.toList 10 n = (0, c) := by
        unfold endF at he; rw [if_pos (by rw [size_eq]; omega)] at he; simpa using he
      have hc := fun w => spec_l1End s n hz (by omega) w
      rw [hse] at hc
      have Hc := Lib.hid hc; clear hc he hse hc0
      have hd : decide (n ≤ s.size) = true := by simp; omega
      go_enter Try.func21, Try.ntmps21
      go_wp2_with (first | (go_at_call 72; refine (Hc.out _).mono ?_; rintro e w' ⟨rfl, rfl⟩) | (go_at_call 71; go_in) | (go_at_call 81; go_in))
      refine bodyPost_ret (results4 rfl _ _ _) rfl ?_
      refine ⟨retRS ?_, Below.refl _ _⟩
      rw [Hr.out]
      rfl

theorem impl_ReadS (s : ByteArray) (a : Int) (hs : s.size ≤ 9223372036854775807) (h1 : -9223372036854775808 ≤ a) (h2 : a ≤ 9223372036854775807) (w : World) :
    Calls Try.prog 17 #[.string s, .int .i64 a] w fun e w' => e = .returned (.tuple #[.int .i64 (rdS s a).1, .int .i64 (rdS s a).2.1, .int .i64 (rdS s a).2.2.1, .bool (rdS s a).2.2.2]) ∧ Below w.heap.size w w' := by
  go_enter Try.func17, Try.ntmps17
  go_wp2_with (go_at_call 68; refine (impl_readS s a hs h1 h2 _).mono ?_; rintro e w' ⟨rfl, hb⟩)
  refine bodyPost_ret (results4 rfl _ _ _) rfl ?_
  exact ⟨rfl, hb⟩

end Go.Proofs.Ytheddnjhkcpmnaa
