
/- impl.ReadRows, spec.ReadRows: what the Go text returns. No condition. -/
import Derived.Test.YtheddnjhkcpmnaaRrW
import Derived.Test.YtheddnjhkcpmnaaIn
import Derived.Test.YtheddnjhkcpmnaaRd
import Derived.Deep.Light
import Derived.Handy
import Derived.Deep.RegionWith
import Derived.Test.YtheddnjhkcpmnaaRs
import Derived.Test.YtheddnjhkcpmnaaLebP
set_option linter.unusedSimpArgs false
set_option linter.unusedVariables false
set_option maxRecDepth 100000
namespace Go.Proofs.Ytheddnjhkcpmnaa
open Go.RowKit

theorem bd_i64 {a : Int} (h : (Lit.int .i64 a).wf = true) : -9223372036854775808 ≤ a ∧ a ≤ 9223372036854775807 := by
  simp [Lit.wf, IntKind.min, IntKind.max, IntKind.bits, IntKind.signed] at h; omega
theorem bd_u64 {a : Int} (h : (Lit.int .u64 a).wf = true) : 0 ≤ a ∧ a ≤ 18446744073709551615 := by
  simp [Lit.wf, IntKind.min, IntKind.max, IntKind.bits, IntKind.signed] at h; omega

end Go.Proofs.Ytheddnjhkcpmnaa
set_option linter.unusedSimpArgs false
set_option linter.unusedVariables false
set_option maxRecDepth 100000
namespace Go.Proofs.Ytheddnjhkcpmnaa
open Go.RowKit

theorem i64_step (b : UInt8) (V T : Int) (h : T = ((b.toNat % 128 : Nat) : Int) + 128 * V) (hT : -9223372036854775808 ≤ T ∧ T ≤ 9223372036854775807) : wrap64 (V * 128 + wrap64 (bits .and .u8 (b.toNat : Int) 127)) = T := by
  have hb : b.toNat < 256 := UInt8.toNat_lt _
  have := u8_and_127i (b.toNat : Int)
  rw [show (b.toNat : Int) % 256 = (b.toNat : Int) by omega] at this
  rw [this]
  unfold wrap64
  omega

set_option maxHeartbeats 1600000 in
theorem spec_ReadS (s : ByteArray) (a : Int) (hs : s.size ≤ 9223372036854775807) (h1 : -9223372036854775808 ≤ a) (h2 : a ≤ 9223372036854775807) (w : World) :
    Calls Try.prog 21 #[.string s, .int .i64 a] w fun e w' => e = .returned (.tuple #[.int .i64 (rdS s a).1, .int .i64 (rdS s a).2.1, .int .i64 (rdS s a).2.2.1, .bool (rdS s a).2.2.2]) ∧ Below w.heap.size w w' := by
  rcases endF_ways s a with ⟨n, m, rfl, hnm, hk, hlt, hz, he, hlow, hall⟩ | h
  · have Hr := hide (rdS_ok s n m he (by omega) hlt)
    have hv := valS_bd s hnm hlt hk
    have hsg : sgn s m = if 64 ≤ s[m - 1].toNat then -1 else 0 := by unfold sgn; rw [lastOf_eq' s m (by omega) hlt]
    have hse : scan s.data.toList 10 n = (m, 0) := by
      unfold endF at he; rw [if_pos (by rw [size_eq]; omega)] at he; simpa using he
    have hc := fun w => spec_l1End s n hz (by omega) w
    rw [hse] at hc
    have hd : decide (n ≤ s.size) = true := by simp; omega
    have Hc := Lib.hid hc; clear hc he hall hse hlow
    by_cases k9 : m - n = 10 ∧ s[m - 1].toNat ≠ 0 ∧ s[m - 1].toNat ≠ 127
    · obtain ⟨k9, l0, l1⟩ := k9
      clear hv hsg
      have b0 : ((s[m - 1].toNat : Int) != 0) = true := by rw [bne_iff_ne]; omega
      have b1 : ((s[m - 1].toNat : Int) != 127) = true := by rw [bne_iff_ne]; omega
      go_enter Try.func21, Try.ntmps21
      go_wp2_with (first | (go_at_call 72; refine (Hc.out _).mono ?_; rintro e w' ⟨rfl, rfl⟩) | (go_at_call 71; go_in) | (go_at_call 81; go_in))
      refine bodyPost_ret (results4 rfl _ _ _) rfl ?_
      refine ⟨retRS ?_, Below.refl _ _⟩
      rw [Hr.out]
      simp [k9, l0, l1]
    · have hv := hv k9
      have hq : lebs (valS s n m) ≠ part s n m → (lebs (valS s n m) == (s.extract n m).toList) = false := by
        intro h; rw [extract_eq, beq_eq_false_iff_ne]; simpa using h
      have hp : ¬ lebs (valS s n m) ≠ part s n m → ∀ w, Calls Try.prog 18 #[.int .i64 (valS s n m)] w fun e w' => e = .returned (.string (s.extract n m)) ∧ Below w.heap.size w w' := by
        intro h w
        rw [extract_eq, ← Decidable.not_not.1 h]
        exact spec_PutS (valS s n m) hv.1 hv.2 w
      have hp0 := fun w => spec_PutS (valS s n m) hv.1 hv.2 w
      have Hq := hide hq; clear hq
      have Hp := hide hp; clear hp
      have Hp0 := hide hp0; clear hp0
      have Hv := hide hv; clear hv
      have cs : (m - n = 10 ∧ s[m - 1].toNat = 0) ∨ (m - n = 10 ∧ s[m - 1].toNat = 127) ∨ (m - n ≠ 10 ∧ 64 ≤ s[m - 1].toNat) ∨ (m - n ≠ 10 ∧ s[m - 1].toNat < 64) := by omega
      have Hsg := hide hsg; clear hsg
      have Hk9 := hide k9; clear k9
      rcases cs with ⟨k10, l0⟩ | ⟨k10, l0⟩ | ⟨k10, l0⟩ | ⟨k10, l0⟩
      rotate_left 2
      have hb64 : decide (64 ≤ (s[m - 1].toNat : Int)) = true := by simp; omega
      all_goals
        go_enter Try.func21, Try.ntmps21
        go_wp2_with (first | (go_at_call 72; refine (Hc.out _).mono ?_; rintro e w' ⟨rfl, rfl⟩) | (go_at_call 71; go_in) | (go_at_call 81; go_in))
        go_loop [10, 11] (fun v i => ∃ q : Int, (n : Int) - 1 ≤ q ∧ q ≤ (m : Int) - 1 ∧ i = .int .i64 q ∧ v = .int .i64 (valS s (q + 1).toNat m)) (fun _ i => (intOf i + 1).toNat)
        case atStart => exact ⟨(m : Int) - 1, by omega, by omega, rfl, by rw [show ((m : Int) - 1 + 1).toNat = m by omega, valS_end, Hsg.out]; first | rw [if_pos (by omega)] | rw [if_neg (by omega)]⟩
        case round =>
          obtain ⟨q, hq1, hq2, rfl, rfl⟩ := hrel
          by_cases hq : (n : Int) ≤ q
          · obtain ⟨j, rfl⟩ := Int.eq_ofNat_of_zero_le (show 0 ≤ q by omega)
            rw [show ((j : Int) + 1).toNat = j + 1 by omega]
            have hst := sv_step s (k := j) (m := m) (by omega) hlt
            have hbd := valS_part s (n := n) (j := j) (m := m) (by omega) (by omega) hlt Hv.out
            generalize valS s (j + 1) m = V at *
            obtain ⟨hT, hT0⟩ : V ≤ 72057594037927935 ∧ -72057594037927936 ≤ V := by omega
            have Hst := hide hst; have Hbd := hide hbd; clear hst hbd
            go_wp2
            go_round
            have HF : ∃ q : Int, (n : Int) - 1 ≤ q ∧ q ≤ (m : Int) - 1 ∧ Value.int .i64 ((j : Int) - 1) = .int .i64 q ∧ Value.int .i64 (wrap64 (V * 128 + wrap64 (bits .and .u8 (s[j].toNat : Int) 127))) = .int .i64 (valS s (q + 1).toNat m) := ⟨(j : Int) - 1, by omega, by omega, rfl, congrArg (Value.int .i64) (by rw [show ((j : Int) - 1 + 1).toNat = j by omega]; exact i64_step _ _ _ Hst.out Hbd.out)⟩
            case rel => first | exact HF | (refine ⟨trivial, ?_⟩; (repeat apply Exists.intro); exact ⟨HF, rfl⟩)
            case measure => (simp [intOf]; try omega)
          · rw [show (q + 1).toNat = n by omega]
            by_cases g : lebs (valS s n m) ≠ part s n m
            · have hne := Hq.out g
              have Hg := hide g; clear g
              generalize valS s n m = V at *
              go_wp2_with fail
              go_region_with (go_at_call 18; refine (Hp0.out _).mono ?_; rintro e w' ⟨rfl, hb⟩)
              all_goals
                go_wp2
                refine bodyPost_ret (results4 rfl _ _ _) rfl ?_
                refine ⟨retRS ?_, ?_⟩
                · rw [Hr.out, if_neg Hk9.out, if_pos Hg.out]; rfl
                · first | exact hb | exact ((Below.refl _ _).drew).trans hb
            · have Hp := hide (Hp.out g)
              have Hg := hide g; clear g
              generalize valS s n m = V at *
              go_wp2_with fail
              go_region_with (go_at_call 18; refine (Hp.out _).mono ?_; rintro e w' ⟨rfl, hb⟩)
              all_goals
                go_wp2
                refine bodyPost_ret (results4 rfl _ _ _) rfl ?_
                refine ⟨retRS ?_, ?_⟩
                · rw [Hr.out, if_neg Hk9.out, if_neg Hg.out]; rfl
                · first | exact hb | exact ((Below.refl _ _).drew).trans hb
  · rcases h with ⟨he, hbad⟩ | ⟨hc0, hz, ha0, hat⟩
    · have Hr := hide (rdS_code s a he (by decide))
      clear he
      by_cases g1 : s.size ≤ 2000 <;> by_cases g2 : 0 ≤ a <;> by_cases g3 : a ≤ s.size
      all_goals first
        | (exfalso; omega)
        | (clear hbad
           go_enter Try.func21, Try.ntmps21
           go_wp2
           all_goals
             refine bodyPost_ret (results4 rfl _ _ _) rfl ?_
             refine ⟨retRS ?_, Below.refl _ _⟩
             rw [Hr.out]
             rfl)
    · obtain ⟨n, rfl⟩ := Int.eq_ofNat_of_zero_le ha0
      have hr : ∃ c : Nat, 0 < c ∧ endF s.data.toList n = (0, c) := by
        rcases hc0 with h | h
        · exact ⟨2, by decide, h⟩
        · exact ⟨3, by decide, h⟩
      obtain ⟨c, hc1, he⟩ := hr
      have Hr := hide (rdS_code s n he (by omega))
      have hse : scan s.data.toList 10 n = (0, c) := by
        unfold endF at he; rw [if_pos (by rw [size_eq]; omega)] at he; simpa using he
      have hc := fun w => spec_l1End s n hz (by omega) w
      rw [hse] at hc
      have Hc := Lib.hid hc; clear hc he hse hc0
      have hd : decide (n ≤ s.size) = true := by simp; omega
      go_enter Try.func21, Try.ntmps21
      go_wp2_with (first | (go_at_call 72; refine (Hc.out _).mono ?_; rintro e w' ⟨rfl, rfl⟩) | (go_at_call 71; go_in) | (go_at_call 81; go_in))
      refine bodyPost_ret (results4 rfl _ _ _) rfl ?_
      refine ⟨retRS ?_, Below.refl _ _⟩
      rw [Hr.out]
      rfl

theorem impl_ReadS (s : ByteArray) (a : Int) (hs : s.size ≤ 9223372036854775807) (h1 : -9223372036854775808 ≤ a) (h2 : a ≤ 9223372036854775807) (w : World) :
    Calls Try.prog 17 #[.string s, .int .i64 a] w fun e w' => e = .returned (.tuple #[.int .i64 (rdS s a).1, .int .i64 (rdS s a).2.1, .int .i64 (rdS s a).2.2.1, .bool (rdS s a).2.2.2]) ∧ Below w.heap.size w w' := by
  go_enter Try.func17, Try.ntmps17
  go_wp2_with (go_at_call 68; refine (impl_readS s a hs h1 h2 _).mono ?_; rintro e w' ⟨rfl, hb⟩)
  refine bodyPost_ret (results4 rfl _ _ _) rfl ?_
  exact ⟨rfl, hb⟩

end Go.Proofs.Ytheddnjhkcpmnaa
set_option linter.unusedSimpArgs false
set_option linter.unusedVariables false
set_option maxRecDepth 100000
namespace Go.Proofs.Ytheddnjhkcpmnaa
open Go.RowKit

theorem valU_step (s : ByteArray) {k m : Nat} (hk : k < m) (hm : m ≤ s.size) : valU (part s k m) = (s[k]'(by omega)).toNat % 128 + 128 * valU (part s (k + 1) m) := by
  rw [part_cons s hk (by omega)]; rfl

set_option maxHeartbeats 1600000 in
theorem spec_ReadU (s : ByteArray) (a : Int) (hs : s.size ≤ 9223372036854775807) (h1 : -9223372036854775808 ≤ a) (h2 : a ≤ 9223372036854775807) (w : World) :
    Calls Try.prog 20 #[.string s, .int .i64 a] w fun e w' => e = .returned (.tuple #[.int .u64 (rdU s a).1, .int .i64 (rdU s a).2.1, .int .i64 (rdU s a).2.2.1, .bool (rdU s a).2.2.2]) ∧ Below w.heap.size w w' := by
  rcases endF_ways s a with ⟨n, m, rfl, hnm, hk, hlt, hz, he, hlow, hall⟩ | h
  · have hen := enc_part s (m - n - 1) n m (by omega) hlt hlow hall
    have Hr := hide (rdU_ok s n m he (by omega) hlt)
    have hv := valU_64 s hnm hlt hk
    have hse : scan s.data.toList 10 n = (m, 0) := by
      unfold endF at he; rw [if_pos (by rw [size_eq]; omega)] at he; simpa using he
    have hc := fun w => spec_l1End s n hz (by omega) w
    have hd : decide (n ≤ s.size) = true := by simp; omega
    rw [hse] at hc
    have Hc := Lib.hid hc; clear hc he hall hlow hse
    by_cases k9 : m - n = 10 ∧ 1 < s[m - 1].toNat
    · obtain ⟨k9, l1⟩ := k9
      clear hv
      go_enter Try.func20, Try.ntmps20
      go_wp2_with (first | (go_at_call 72; refine (Hc.out _).mono ?_; rintro e w' ⟨rfl, rfl⟩) | (go_at_call 71; go_in) | (go_at_call 81; go_in))
      refine bodyPost_ret (results4 rfl _ _ _) rfl ?_
      refine ⟨retR ?_, Below.refl _ _⟩
      rw [Hr.out]
      simp [k9, l1]
    · have hv := hv k9
      have l1 : m - n = 10 → (s[m - 1].toNat : Int) ≤ 1 := by omega
      by_cases k10 : m - n = 10
      all_goals
        try have l1 := l1 k10
        have Hv := hide hv; clear hv
        go_enter Try.func20, Try.ntmps20
        go_wp2_with (first | (go_at_call 72; refine (Hc.out _).mono ?_; rintro e w' ⟨rfl, rfl⟩) | (go_at_call 71; go_in) | (go_at_call 81; go_in))
        go_loop [10, 11] (fun v i => ∃ q : Int, (n : Int) - 1 ≤ q ∧ q ≤ (m : Int) - 1 ∧ i = .int .i64 q ∧ v = .int .u64 ((valU (part s (q + 1).toNat m) : Nat) : Int)) (fun _ i => (intOf i + 1).toNat)
        case atStart => exact ⟨(m : Int) - 1, by omega, by omega, rfl, by rw [show ((m : Int) - 1 + 1).toNat = m by omega, part_nil]; rfl⟩
        case round =>
          obtain ⟨q, hq1, hq2, rfl, rfl⟩ := hrel
          by_cases hq : (n : Int) ≤ q
          · obtain ⟨j, rfl⟩ := Int.eq_ofNat_of_zero_le (show 0 ≤ q by omega)
            rw [show ((j : Int) + 1).toNat = j + 1 by omega]
            have hst := valU_step s (k := j) (m := m) (by omega) hlt
            have hle := valU_part_le s (n := n) (j := j) (m := m) (by omega) (by omega) hlt
            have hvb := Hv.out
            generalize valU (part s (j + 1) m) = V at *
            obtain ⟨hT, hT0⟩ : (V : Int) ≤ 144115188075855871 ∧ 0 ≤ (V : Int) := by omega
            have Hst := hide hst; clear hst hvb hle
            go_wp2
            go_round
            case rel => exact ⟨(j : Int) - 1, by omega, by omega, rfl, congrArg (Value.int .u64) (by rw [show ((j : Int) - 1 + 1).toNat = j by omega]; exact u64_step _ _ _ Hst.out hT)⟩
            case measure => (simp [intOf]; try omega)
          · rw [show (q + 1).toNat = n by omega]
            by_cases h0 : 1 < m - n ∧ s[m - 1].toNat = 0
            · have hne := canon_no s hnm hlt Hv.out h0
              have hp := fun w => spec_l1PutU (valU (part s n m)) Hv.out w
              generalize valU (part s n m) = V at *
              have Hp := Lib.hid hp; clear hp
              have hq : (leb V == (s.extract n m).toList) = false := by rw [extract_eq, beq_eq_false_iff_ne]; simpa using hne
              clear hne
              go_wp2_with fail
              go_region_with (go_at_call 64; refine (Hp.out _).mono ?_; rintro e w' ⟨rfl, hb⟩)
              all_goals
                go_wp2
                refine bodyPost_ret (results4 rfl _ _ _) rfl ?_
                refine ⟨retR ?_, ?_⟩
                · rw [Hr.out]
                  simp [k10, h0]
                · first | exact hb | exact ((Below.refl _ _).drew).trans hb
            · have hye := canon_yes s hnm hk hlt hen h0
              have hp := fun w => spec_l1PutU (valU (part s n m)) Hv.out w
              rw [hye, ← extract_eq] at hp
              clear hye
              generalize valU (part s n m) = V at *
              have Hp := Lib.hid hp; clear hp
              go_wp2_with fail
              go_region_with (go_at_call 64; refine (Hp.out _).mono ?_; rintro e w' ⟨rfl, hb⟩)
              all_goals
                go_wp2
                refine bodyPost_ret (results4 rfl _ _ _) rfl ?_
                refine ⟨retR ?_, ?_⟩
                · rw [Hr.out]
                  simp [k9, h0]
                · first | exact hb | exact ((Below.refl _ _).drew).trans hb
  · rcases h with ⟨he, hbad⟩ | ⟨hc0, hz, ha0, hat⟩
    · have Hr := hide (rdU_code s a he (by decide))
      clear he
      by_cases g1 : s.size ≤ 2000 <;> by_cases g2 : 0 ≤ a <;> by_cases g3 : a ≤ s.size
      all_goals first
        | (exfalso; omega)
        | (clear hbad
           go_enter Try.func20, Try.ntmps20
           go_wp2
           all_goals
             refine bodyPost_ret (results4 rfl _ _ _) rfl ?_
             refine ⟨retR ?_, Below.refl _ _⟩
             rw [Hr.out]
             rfl)
    · obtain ⟨n, rfl⟩ := Int.eq_ofNat_of_zero_le ha0
      have hr : ∃ c : Nat, 0 < c ∧ endF s.data.toList n = (0, c) := by
        rcases hc0 with h | h
        · exact ⟨2, by decide, h⟩
        · exact ⟨3, by decide, h⟩
      obtain ⟨c, hc1, he⟩ := hr
      have Hr := hide (rdU_code s n he (by omega))
      have hse : scan s.data.toList 10 n = (0, c) := by
        unfold endF at he; rw [if_pos (by rw [size_eq]; omega)] at he; simpa using he
      have hc := fun w => spec_l1End s n hz (by omega) w
      rw [hse] at hc
      have Hc := Lib.hid hc; clear hc he hse hc0
      have hd : decide (n ≤ s.size) = true := by simp; omega
      go_enter Try.func20, Try.ntmps20
      go_wp2_with (first | (go_at_call 72; refine (Hc.out _).mono ?_; rintro e w' ⟨rfl, rfl⟩) | (go_at_call 71; go_in) | (go_at_call 81; go_in))
      refine bodyPost_ret (results4 rfl _ _ _) rfl ?_
      refine ⟨retR ?_, Below.refl _ _⟩
      rw [Hr.out]
      rfl
end Go.Proofs.Ytheddnjhkcpmnaa
set_option linter.unusedSimpArgs false
set_option linter.unusedVariables false
set_option maxRecDepth 100000
namespace Go.Proofs.Ytheddnjhkcpmnaa
open Go.RowKit

theorem rdRows_no {s : ByteArray} {many : Int} (h : ¬ (1 ≤ many ∧ many ≤ 300)) : rdRows s many = ([], 1, false) := by unfold rdRows; rw [if_neg h]
theorem rdRows_code {s : ByteArray} {many : Int} (h : 1 ≤ many ∧ many ≤ 300) {L : List R3} {e c : Nat} (hr : rrI s 0 many = (L, e, c)) (hc : c ≠ 0) : rdRows s many = ([], c, false) := by
  unfold rdRows; rw [if_pos h, hr]; unfold fin; rw [if_pos hc]
theorem rdRows_tail {s : ByteArray} {many : Int} (h : 1 ≤ many ∧ many ≤ 300) {L : List R3} {e : Nat} (hr : rrI s 0 many = (L, e, 0)) (he : e < s.size) : rdRows s many = ([], 4, false) := by
  unfold rdRows; rw [if_pos h, hr]; unfold fin; rw [if_neg (by simp), if_pos he]
theorem rdRows_yes {s : ByteArray} {many : Int} (h : 1 ≤ many ∧ many ≤ 300) {L : List R3} {e : Nat} (hr : rrI s 0 many = (L, e, 0)) (he : ¬ e < s.size) : rdRows s many = (L, 0, true) := by
  unfold rdRows; rw [if_pos h, hr]; unfold fin; rw [if_neg (by simp), if_neg he]
theorem triI_end (s : ByteArray) (many : Int) : ∀ (k a : Nat) (x : Int) (sm : Bool) (acc : List R3), a ≤ s.size → (triI s many k a x sm acc).2.1 ≤ s.size ∧ (triI s many k a x sm acc).2.2 ≤ 3 := by
  intro k
  induction k with
  | zero => intro a x sm acc h; unfold triI; split <;> simp [h]
  | succ k ih =>
    intro a x sm acc h
    cases ht : tri s a with
    | none => rw [triI_no ht]; simp
    | some y =>
      obtain ⟨g, l, p, e⟩ := y
      have he : e ≤ s.size := by
        obtain ⟨gv, gn, gc, gok, lv, ln, lc, lok, pv, pn, pc, pok, e1, e2, e3, b1, b2, b3, b4, _, b6, h2⟩ := tri_parts s a
        rw [ht] at h2
        split at h2
        · injection h2 with h2; injection h2 with _ h2; injection h2 with _ h2; injection h2 with _ h2; omega
        · cases h2
      by_cases hs : sm = true ∧ smallT g l p
      · obtain ⟨rfl, hs⟩ := hs
        rw [triI_small ht hs]; exact ih _ _ _ _ he
      · rw [triI_great ht hs]; exact ih _ _ _ _ he
theorem rrI_end (s : ByteArray) (a : Nat) (many : Int) : (rrI s a many).2.1 ≤ s.size ∧ (rrI s a many).2.2 ≤ 3 := by
  unfold rrI
  split
  · exact triI_end s many _ _ _ _ _ (rdU_any s a).2
  · simp

set_option maxHeartbeats 800000 in
theorem impl_ReadRows (s : ByteArray) (many : Int) (hs : s.size ≤ 9223372036854775807) (w : World) :
    Calls Try.prog 58 #[.string s, .int .i64 many] w fun e w' => ∃ v, e = .returned (.tuple #[v, .int .i64 ((rdRows s many).2.1 : Nat), .bool (rdRows s many).2.2]) ∧ w'.ownsRow w.heap.size 72 3 v (rdRows s many).1.length (rcells (rdRows s many).1) ∧ Below w.heap.size w w' := by
  by_cases hm : 1 ≤ many ∧ many ≤ 300
  · obtain ⟨hm1, hm2⟩ := hm
    have hc := fun w => impl_readRows s many hm1 hm2 0 (by omega) hs w
    have he := rrI_end s 0 many
    have h1 := @rdRows_code s many ⟨hm1, hm2⟩
    have h2 := @rdRows_tail s many ⟨hm1, hm2⟩
    have h3 := @rdRows_yes s many ⟨hm1, hm2⟩
    generalize rrI s 0 many = r at *
    generalize rdRows s many = F at *
    obtain ⟨L, e, c⟩ := r
    dsimp only at *
    obtain ⟨he1, he2⟩ := he
    have Hc := Lib.hid hc; clear hc
    by_cases hc0 : c = 0
    · subst hc0
      by_cases hlt : e < s.size
      · have HF := hide (h2 rfl hlt); clear h1 h2 h3
        go_enter Try.func58, Try.ntmps58
        go_wp2_with (first
          | (go_at_call 79; go_in)
          | (go_at_call 105; refine (Hc.out _).mono ?_; rintro e w1 ⟨v1, rfl, hown1, hb1⟩))
        go_ret3
        rw [HF.out]
        exact ⟨_, rfl, World.ownsRow_nil _ _ _ _, hb1⟩
      · have HF := hide (h3 rfl hlt); clear h1 h2 h3
        obtain rfl : e = s.size := by omega
        go_enter Try.func58, Try.ntmps58
        go_wp2_with (first
          | (go_at_call 79; go_in)
          | (go_at_call 105; refine (Hc.out _).mono ?_; rintro e w1 ⟨v1, rfl, hown1, hb1⟩))
        go_ret3
        rw [HF.out]
        exact ⟨_, rfl, hown1, hb1⟩
    · have HF := hide (h1 rfl hc0); clear h1 h2 h3
      have hne : ((c : Int) != 0) = true := by rw [bne_iff_ne]; omega
      clear hc0
      go_enter Try.func58, Try.ntmps58
      go_wp2_with (first
        | (go_at_call 79; go_in)
        | (go_at_call 105; refine (Hc.out _).mono ?_; rintro e w1 ⟨v1, rfl, hown1, hb1⟩))
      go_ret3
      rw [HF.out]
      exact ⟨_, rfl, World.ownsRow_nil _ _ _ _, hb1⟩
  · have HF := hide (rdRows_no (s := s) hm)
    by_cases hm1 : 1 ≤ many <;> by_cases hm2 : many ≤ 300
    · exact absurd ⟨hm1, hm2⟩ hm
    all_goals
      clear hm
      go_enter Try.func58, Try.ntmps58
      go_wp2_with (go_at_call 79; go_in)
      go_ret3
      rw [HF.out]
      exact ⟨_, rfl, World.ownsRow_nil _ _ _ _, Below.refl _ _⟩

theorem spec_l7Small (g : Nat) (hg : g < 18446744073709551616) (w : World) :
    Calls Try.prog 108 #[.int .u64 (g : Int)] w fun e w' => e = .returned (.int .i64 (sm7 g)) ∧ w' = w := by
  by_cases h : 1000000 < g
  · have e : sm7 g = 2000000 := by unfold sm7; rw [if_pos h]
    rw [e]; clear e
    go_enter Try.func108, Try.ntmps108
    go_wp2
    go_ret
    exact ⟨rfl, rfl⟩
  · have e : sm7 g = g := by unfold sm7; rw [if_neg h]
    rw [e]; clear e
    go_enter Try.func108, Try.ntmps108
    go_wp2
    go_ret
    exact ⟨rfl, rfl⟩
def leastI (a b : Int) : Int := if a < b then a else b
theorem spec_l1LeastR (a b : Int) (w : World) :
    Calls Try.prog 107 #[.int .i64 a, .int .i64 b] w fun e w' => e = .returned (.int .i64 (leastI a b)) ∧ w' = w := by
  by_cases h : a < b
  · have e : leastI a b = a := if_pos h
    rw [e]; clear e
    go_enter Try.func107, Try.ntmps107
    go_wp2
    go_ret
    exact ⟨rfl, rfl⟩
  · have e : leastI a b = b := if_neg h
    rw [e]; clear e
    go_enter Try.func107, Try.ntmps107
    go_wp2
    go_ret
    exact ⟨rfl, rfl⟩
theorem sm7_bd (g : Nat) : 0 ≤ sm7 g ∧ sm7 g ≤ 2000000 := by unfold sm7; split <;> omega
theorem fromS_bd (x : Int) (g : Nat) (h : 0 ≤ x) : 0 ≤ fromS x g ∧ fromS x g ≤ 2000000 := by have := sm7_bd g; unfold fromS; split <;> omega
theorem toS_bd (x : Int) (g : Nat) (h : 0 ≤ x) : 0 ≤ toS x g ∧ toS x g ≤ 4000000 := by have := sm7_bd g; unfold toS; split <;> omega
theorem triS_end {s : ByteArray} {many : Int} {a : Nat} {x : Int} {acc : List R3} : triS s many 0 a x acc = if goodRows acc many = true then (if a < s.size then ([], 4, false) else (acc, 0, true)) else ([], 3, false) := rfl

set_option maxHeartbeats 3200000 in
theorem spec_ReadRows (s : ByteArray) (many : Int) (hs : s.size ≤ 9223372036854775807) (w : World) :
    Calls Try.prog 60 #[.string s, .int .i64 many] w fun e w' => ∃ v, e = .returned (.tuple #[v, .int .i64 ((rdRows s many).2.1 : Nat), .bool (rdRows s many).2.2]) ∧ w'.ownsRow w.heap.size 72 3 v (rdRows s many).1.length (rcells (rdRows s many).1) ∧ Below w.heap.size w w' := by
  rw [← rr_same]
  have hc := fun w => spec_ReadU s 0 hs (by omega) (by omega) w
  have hf := rdU_any s 0
  have hI : rrS s many = if 1 ≤ many ∧ many ≤ 300 then (if (rdU s 0).2.2.2 = true ∧ (rdU s 0).1 ≤ 300 then triS s many (rdU s 0).1 (rdU s 0).2.1 0 [] else ([], 1, false)) else ([], 1, false) := rfl
  generalize rdU s 0 = r at *
  generalize rrS s many = F at *
  obtain ⟨n, e0, cd, ok⟩ := r
  dsimp only at *
  obtain ⟨f1, f2⟩ := hf
  have Hc := Lib.hid hc; clear hc
  by_cases hgo : (1 ≤ many ∧ many ≤ 300) ∧ (ok = true ∧ n ≤ 300)
  · obtain ⟨⟨hm1, hm2⟩, rfl, hn⟩ := hgo
    rw [if_pos ⟨hm1, hm2⟩, if_pos ⟨rfl, hn⟩] at hI
    have HI := hide hI; clear hI
    have hdn : decide ((300 : Int) < (n : Int)) = false := decide_eq_false (by omega)
    go_enter Try.func60, Try.ntmps60
    go_wp2_with (first
      | (go_at_call 81; first | ((with_reducible refine (spec_l1In_yes _ _ _ (by omega) (by omega) _).mono ?_); rintro e w' ⟨rfl, rfl⟩) | ((with_reducible refine (spec_l1In_no _ _ _ (by omega) _).mono ?_); rintro e w' ⟨rfl, rfl⟩))
      | (go_at_call 20; refine (Hc.out _).mono ?_; rintro e w1 ⟨rfl, hb1⟩))
    go_loopw [11, 12, 13, 8] (fun out fr i at_ wr => ∃ (k e : Nat) (x : Int) (acc : List R3), k ≤ n ∧ i = .int .u64 k ∧ at_ = .int .i64 e ∧ fr = .int .i64 x ∧ e ≤ s.size ∧ 0 ≤ x ∧ x ≤ 4000000 ∧ acc.length ≤ k ∧ triS s many (n - k) e x acc = F ∧ wr.ownsRow w.heap.size 72 3 out acc.length (rcells acc) ∧ Below w.heap.size w wr) (fun _ _ i _ _ => n - (intOf i).toNat)
    case atStart => exact ⟨0, e0, 0, [], by omega, rfl, rfl, rfl, f2, by omega, by omega, by simp, HI.out.symm, World.ownsRow_nil _ _ _ _, hb1⟩
    case round =>
      obtain ⟨k, e, x, acc, hk, rfl, rfl, rfl, hes, hx1, hx2, hal, hlp, hown, hb⟩ := hrel
      have Hown := hide hown; have Hb := hide hb
      have hbs := hb.size
      clear hown hb HI hb1 hdn
      by_cases hlt : k < n
      · obtain ⟨gv, gn, gc, gok, lv, ln, lc, lok, pv, pn, pc, pok, e1, e2, e3, b1, b2, b3, b4, ⟨b5, b5'⟩, b6, ht⟩ := tri_parts s e
        have c1 := fun w => spec_ReadU s e hs (by omega) (by omega) w
        have c2 := fun w => spec_ReadU s gn hs (by omega) (by omega) w
        have c3 := fun w => spec_ReadS s ln hs (by omega) (by omega) w
        simp only [e1] at c1
        simp only [e2] at c2
        simp only [e3] at c3
        rw [show n - k = (n - (k + 1)) + 1 by omega] at hlp
        have hN := fun h => (triS_no (many := many) (k := n - (k + 1)) (x := x) (acc := acc) h).symm.trans hlp
        have hY := fun h => (triS_yes (many := many) (k := n - (k + 1)) (x := x) (acc := acc) (s := s) (a := e) (g := gv) (l := lv) (p := pv) (e := pn) h).symm.trans hlp
        clear hlp e1 e2 e3
        have C1 := Lib.hid c1; have C2 := Lib.hid c2; have C3 := Lib.hid c3; clear c1 c2 c3
        have Ht := hide ht; have HN := hide hN; have HY := hide hY; clear ht hN hY
        go_wp2_with fail
        refine (C1.out _).mono ?_
        rintro e w2 ⟨rfl, hb2⟩
        have Hown2 := hide (own_keep Hown.out hb2); have Hb2 := hide (Hb.out.trans (hb2.mono hbs)); have hbs2 := Hb2.out.size; clear hb2 C1 Hown Hb
        cases gok
        · have HN' := hide (HN.out (by rw [Ht.out]; rfl)); clear HN HY Ht
          go_wp2_with fail
          go_ret3
          rw [← HN'.out]
          exact ⟨_, rfl, World.ownsRow_nil _ _ _ _, Hb2.out⟩
        go_wp2_with fail
        refine (C2.out _).mono ?_
        rintro e w3 ⟨rfl, hb3⟩
        have Hown3 := hide (own_keep Hown2.out hb3); have Hb3 := hide (Hb2.out.trans (hb3.mono hbs2)); have hbs3 := Hb3.out.size; clear hb3 C2 Hown2 Hb2 hbs2
        cases lok
        · have HN' := hide (HN.out (by rw [Ht.out]; rfl)); clear HN HY Ht
          go_wp2_with fail
          go_ret3
          rw [← HN'.out]
          exact ⟨_, rfl, World.ownsRow_nil _ _ _ _, Hb3.out⟩
        go_wp2_with fail
        refine (C3.out _).mono ?_
        rintro e w4 ⟨rfl, hb4⟩
        have Hown4 := hide (own_keep Hown3.out hb4); have Hb4 := hide (Hb3.out.trans (hb4.mono hbs3)); have hbs4 := Hb4.out.size; clear hb4 C3 Hown3 Hb3 hbs3
        cases pok
        · have HN' := hide (HN.out (by rw [Ht.out]; rfl)); clear HN HY Ht
          go_wp2_with fail
          go_ret3
          rw [← HN'.out]
          exact ⟨_, rfl, World.ownsRow_nil _ _ _ _, Hb4.out⟩
        have ht : tri s e = some (gv, lv, pv, pn) := by have := Ht.out; simpa using this
        have hY' := HY.out ht
        have hpad : ∃ q, padS pv = q ∧ -2000000 ≤ q ∧ q ≤ 1000000 ∧ ((-1000000 ≤ pv ∧ pv ≤ 1000000 ∧ q = pv) ∨ (pv < -1000000 ∧ q = -2000000) ∨ (-1000000 ≤ pv ∧ 1000000 < pv ∧ q = -2000000)) := by
          unfold padS
          by_cases h1 : -1000000 ≤ pv ∧ pv ≤ 1000000
          · rw [if_pos h1]; exact ⟨_, rfl, by omega, by omega, by omega⟩
          · rw [if_neg h1]; exact ⟨_, rfl, by omega, by omega, by omega⟩
        obtain ⟨q, hq, hq1, hq2, hq3⟩ := hpad
        rw [hq] at hY'
        have s1 := sm7_bd gv
        have s2 := sm7_bd lv
        have k1 := fromS_bd x gv hx1
        have k2 := toS_bd (fromS x gv) lv k1.1
        have L1 := hide (show leastI 2000000 (x + sm7 gv) = fromS x gv from rfl)
        have L2 := hide (show leastI 4000000 (fromS x gv + sm7 lv) = toS (fromS x gv) lv from rfl)
        have HY' := hide hY'; clear HN HY Ht ht hq hY'
        have S1 := hide (spec_l7Small gv b1); have S2 := hide (spec_l7Small lv b3)
        generalize fromS x gv = f at *
        generalize toS f lv = t at *
        generalize sm7 gv = g7 at *
        generalize sm7 lv = l7 at *
        rcases hq3 with ⟨p1, p2, p3⟩ | ⟨p1, p3⟩ | ⟨p1, p2, p3⟩
        · subst p3
          try have d4 : decide (pv ≤ 1000000) = false := decide_eq_false (by omega)
          go_wp2_with (first
            | (go_at_call 81; first | ((with_reducible refine (spec_l1In_yes _ _ _ (by omega) (by omega) _).mono ?_); rintro e w' ⟨rfl, rfl⟩) | ((with_reducible refine (spec_l1In_no _ _ _ (by omega) _).mono ?_); rintro e w' ⟨rfl, rfl⟩))
            | (go_at_call 108; refine (S1.out _).mono ?_; rintro e w5 ⟨rfl, rfl⟩)
            | (go_at_call 107; refine (spec_l1LeastR _ _ _).mono ?_; rintro e w5 ⟨rfl, rfl⟩; rw [L1.out]))
          have hlt5 := Hown4.out.lt
          have kb := Bk.new w5 72 #[.int .i64 f, .int .i64 0, .int .i64 0]
          have kO := Hown4.out.alloc (.cells #[.int .i64 f, .int .i64 0, .int .i64 0] 72)
          have kB := Hb4.out.alloc hbs4 (.cells #[.int .i64 f, .int .i64 0, .int .i64 0] 72)
          have kz : w5.heap.size < (w5.alloc (.cells #[.int .i64 f, .int .i64 0, .int .i64 0] 72)).heap.size := by rw [World.size_alloc]; omega
          generalize w5.alloc (.cells #[.int .i64 f, .int .i64 0, .int .i64 0] 72) = W at kb kO kB kz ⊢
          have c0 := kb.cell 0
          have kbd := kb.drew
          have kOd := own_drew kO 1
          have kBd := kB.drew
          have hKb := hide kbd; have hKO := hide kOd; have hKB := hide kBd; clear kb kO kB kbd kOd kBd Hown4 Hb4
          refine wp_region_still_tail 7 (by kernel_rfl) (by kernel_rfl) ?_
          simp only [List.take_succ_cons, List.take_zero, List.drop_succ_cons, List.drop_zero]
          still_step
          still_step
          still_step
          refine wpStill_step (fun K hK => ?_)
          go_simp
          refine ⟨_, S2.out _, hK _ ?_⟩
          clear hK K
          still_step
          refine wpStill_step (fun K hK => ?_)
          go_simp
          have eW : IntKind.i64.wrap (f + l7) = f + l7 := IntWalk.i64_in _ (by omega)
          rw [eW]
          clear eW
          refine ⟨_, spec_l1LeastR _ _ _, hK _ ?_⟩
          rw [L2.out]
          clear hK K
          still_step
          try refine wpStill_nil ?_
          change wpList _ _ _ _ _ (World.drew _)
          have kb : Bk W.drew w5.heap.size 72 #[.int .i64 f, .int .i64 0, .int .i64 0] := hKb.out
          have kO : W.drew.ownsRow w.heap.size 72 3 _ acc.length (rcells acc) := hKO.out
          have kB : Below w.heap.size w W.drew := hKB.out
          clear hKb hKO hKB c0 kz
          generalize W.drew = V at kb kO kB ⊢
          have c0 := kb.cell 0
          have c1 := kb.cell 1
          have c2 := kb.cell 2
          have z1 := kb.frozen 1
          have z2 := kb.frozen 2
          have kb2 := (kb.set 1 (.int .i64 t)).set 2 (.int .i64 (t + q))
          have kO2 := own_far (own_far kO (p := ⟨w5.heap.size, 1, none⟩) (.int .i64 t) (fun k hk => by have := (hlt5 k hk).2; show k ≠ w5.heap.size; omega)) (p := ⟨w5.heap.size, 2, none⟩) (.int .i64 (t + q)) (fun k hk => by have := (hlt5 k hk).2; show k ≠ w5.heap.size; omega)
          have kB2 := (kB.setCell (p := ⟨w5.heap.size, 1, none⟩) hbs4 (.int .i64 t)).setCell (p := ⟨w5.heap.size, 2, none⟩) hbs4 (.int .i64 (t + q))
          have Kb2 := hide kb2; have KO2 := hide kO2; have KB2 := hide kB2; have Hlt5 := hide hlt5; clear kb kO kB kb2 kO2 kB2 hlt5
          go_wp2_with (at_builtin; refine wpList_push' rfl _ _ _ rfl okRow rfl KO2.out _ rfl (by simp [World.setCell]) rfl (by simp [Value.oneCell']) (by unfold maxLen; omega) (by omega) KB2.out.size ?_; intro v1 w6 hown6 hg6; have hk1 : w6.cell? ⟨w5.heap.size, 1, none⟩ = some (.int .i64 t) := (World.cell?_of_block (hg6.block w5.heap.size (Kb2.out.alloc _).lt (fun e => by have := (Hlt5.out _ e.symm).2; omega))).trans ((Kb2.out.alloc _).cell 1))
          go_roundw
          case rel => exact ⟨k + 1, pn, t, acc ++ [⟨f, t, _⟩], by omega, by go_num, rfl, rfl, b6, by omega, by omega, by simp; omega, HY'.out, by rw [List.length_append, List.length_singleton, rcells_append]; exact hown6, belowPush KB2.out KO2.out KB2.out.size hg6⟩
          case measure => simp [intOf]; omega
        · have Hq := hide p3; clear p3
          have hz := HY'.out
          rw [Hq.out] at hz
          have HZ := hide hz; clear hz HY' Hq
          clear hq1 hq2
          try have d4 : decide (pv ≤ 1000000) = false := decide_eq_false (by omega)
          go_wp2_with (first
            | (go_at_call 81; first | ((with_reducible refine (spec_l1In_yes _ _ _ (by omega) (by omega) _).mono ?_); rintro e w' ⟨rfl, rfl⟩) | ((with_reducible refine (spec_l1In_no _ _ _ (by omega) _).mono ?_); rintro e w' ⟨rfl, rfl⟩))
            | (go_at_call 108; refine (S1.out _).mono ?_; rintro e w5 ⟨rfl, rfl⟩)
            | (go_at_call 107; refine (spec_l1LeastR _ _ _).mono ?_; rintro e w5 ⟨rfl, rfl⟩; rw [L1.out]))
          have hlt5 := Hown4.out.lt
          have kb := Bk.new w5 72 #[.int .i64 f, .int .i64 0, .int .i64 0]
          have kO := Hown4.out.alloc (.cells #[.int .i64 f, .int .i64 0, .int .i64 0] 72)
          have kB := Hb4.out.alloc hbs4 (.cells #[.int .i64 f, .int .i64 0, .int .i64 0] 72)
          have kz : w5.heap.size < (w5.alloc (.cells #[.int .i64 f, .int .i64 0, .int .i64 0] 72)).heap.size := by rw [World.size_alloc]; omega
          generalize w5.alloc (.cells #[.int .i64 f, .int .i64 0, .int .i64 0] 72) = W at kb kO kB kz ⊢
          have c0 := kb.cell 0
          have kbd := kb.drew
          have kOd := own_drew kO 1
          have kBd := kB.drew
          have hKb := hide kbd; have hKO := hide kOd; have hKB := hide kBd; clear kb kO kB kbd kOd kBd Hown4 Hb4
          refine wp_region_still_tail 7 (by kernel_rfl) (by kernel_rfl) ?_
          simp only [List.take_succ_cons, List.take_zero, List.drop_succ_cons, List.drop_zero]
          still_step
          still_step
          still_step
          refine wpStill_step (fun K hK => ?_)
          go_simp
          refine ⟨_, S2.out _, hK _ ?_⟩
          clear hK K
          still_step
          refine wpStill_step (fun K hK => ?_)
          go_simp
          have eW : IntKind.i64.wrap (f + l7) = f + l7 := IntWalk.i64_in _ (by omega)
          rw [eW]
          clear eW
          refine ⟨_, spec_l1LeastR _ _ _, hK _ ?_⟩
          rw [L2.out]
          clear hK K
          still_step
          try refine wpStill_nil ?_
          change wpList _ _ _ _ _ (World.drew _)
          have kb : Bk W.drew w5.heap.size 72 #[.int .i64 f, .int .i64 0, .int .i64 0] := hKb.out
          have kO : W.drew.ownsRow w.heap.size 72 3 _ acc.length (rcells acc) := hKO.out
          have kB : Below w.heap.size w W.drew := hKB.out
          clear hKb hKO hKB c0 kz
          generalize W.drew = V at kb kO kB ⊢
          have c0 := kb.cell 0
          have c1 := kb.cell 1
          have c2 := kb.cell 2
          have z1 := kb.frozen 1
          have z2 := kb.frozen 2
          have kb2 := (kb.set 1 (.int .i64 t)).set 2 (.int .i64 (t + -2000000))
          have kO2 := own_far (own_far kO (p := ⟨w5.heap.size, 1, none⟩) (.int .i64 t) (fun k hk => by have := (hlt5 k hk).2; show k ≠ w5.heap.size; omega)) (p := ⟨w5.heap.size, 2, none⟩) (.int .i64 (t + -2000000)) (fun k hk => by have := (hlt5 k hk).2; show k ≠ w5.heap.size; omega)
          have kB2 := (kB.setCell (p := ⟨w5.heap.size, 1, none⟩) hbs4 (.int .i64 t)).setCell (p := ⟨w5.heap.size, 2, none⟩) hbs4 (.int .i64 (t + -2000000))
          have Kb2 := hide kb2; have KO2 := hide kO2; have KB2 := hide kB2; have Hlt5 := hide hlt5; clear kb kO kB kb2 kO2 kB2 hlt5
          go_wp2_with (at_builtin; refine wpList_push' rfl _ _ _ rfl okRow rfl KO2.out _ rfl (by simp [World.setCell]) rfl (by simp [Value.oneCell']) (by unfold maxLen; omega) (by omega) KB2.out.size ?_; intro v1 w6 hown6 hg6; have hk1 : w6.cell? ⟨w5.heap.size, 1, none⟩ = some (.int .i64 t) := (World.cell?_of_block (hg6.block w5.heap.size (Kb2.out.alloc _).lt (fun e => by have := (Hlt5.out _ e.symm).2; omega))).trans ((Kb2.out.alloc _).cell 1))
          go_roundw
          case rel => exact ⟨k + 1, pn, t, acc ++ [⟨f, t, _⟩], by omega, by go_num, rfl, rfl, b6, by omega, by omega, by simp; omega, HZ.out, by rw [List.length_append, List.length_singleton, rcells_append]; exact hown6, belowPush KB2.out KO2.out KB2.out.size hg6⟩
          case measure => simp [intOf]; omega
        · have Hq := hide p3; clear p3
          have hz := HY'.out
          rw [Hq.out] at hz
          have HZ := hide hz; clear hz HY' Hq
          clear hq1 hq2
          try have d4 : decide (pv ≤ 1000000) = false := decide_eq_false (by omega)
          go_wp2_with (first
            | (go_at_call 81; first | ((with_reducible refine (spec_l1In_yes _ _ _ (by omega) (by omega) _).mono ?_); rintro e w' ⟨rfl, rfl⟩) | ((with_reducible refine (spec_l1In_no _ _ _ (by omega) _).mono ?_); rintro e w' ⟨rfl, rfl⟩))
            | (go_at_call 108; refine (S1.out _).mono ?_; rintro e w5 ⟨rfl, rfl⟩)
            | (go_at_call 107; refine (spec_l1LeastR _ _ _).mono ?_; rintro e w5 ⟨rfl, rfl⟩; rw [L1.out]))
          have hlt5 := Hown4.out.lt
          have kb := Bk.new w5 72 #[.int .i64 f, .int .i64 0, .int .i64 0]
          have kO := Hown4.out.alloc (.cells #[.int .i64 f, .int .i64 0, .int .i64 0] 72)
          have kB := Hb4.out.alloc hbs4 (.cells #[.int .i64 f, .int .i64 0, .int .i64 0] 72)
          have kz : w5.heap.size < (w5.alloc (.cells #[.int .i64 f, .int .i64 0, .int .i64 0] 72)).heap.size := by rw [World.size_alloc]; omega
          generalize w5.alloc (.cells #[.int .i64 f, .int .i64 0, .int .i64 0] 72) = W at kb kO kB kz ⊢
          have c0 := kb.cell 0
          have kbd := kb.drew
          have kOd := own_drew kO 1
          have kBd := kB.drew
          have hKb := hide kbd; have hKO := hide kOd; have hKB := hide kBd; clear kb kO kB kbd kOd kBd Hown4 Hb4
          refine wp_region_still_tail 7 (by kernel_rfl) (by kernel_rfl) ?_
          simp only [List.take_succ_cons, List.take_zero, List.drop_succ_cons, List.drop_zero]
          still_step
          still_step
          still_step
          refine wpStill_step (fun K hK => ?_)
          go_simp
          refine ⟨_, S2.out _, hK _ ?_⟩
          clear hK K
          still_step
          refine wpStill_step (fun K hK => ?_)
          go_simp
          have eW : IntKind.i64.wrap (f + l7) = f + l7 := IntWalk.i64_in _ (by omega)
          rw [eW]
          clear eW
          refine ⟨_, spec_l1LeastR _ _ _, hK _ ?_⟩
          rw [L2.out]
          clear hK K
          still_step
          try refine wpStill_nil ?_
          change wpList _ _ _ _ _ (World.drew _)
          have kb : Bk W.drew w5.heap.size 72 #[.int .i64 f, .int .i64 0, .int .i64 0] := hKb.out
          have kO : W.drew.ownsRow w.heap.size 72 3 _ acc.length (rcells acc) := hKO.out
          have kB : Below w.heap.size w W.drew := hKB.out
          clear hKb hKO hKB c0 kz
          generalize W.drew = V at kb kO kB ⊢
          have c0 := kb.cell 0
          have c1 := kb.cell 1
          have c2 := kb.cell 2
          have z1 := kb.frozen 1
          have z2 := kb.frozen 2
          have kb2 := (kb.set 1 (.int .i64 t)).set 2 (.int .i64 (t + -2000000))
          have kO2 := own_far (own_far kO (p := ⟨w5.heap.size, 1, none⟩) (.int .i64 t) (fun k hk => by have := (hlt5 k hk).2; show k ≠ w5.heap.size; omega)) (p := ⟨w5.heap.size, 2, none⟩) (.int .i64 (t + -2000000)) (fun k hk => by have := (hlt5 k hk).2; show k ≠ w5.heap.size; omega)
          have kB2 := (kB.setCell (p := ⟨w5.heap.size, 1, none⟩) hbs4 (.int .i64 t)).setCell (p := ⟨w5.heap.size, 2, none⟩) hbs4 (.int .i64 (t + -2000000))
          have Kb2 := hide kb2; have KO2 := hide kO2; have KB2 := hide kB2; have Hlt5 := hide hlt5; clear kb kO kB kb2 kO2 kB2 hlt5
          go_wp2_with (at_builtin; refine wpList_push' rfl _ _ _ rfl okRow rfl KO2.out _ rfl (by simp [World.setCell]) rfl (by simp [Value.oneCell']) (by unfold maxLen; omega) (by omega) KB2.out.size ?_; intro v1 w6 hown6 hg6; have hk1 : w6.cell? ⟨w5.heap.size, 1, none⟩ = some (.int .i64 t) := (World.cell?_of_block (hg6.block w5.heap.size (Kb2.out.alloc _).lt (fun e => by have := (Hlt5.out _ e.symm).2; omega))).trans ((Kb2.out.alloc _).cell 1))
          go_roundw
          case rel => exact ⟨k + 1, pn, t, acc ++ [⟨f, t, _⟩], by omega, by go_num, rfl, rfl, b6, by omega, by omega, by simp; omega, HZ.out, by rw [List.length_append, List.length_singleton, rcells_append]; exact hown6, belowPush KB2.out KO2.out KB2.out.size hg6⟩
          case measure => simp [intOf]; omega
      · obtain rfl : k = n := by omega
        rw [Nat.sub_self, triS_end] at hlp
        have hn3 : acc.length ≤ 9223372036854775807 := by omega
        have Hlp := hide hlp; clear hlp
        go_wp2_with fail
        refine (spec_l7Good _ acc many _ (Rd.of_own Hown.out) hn3).mono ?_
        rintro e2 w2 ⟨rfl, hb2⟩
        have Hown2 := hide (own_keep Hown.out hb2); have Hb2 := hide (Hb.out.trans (hb2.mono hbs)); clear hb2
        by_cases g : goodRows acc many = true
        · by_cases g2 : e < s.size
          · have HF : Hid (F = _) := hide (Hlp.out.symm.trans ((if_pos g).trans (if_pos g2))); clear Hlp
            rw [g]; clear g
            go_wp2
            go_ret3
            rw [HF.out]
            exact ⟨_, rfl, World.ownsRow_nil _ _ _ _, Hb2.out⟩
          · have HF : Hid (F = _) := hide (Hlp.out.symm.trans ((if_pos g).trans (if_neg g2))); clear Hlp
            obtain rfl : e = s.size := by omega
            rw [g]; clear g
            go_wp2
            go_ret3
            rw [HF.out]
            exact ⟨_, rfl, Hown2.out, Hb2.out⟩
        · have HF : Hid (F = _) := hide (Hlp.out.symm.trans (if_neg g)); clear Hlp
          have g' : goodRows acc many = false := by simpa using g
          rw [g']; clear g g'
          go_wp2
          go_ret3
          rw [HF.out]
          exact ⟨_, rfl, World.ownsRow_nil _ _ _ _, Hb2.out⟩
  · have hF : F = ([], 1, false) := by
      rw [hI]
      by_cases h1 : 1 ≤ many ∧ many ≤ 300
      · rw [if_pos h1, if_neg (fun h => hgo ⟨h1, h⟩)]
      · rw [if_neg h1]
    have HF := hide hF; clear hF hI
    by_cases hm : 1 ≤ many ∧ many ≤ 300
    · obtain ⟨hm1, hm2⟩ := hm
      by_cases hok : ok = true
      · subst hok
        have hn : ¬ n ≤ 300 := fun h => hgo ⟨⟨hm1, hm2⟩, rfl, h⟩
        clear hgo
        go_enter Try.func60, Try.ntmps60
        go_wp2_with (first
          | (go_at_call 81; go_in)
          | (go_at_call 20; refine (Hc.out _).mono ?_; rintro e w1 ⟨rfl, hb1⟩))
        go_ret3
        rw [HF.out]
        exact ⟨_, rfl, World.ownsRow_nil _ _ _ _, hb1⟩
      · obtain rfl : ok = false := by simpa using hok
        clear hgo hok
        go_enter Try.func60, Try.ntmps60
        go_wp2_with (first
          | (go_at_call 81; go_in)
          | (go_at_call 20; refine (Hc.out _).mono ?_; rintro e w1 ⟨rfl, hb1⟩))
        go_ret3
        rw [HF.out]
        exact ⟨_, rfl, World.ownsRow_nil _ _ _ _, hb1⟩
    · clear hgo
      have hm2 : many < 1 ∨ 300 < many := by omega
      clear hm
      go_enter Try.func60, Try.ntmps60
      go_wp2_with (first
        | (go_at_call 81; first | ((with_reducible refine (spec_l1In_yes _ _ _ (by omega) (by omega) _).mono ?_); rintro e w' ⟨rfl, rfl⟩) | ((with_reducible refine (spec_l1In_no _ _ _ (by omega) _).mono ?_); rintro e w' ⟨rfl, rfl⟩))
        | (go_at_call 20; refine (Hc.out _).mono ?_; rintro e w1 ⟨rfl, hb1⟩))
      go_ret3
      rw [HF.out]
      exact ⟨_, rfl, World.ownsRow_nil _ _ _ _, hb1⟩
end Go.Proofs.Ytheddnjhkcpmnaa
