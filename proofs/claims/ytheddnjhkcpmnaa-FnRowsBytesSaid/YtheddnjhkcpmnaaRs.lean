
/- impl.readS: what the Go text returns. No condition. -/
import Derived.Test.YtheddnjhkcpmnaaRd
import Derived.Test.YtheddnjhkcpmnaaRsP
import Derived.Deep.Light
import Derived.Handy
import Derived.Deep.RegionWith
set_option linter.unusedSimpArgs false
set_option linter.unusedVariables false
set_option maxRecDepth 100000
namespace Go.Proofs.Ytheddnjhkcpmnaa
open Go.RowKit

theorem retRS {r : Int × Nat × Nat × Bool} {a b c : Int} {d : Bool} (h : (r.1, (r.2.1 : Int), (r.2.2.1 : Int), r.2.2.2) = (a, b, c, d)) :
    Ending.returned (.tuple #[.int .i64 a, .int .i64 b, .int .i64 c, .bool d]) = .returned (.tuple #[.int .i64 r.1, .int .i64 r.2.1, .int .i64 r.2.2.1, .bool r.2.2.2]) := by
  simp only [Prod.mk.injEq] at h
  obtain ⟨h1, h2, h3, h4⟩ := h
  rw [h1, h2, h3, h4]

set_option maxHeartbeats 1600000 in
theorem impl_readS (s : ByteArray) (a : Int) (hs : s.size ≤ 9223372036854775807) (h1 : -9223372036854775808 ≤ a) (h2 : a ≤ 9223372036854775807) (w : World) :
    Calls Try.prog 68 #[.string s, .int .i64 a] w fun e w' => e = .returned (.tuple #[.int .i64 (rdS s a).1, .int .i64 (rdS s a).2.1, .int .i64 (rdS s a).2.2.1, .bool (rdS s a).2.2.2]) ∧ Below w.heap.size w w' := by
  have hc := fun w => impl_lebEnd s a hs h1 h2 w
  rcases endF_ways s a with ⟨n, m, rfl, hnm, hk, hlt, hz, he, hlow, hall⟩ | h
  · have Hr := hide (rdS_ok s n m he (by omega) hlt)
    have hv := valS_bd s hnm hlt hk
    rw [he] at hc
    have hb := fun w => impl_lebBits s n m (by omega) (by omega) (by omega) hz w
    have Hc := Lib.hid hc; clear hc he hall
    by_cases k9 : m - n = 10 ∧ s[m - 1].toNat ≠ 0 ∧ s[m - 1].toNat ≠ 127
    · obtain ⟨k9, l0, l1⟩ := k9
      have Hb := Lib.hid hb; clear hb hv
      have b0 : ((s[m - 1].toNat : Int) != 0) = true := by rw [bne_iff_ne]; omega
      have b1 : ((s[m - 1].toNat : Int) != 127) = true := by rw [bne_iff_ne]; omega
      go_enter Try.func68, Try.ntmps68
      go_wp2_with (first
        | (go_at_call 110; refine (Hc.out _).mono ?_; rintro e w' ⟨rfl, rfl⟩)
        | (go_at_call 111; refine (Hb.out _).mono ?_; rintro e w' ⟨rfl, rfl⟩))
      refine bodyPost_ret (results4 rfl _ _ _) rfl ?_
      refine ⟨retRS ?_, Below.refl _ _⟩
      rw [Hr.out]
      simp [k9, l0, l1]
    · have hv := hv k9
      have eA := fun h10 => bits_ten s (n := n) hlt h10 hv
      have eB := fun h10 => bits_few s hnm hlt hk h10 hlow
      clear hlow
      have hq : ∀ V, valS s n m = V → lebs V ≠ part s n m → (lebs V == (s.extract n m).toList) = false := by
        intro V _ h; rw [extract_eq, beq_eq_false_iff_ne]; simpa using h
      have hp : ∀ V, valS s n m = V → -9223372036854775808 ≤ V ∧ V ≤ 9223372036854775807 → ¬ lebs V ≠ part s n m → ∀ w, Calls Try.prog 67 #[.int .i64 V] w fun e w' => e = .returned (.string (s.extract n m)) ∧ Below w.heap.size w w' := by
        intro V _ hv h w
        rw [extract_eq, ← Decidable.not_not.1 h]
        exact impl_putS V hv.1 hv.2 w
      have hp0 := fun V (hv : -9223372036854775808 ≤ V ∧ V ≤ 9223372036854775807) w => impl_putS V hv.1 hv.2 w
      generalize valU (part s n m) = U at *
      generalize valS s n m = V at *
      have Hq := hide (hq V rfl); clear hq
      have Hp := hide (hp V rfl hv); clear hp
      have Hp0 := hide (hp0 V hv); clear hp0
      have Hb := Lib.hid hb; clear hb
      by_cases k10 : m - n = 10 <;> by_cases l0 : s[m - 1].toNat = 0 <;> by_cases l1 : s[m - 1].toNat = 127 <;> by_cases g : lebs V ≠ part s n m
      all_goals first
      | (exfalso; omega)
      | (have Hr := hide Hr.out
         first | (have eA := eA k10; clear eB) | (have eB := eB k10; clear eA)
         clear k9 hv
         first | (have hne := Hq.out g; have Hp := hide Hp0.out) | (have Hp := hide (Hp.out g))
         have Hg := hide g; clear g Hq Hp0
         go_enter Try.func68, Try.ntmps68
         go_wp2_with (first
           | (go_at_call 110; refine (Hc.out _).mono ?_; rintro e w' ⟨rfl, rfl⟩)
           | (go_at_call 111; refine (Hb.out _).mono ?_; rintro e w' ⟨rfl, rfl⟩))
         go_region_with (go_at_call 67; refine (Hp.out _).mono ?_; rintro e w' ⟨rfl, hb⟩)
         all_goals
           go_wp2
           refine bodyPost_ret (results4 rfl _ _ _) rfl ?_
           refine ⟨retRS ?_, ?_⟩
           · rw [Hr.out]
             have g := Hg.out
             simp [k10, l0, l1, g]
           · first | exact hb | exact ((Below.refl _ _).drew).trans hb)
  · have hr : ∃ c : Nat, c ≠ 0 ∧ endF s.data.toList a = (0, c) := by
      rcases h with ⟨h, _⟩ | ⟨h | h, _⟩
      · exact ⟨1, by decide, h⟩
      · exact ⟨2, by decide, h⟩
      · exact ⟨3, by decide, h⟩
    obtain ⟨c, hc0, he⟩ := hr
    have Hr := hide (rdS_code s a he hc0)
    rw [he] at hc
    have Hc := Lib.hid hc; clear hc he h
    have hc1 : ((c : Int) != 0) = true := by rw [bne_iff_ne]; omega
    go_enter Try.func68, Try.ntmps68
    go_wp2_with (go_at_call 110; refine (Hc.out _).mono ?_; rintro e w' ⟨rfl, rfl⟩)
    refine bodyPost_ret (results4 rfl _ _ _) rfl ?_
    refine ⟨retRS ?_, Below.refl _ _⟩
    rw [Hr.out]
    rfl
end Go.Proofs.Ytheddnjhkcpmnaa
