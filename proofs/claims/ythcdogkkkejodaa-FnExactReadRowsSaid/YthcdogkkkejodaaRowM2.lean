
/- markRowS, heldRowS: what the Go text does. No condition. -/
import Derived.Test.YthcdogkkkejodaaRowM
import Derived.Test.YthcdogkkkejodaaMem3
set_option linter.unusedSimpArgs false
set_option linter.unusedVariables false
set_option maxRecDepth 100000
namespace Go.Proofs.Ythcdogkkkejodaa
open Go.RowKit

def iotaR (k : Int) (n : Nat) : List R3 := (List.range n).map fun (j : Nat) => ⟨k + 3 * (j : Int), k + 3 * (j : Int) + 1, k + 3 * (j : Int) + 1 + 1⟩
theorem iotaR_length (k : Int) (n : Nat) : (iotaR k n).length = n := by simp [iotaR]
theorem iotaR_get (k : Int) (n j : Nat) (h : j < n) : (iotaR k n)[j]'(by rw [iotaR_length]; exact h) = ⟨k + 3 * (j : Int), k + 3 * (j : Int) + 1, k + 3 * (j : Int) + 1 + 1⟩ := by simp [iotaR]
theorem iotaR_succ (k : Int) (n : Nat) : iotaR k (n + 1) = iotaR k n ++ [⟨k + 3 * (n : Int), k + 3 * (n : Int) + 1, k + 3 * (n : Int) + 1 + 1⟩] := by simp [iotaR, List.range_succ]
theorem markR_set (l : List R3) (k : Int) (j : Nat) (h : j < l.length) : (iotaR k j ++ l.drop j).set j ⟨k + 3 * (j : Int), k + 3 * (j : Int) + 1, k + 3 * (j : Int) + 1 + 1⟩ = iotaR k (j + 1) ++ l.drop (j + 1) := by
  rw [List.set_append, if_neg (by rw [iotaR_length]; omega), iotaR_length, Nat.sub_self, List.drop_eq_getElem_cons h, iotaR_succ, List.set_cons_zero, List.append_assoc]
  rfl
theorem grown_setR {a w : World} {g : Nat} (h : a.grownBy w (some g)) {p : Addr} (hp : p.block = g) (u : Value) : a.grownBy (w.setCell p u) (some g) :=
  ⟨h.os, h.tape, h.output, by simpa [World.setCell] using h.size, fun i hi hne => (Below.heap_setCell w p u i (by rintro rfl; exact hne (by rw [hp]))).trans (h.block i hi hne)⟩

set_option maxHeartbeats 800000 in
theorem markRowS (v : Value) (l : List R3) (k0 : Int) (w : World) (base : Nat) (hown : w.ownsRow base 80 3 v l.length (rcells l)) (hk : 0 ≤ k0) (hk2 : k0 + 3 * l.length ≤ 4000000000000000000) :
    Calls Try.prog 33 #[v, .int .i64 k0] w fun e w' => e = .returned (.int .i64 (k0 + 3 * l.length)) ∧ w'.ownsRow base 80 3 v l.length (rcells (iotaR k0 l.length)) ∧ w.grownBy w' v.ownBlock := by
  rcases id hown.2 with ⟨rfl, h0⟩ | ⟨g, cap, cur, rfl, hg, hh, hn, hc, _⟩
  · obtain rfl := List.eq_nil_of_length_eq_zero h0
    go_enter Try.func33, Try.ntmps33
    go_wp2
    go_rounds 1
    go_ret
    exact ⟨retI (by simp), World.ownsRow_nil _ _ _ _, World.grownBy.refl _ _⟩
  · have Hown := hide hown; clear hown hh
    go_enter Try.func33, Try.ntmps33
    go_wp2
    go_loopw [1, 5] (fun c i wr => ∃ j : Nat, j ≤ l.length ∧ i = .int .i64 j ∧ c = .int .i64 (k0 + 3 * j) ∧ wr.ownsRow base 80 3 (.slice (some ⟨g, 0, none⟩) l.length cap) l.length (rcells (iotaR k0 j ++ l.drop j)) ∧ w.grownBy wr (some g)) (fun _ i _ => l.length - (intOf i).toNat)
    case atStart => exact ⟨0, by omega, rfl, by simp, by simpa [iotaR] using Hown.out, World.grownBy.refl _ _⟩
    case round =>
      obtain ⟨j, hj, rfl, rfl, hown, hgr⟩ := hrel
      by_cases hlt : j < l.length
      · obtain ⟨d0, hd0⟩ := own_at hown (j := j * 3) (by omega)
        obtain ⟨d1, hd1⟩ := own_at hown (j := j * 3 + 1) (by omega)
        obtain ⟨d2, hd2⟩ := own_at hown (j := j * 3 + 2) (by omega)
        have hf0 := hown.frozenAt (j * 3)
        have hf1 := hown.frozenAt (j * 3 + 1)
        have hf2 := hown.frozenAt (j * 3 + 2)
        have Ho := hide hown; have Hg := hide hgr; clear hown hgr
        go_wp2
        go_roundw
        case rel =>
          refine ⟨j + 1, by omega, by go_num, by go_num, ?_, grown_setR (grown_setR (grown_setR Hg.out rfl _) rfl _) rfl _⟩
          have := own_set (own_set (own_set Ho.out (j * 3) (.int .i64 (k0 + 3 * j))) (j * 3 + 1) (.int .i64 (k0 + 3 * j + 1))) (j * 3 + 2) (.int .i64 (k0 + 3 * j + 1 + 1))
          have e := rcells_set (iotaR k0 j ++ l.drop j) j ⟨k0 + 3 * (j : Int), k0 + 3 * (j : Int) + 1, k0 + 3 * (j : Int) + 1 + 1⟩ (by rw [List.length_append, iotaR_length, List.length_drop]; omega)
          rw [e, markR_set _ _ _ hlt] at this
          exact this
        case measure => simp [intOf]; omega
      · obtain rfl : j = l.length := by omega
        rw [List.drop_length, List.append_nil] at hown
        have Ho := hide hown; have Hg := hide hgr; clear hown hgr
        go_wp2
        go_ret
        exact ⟨rfl, Ho.out, Hg.out⟩

set_option maxHeartbeats 800000 in
theorem heldRowS (v : Value) (n : Nat) (k0 : Int) (w : World) (B : Nat) (hr : Rd w B v n (rcells (iotaR k0 n))) (hk : 0 ≤ k0) (hk2 : k0 + 3 * n ≤ 4000000000000000000) :
    Calls Try.prog 34 #[v, .int .i64 k0] w fun e w' => e = .returned (.int .i64 (k0 + 3 * n)) ∧ w = w' := by
  obtain ⟨A, c, rfl, hn, hc, hcell⟩ := id hr
  have Hr := hide hr; clear hr hcell
  go_enter Try.func34, Try.ntmps34
  go_wp2
  go_loop [1, 5] (fun c i => ∃ j : Nat, j ≤ n ∧ i = .int .i64 j ∧ c = .int .i64 (k0 + 3 * j)) (fun _ i => n - (intOf i).toNat)
  case atStart => exact ⟨0, by omega, rfl, by simp⟩
  case round =>
    obtain ⟨j, hj, rfl, rfl⟩ := hrel
    by_cases hlt : j < n
    · obtain ⟨g0, g1, g2⟩ := rcells_get (iotaR k0 n) j (by rw [iotaR_length]; exact hlt)
      rw [iotaR_get _ _ _ hlt] at g0 g1 g2
      obtain ⟨b, o, rfl, hbB, s0⟩ := Hr.out.at3 g0
      obtain ⟨_, _, e, _, s1⟩ := Hr.out.at3 g1
      cases e
      obtain ⟨_, _, e, _, s2⟩ := Hr.out.at3 g2
      cases e
      rw [← Nat.add_assoc] at s1 s2
      clear Hr g0 g1 g2
      go_wp2
      go_round
      case rel => exact ⟨j + 1, by omega, by go_num, by go_num⟩
      case measure => simp [intOf]; omega
    · obtain rfl : j = n := by omega
      go_wp2
      go_ret
      exact ⟨rfl, rfl⟩
end Go.Proofs.Ythcdogkkkejodaa
