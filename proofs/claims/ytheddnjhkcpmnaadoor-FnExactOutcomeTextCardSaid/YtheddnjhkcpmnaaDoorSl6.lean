
/- toIntS, eqIntS, markIntS, heldIntS, szIntS: what the Go text does. No condition. -/
import Derived.Test.YtheddnjhkcpmnaaDoorMem
import Derived.Test.YtheddnjhkcpmnaaDoorChecked
import Derived.Handy
import Derived.Deep.Light
import Derived.Deep.QuietTactic
import Derived.BigQuiet
set_option linter.unusedSimpArgs false
set_option linter.unusedVariables false
set_option maxRecDepth 100000
namespace Go.Proofs.YtheddnjhkcpmnaaDoor
open Go.RowKit

theorem okI64 : SliceOk Tryd.prog 22 3 (.int .i64 0) 1 8 := .mk Tryd.underlying22 (by kernel_rfl) rfl (by decide)

set_option maxHeartbeats 400000 in
theorem toIntS (v : Value) (zs : List Int) (w : World) (hr : Rd w w.heap.size v zs.length (icells .i64 zs)) (hl : zs.length ≤ 1048576) :
    Calls Tryd.prog 29 #[v] w fun e w' => ∃ v', e = .returned v' ∧ w'.ownsRow w.heap.size 3 1 v' zs.length (icells .i64 zs) ∧ Below w.heap.size w w' := by
  obtain ⟨A, c, rfl, hn, hc, hcell⟩ := id hr
  go_enter Tryd.func29, Tryd.ntmps29
  go_wp2_with (at_make; go_must (refine wpList_makeN rfl _ _ _ rfl okI64 zs.length rfl rfl (by omega) (by unfold maxLen; omega) ?_); intro w1 hown1 hb1)
  go_loopw [4] (fun i wr => ∃ k : Nat, k ≤ zs.length ∧ i = .int .i64 k ∧ wr.ownsRow w.heap.size 3 1 (.slice (some ⟨w.heap.size, 0, none⟩) zs.length zs.length) zs.length (icells .i64 (filled zs k)) ∧ Below w.heap.size w wr) (fun i _ => zs.length - (intOf i).toNat)
  case atStart => exact ⟨0, by omega, rfl, by rw [filled_zero, ← made_int]; exact hown1, hb1⟩
  case round =>
    obtain ⟨k, hk, rfl, hown, hb⟩ := hrel
    by_cases hlt : k < zs.length
    · obtain ⟨b, o, rfl, hbB, hsrc0⟩ := hr.at_ (j := k) (by rw [icells_length]; exact hlt)
      rw [icells_get _ _ hlt] at hsrc0
      have hsrc : wr.cell? ⟨b, o + k, none⟩ = some (.int .i64 zs[k]) := (hb.cell (p := ⟨b, o + k, none⟩) hbB).trans hsrc0
      obtain ⟨old, hdst⟩ := own_at hown (j := k) (by omega)
      have hfr := hown.frozenAt k
      have Hown := hide hown; have Hb := hide hb; clear hown hb hsrc0 hcell hr hown1 hb1
      go_wp2
      go_roundw
      case rel =>
        refine ⟨k + 1, by omega, by go_num, ?_, Hb.out.setCell (Nat.le_refl _) _⟩
        have := (Hown.out.stored k (.int .i64 zs[k])).1
        rw [icells_set, filled_set _ _ hlt] at this
        exact this
      case measure => simp [intOf]; omega
    · obtain rfl : k = zs.length := by omega
      go_wp2
      go_ret
      exact ⟨_, rfl, by rw [filled_all] at hown; exact hown, hb⟩

set_option maxHeartbeats 400000 in
theorem eqIntS (v v2 : Value) (zs : List Int) (w : World) (B B2 : Nat) (hr : Rd w B v zs.length (icells .i64 zs)) (hr2 : Rd w B2 v2 zs.length (icells .i64 zs)) (hl : zs.length ≤ 9223372036854775807) :
    Calls Tryd.prog 35 #[v, v2] w fun e w' => e = .returned (.bool true) ∧ ∃ q, w' = w.drewN q := by
  obtain ⟨A, c, rfl, hn, hc, hcell⟩ := id hr
  obtain ⟨A2, c2, rfl, hn2, hc2, hcell2⟩ := id hr2
  go_enter Tryd.func35, Tryd.ntmps35
  go_wp2
  go_loopw [5] (fun i wr => ∃ k q : Nat, k ≤ zs.length ∧ i = .int .i64 k ∧ wr = w.drewN q) (fun i _ => zs.length - (intOf i).toNat)
  case atStart => exact ⟨0, 0, by omega, rfl, rfl⟩
  case round =>
    obtain ⟨k, q, hk, rfl, rfl⟩ := hrel
    by_cases hlt : k < zs.length
    · obtain ⟨b, o, rfl, hbB, hsrc⟩ := hr.at_ (j := k) (by rw [icells_length]; exact hlt)
      obtain ⟨b2, o2, rfl, hbB2, hsrc2⟩ := hr2.at_ (j := k) (by rw [icells_length]; exact hlt)
      rw [icells_get _ _ hlt] at hsrc hsrc2
      clear hcell hcell2 hr hr2
      go_wp2
      go_quiet (fail)
      go_wp2
      go_roundw
      case rel => exact ⟨k + 1, _, by omega, by go_num, rfl⟩
      case measure => simp [intOf]; omega
    · obtain rfl : k = zs.length := by omega
      go_wp2
      go_ret
      exact ⟨rfl, _, rfl⟩
def iota (k : Int) (n : Nat) : List Int := (List.range n).map fun (j : Nat) => k + (j : Int)
theorem iota_length (k : Int) (n : Nat) : (iota k n).length = n := by simp [iota]
theorem iota_get (k : Int) (n j : Nat) (h : j < n) : (iota k n)[j]'(by rw [iota_length]; exact h) = k + j := by simp [iota]
theorem iota_succ (k : Int) (n : Nat) : iota k (n + 1) = iota k n ++ [k + n] := by simp [iota, List.range_succ]
theorem mark_set (zs : List Int) (k : Int) (j : Nat) (h : j < zs.length) : (iota k j ++ zs.drop j).set j (k + j) = iota k (j + 1) ++ zs.drop (j + 1) := by
  rw [List.set_append, if_neg (by rw [iota_length]; omega), iota_length, Nat.sub_self, List.drop_eq_getElem_cons h, iota_succ, List.set_cons_zero, List.append_assoc]
  rfl
theorem grown_set {a w : World} {g : Nat} (h : a.grownBy w (some g)) {p : Addr} (hp : p.block = g) (u : Value) : a.grownBy (w.setCell p u) (some g) :=
  ⟨h.os, h.tape, h.output, by simpa [World.setCell] using h.size, fun i hi hne => (Below.heap_setCell w p u i (by rintro rfl; exact hne (by rw [hp]))).trans (h.block i hi hne)⟩

theorem szIntS (v : Value) (n : Nat) (cs : List Value) (left : Int) (w : World) (B : Nat) (hr : Rd w B v n cs) (h1 : 0 ≤ left) (h2 : left ≤ 4611686018427387904) :
    Calls Tryd.prog 24 #[v, .int .i64 left] w fun e w' => e = .returned (.int .i64 (if (n : Int) ≤ left then left - n else -1)) ∧ w = w' := by
  obtain ⟨A, c, rfl, hn, hc, hcell⟩ := id hr
  have hn' : n ≤ 9223372036854775807 := by unfold maxLen at hc; omega
  clear hcell hr hn hc
  by_cases g : (n : Int) ≤ left
  all_goals
    go_enter Tryd.func24, Tryd.ntmps24
    go_wp2
    all_goals first
      | (exfalso; omega)
      | (go_ret
         exact ⟨retI (by first | rfl | omega | rw [if_pos g] | rw [if_neg (by omega)]), rfl⟩)
end Go.Proofs.YtheddnjhkcpmnaaDoor
set_option linter.unusedVariables false
namespace Go.Proofs.YtheddnjhkcpmnaaDoor
open Go.RowKit
theorem eqIntSB (v v2 : Value) (zs : List Int) (w : World) (hr : Rd w w.heap.size v zs.length (icells .i64 zs)) (hr2 : Rd w w.heap.size v2 zs.length (icells .i64 zs)) (hl : zs.length ≤ 9223372036854775807) :
    Calls Tryd.prog 35 #[v, v2] w fun e w' => e = .returned (.bool true) ∧ Below w.heap.size w w' :=
  (eqIntS v v2 zs w _ _ hr hr2 hl).mono fun e w' ⟨h1, q, h2⟩ => ⟨h1, by rw [h2]; exact below_drewN (Below.refl _ _) q⟩
end Go.Proofs.YtheddnjhkcpmnaaDoor
