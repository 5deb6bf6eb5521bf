
/- Bools in memory: toBoolS, eqBoolS, szBoolS. No condition. -/
import Derived.Test.YtaebmliolpgmdaaMem2
import Derived.Test.YtaebmliolpgmdaaNst
import Derived.Test.YtaebmliolpgmdaaChecked
import Derived.Handy
import Derived.Deep.Light
import Derived.Deep.QuietTactic
import Derived.BigQuiet
set_option linter.unusedSimpArgs false
set_option linter.unusedVariables false
set_option maxRecDepth 100000
namespace Go.Proofs.Ytaebmliolpgmdaa
open Go.RowKit

def bbcells (zs : List Bool) : List Value := zs.map Value.bool
theorem bbcells_length (zs : List Bool) : (bbcells zs).length = zs.length := by simp [bbcells]
theorem bbcells_get (zs : List Bool) {j : Nat} (h : j < zs.length) : (bbcells zs)[j]'(by rw [bbcells_length]; exact h) = .bool zs[j] := by simp [bbcells]
theorem bbcells_set (zs : List Bool) (j : Nat) (x : Bool) : (bbcells zs).set j (.bool x) = bbcells (zs.set j x) := by simp [bbcells, List.map_set]
theorem bbcells_flat (l : List Bool) : l.flatMap (fun z => [Value.bool z]) = bbcells l := by
  induction l with
  | nil => rfl
  | cons z l ih => rw [List.flatMap_cons, ih]; rfl
theorem sc_bbcells {l : List Bool} : ∀ x ∈ bbcells l, sc x := by intro x hx; obtain ⟨z, _, rfl⟩ := List.mem_map.1 hx; trivial
theorem made_bool (n : Nat) : (madeCells (Value.bool false).cells (n * 1)).toList = bbcells (List.replicate n false) := by
  rw [Nat.mul_one]
  have e : (Value.bool false).cells = #[.bool false] := rfl
  rw [e, toList_madeCells_one]
  simp [bbcells]
theorem okBool : SliceOk Try.prog 72 4 (.bool false) 1 1 := .mk Try.underlying72 (by kernel_rfl) rfl (by decide)

set_option maxHeartbeats 400000 in
theorem toBoolS (v : Value) (zs : List Bool) (w : World) (hr : Rd w w.heap.size v zs.length (bbcells zs)) (hl : zs.length ≤ 1048576) :
    Calls Try.prog 111 #[v] w fun e w' => ∃ v', e = .returned v' ∧ w'.ownsRow w.heap.size 4 1 v' zs.length (bbcells zs) ∧ Below w.heap.size w w' := by
  obtain ⟨A, c, rfl, hn, hc, hcell⟩ := id hr
  go_enter Try.func111, Try.ntmps111
  go_wp2_with (at_make; go_must (refine wpList_makeN rfl _ _ _ rfl okBool zs.length rfl rfl (by omega) (by unfold maxLen; omega) ?_); intro w1 hown1 hb1)
  go_loopw [4] (fun i wr => ∃ k : Nat, k ≤ zs.length ∧ i = .int .i64 k ∧ wr.ownsRow w.heap.size 4 1 (.slice (some ⟨w.heap.size, 0, none⟩) zs.length zs.length) zs.length (bbcells (filledA false zs k)) ∧ Below w.heap.size w wr) (fun i _ => zs.length - (intOf i).toNat)
  case atStart => exact ⟨0, by omega, rfl, by rw [filledA_zero, ← made_bool]; exact hown1, hb1⟩
  case round =>
    obtain ⟨k, hk, rfl, hown, hb⟩ := hrel
    by_cases hlt : k < zs.length
    · obtain ⟨b, o, rfl, hbB, hsrc0⟩ := hr.at_ (j := k) (by rw [bbcells_length]; exact hlt)
      rw [bbcells_get _ hlt] at hsrc0
      have hsrc : wr.cell? ⟨b, o + k, none⟩ = some (.bool zs[k]) := (hb.cell (p := ⟨b, o + k, none⟩) hbB).trans hsrc0
      obtain ⟨old, hdst⟩ := own_at hown (j := k) (by omega)
      have hfr := hown.frozenAt k
      have Hown := hide hown; have Hb := hide hb; clear hown hb hsrc0 hcell hr hown1 hb1
      go_wp2
      go_roundw
      case rel =>
        refine ⟨k + 1, by omega, by go_num, ?_, Hb.out.setCell (Nat.le_refl _) _⟩
        have := (Hown.out.stored k (.bool zs[k])).1
        rw [bbcells_set, filledA_set _ _ _ hlt] at this
        exact this
      case measure => simp [intOf]; omega
    · obtain rfl : k = zs.length := by omega
      go_wp2
      go_ret
      exact ⟨_, rfl, by rw [filledA_all] at hown; exact hown, hb⟩

set_option maxHeartbeats 400000 in
theorem eqBoolS0 (v v2 : Value) (zs : List Bool) (w : World) (B B2 : Nat) (hr : Rd w B v zs.length (bbcells zs)) (hr2 : Rd w B2 v2 zs.length (bbcells zs)) (hl : zs.length ≤ 9223372036854775807) :
    Calls Try.prog 112 #[v, v2] w fun e w' => e = .returned (.bool true) ∧ ∃ q, w' = w.drewN q := by
  obtain ⟨A, c, rfl, hn, hc, hcell⟩ := id hr
  obtain ⟨A2, c2, rfl, hn2, hc2, hcell2⟩ := id hr2
  go_enter Try.func112, Try.ntmps112
  go_wp2
  go_loopw [5] (fun i wr => ∃ k q : Nat, k ≤ zs.length ∧ i = .int .i64 k ∧ wr = w.drewN q) (fun i _ => zs.length - (intOf i).toNat)
  case atStart => exact ⟨0, 0, by omega, rfl, rfl⟩
  case round =>
    obtain ⟨k, q, hk, rfl, rfl⟩ := hrel
    by_cases hlt : k < zs.length
    · obtain ⟨b, o, rfl, hbB, hsrc⟩ := hr.at_ (j := k) (by rw [bbcells_length]; exact hlt)
      obtain ⟨b2, o2, rfl, hbB2, hsrc2⟩ := hr2.at_ (j := k) (by rw [bbcells_length]; exact hlt)
      rw [bbcells_get _ hlt] at hsrc hsrc2
      clear hcell hcell2 hr hr2
      go_wp2
      go_quiet (fail)
      go_wp2
      go_roundw
      case rel => exact ⟨k + 1, _, by omega, by go_num, rfl⟩
      case measure => simp [intOf]; omega
    · obtain rfl : k = zs.length := by omega
      go_wp2
      go_ret
      exact ⟨rfl, _, rfl⟩
theorem eqBoolS (v v2 : Value) (zs : List Bool) (w : World) (hr : Rd w w.heap.size v zs.length (bbcells zs)) (hr2 : Rd w w.heap.size v2 zs.length (bbcells zs)) (hl : zs.length ≤ 9223372036854775807) :
    Calls Try.prog 112 #[v, v2] w fun e w' => e = .returned (.bool true) ∧ Below w.heap.size w w' :=
  (eqBoolS0 v v2 zs w _ _ hr hr2 hl).mono fun e w' ⟨h1, q, h2⟩ => ⟨h1, by rw [h2]; exact below_drewN (Below.refl _ _) q⟩
theorem szBoolS (v : Value) (n : Nat) (cs : List Value) (left : Int) (w : World) (B : Nat) (hr : Rd w B v n cs) (h1 : 0 ≤ left) (h2 : left ≤ 4611686018427387904) :
    Calls Try.prog 110 #[v, .int .i64 left] w fun e w' => e = .returned (.int .i64 (if (n : Int) ≤ left then left - n else -1)) ∧ w = w' := by
  obtain ⟨A, c, rfl, hn, hc, hcell⟩ := id hr
  have hn' : n ≤ 9223372036854775807 := by unfold maxLen at hc; omega
  clear hcell hr hn hc
  by_cases g : (n : Int) ≤ left
  all_goals
    go_enter Try.func110, Try.ntmps110
    go_wp2
    all_goals first
      | (exfalso; omega)
      | (go_ret
         exact ⟨retI (by first | rfl | omega | rw [if_pos g] | rw [if_neg (by omega)]), rfl⟩)
end Go.Proofs.Ytaebmliolpgmdaa
