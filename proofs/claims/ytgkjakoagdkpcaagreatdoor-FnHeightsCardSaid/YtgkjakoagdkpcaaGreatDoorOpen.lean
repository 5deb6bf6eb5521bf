
/- What an argument that is a slice reads as. No condition. -/
import Derived.Test.YtgkjakoagdkpcaaGreatDoorMem
import Derived.ProofKit
import Derived.ChangeSlices
import Derived.Test.YtgkjakoagdkpcaaGreatDoorChecked
import Derived.Deep.QuietTactic
import Derived.BigQuiet
set_option linter.unusedSimpArgs false
set_option linter.unusedVariables false
namespace Go.Proofs.YtgkjakoagdkpcaaGreatDoor
open Go.RowKit Go.WideShapes Go.ChangeShapes

theorem add_none (b o j : Nat) : ((⟨b, o, none⟩ : Addr).add j) = ⟨b, o + j, none⟩ := by unfold Addr.add; split <;> simp_all
section
variable {H : Type} {enc : TypeId × Value → H} {P : Program} {w : World}
theorem open_ints_rd {r : Reach} {b0 t e : Nat} {k : IntKind} {v : Value} {d : DataW H} {p : List MemPlace} (ht : P.underlying t = some (.slice e)) (he : P.underlying e = some (.int k)) (hc : P.cellsOf e = 1)
    (hv : Value.okWide P w r b0 t v) (h : DataW.Trod enc P w 0 (fun _ => true) true t v d p) :
    ∃ zs : List Int, Rd w w.heap.size v zs.length (icells k zs) ∧ (∀ z ∈ zs, (Lit.int k z).wf = true) := by
  obtain ⟨a0, len, cap, rfl⟩ := okWide_slice ht hv
  obtain ⟨fuel, hf⟩ := h
  rcases open_ints ht he hc hf with ⟨hcs, _⟩ | ⟨a, len', cap', zs, hcs, _, hl, hm, hz, _, hcell, hwz⟩
  · simp [Value.cells] at hcs
    obtain ⟨rfl, rfl, rfl⟩ := hcs
    exact ⟨[], ⟨none, 0, rfl, Nat.le_refl _, by unfold maxLen; omega, fun j u hu => by simp [icells] at hu⟩, fun z hz => by simp at hz⟩
  · simp [Value.cells] at hcs
    obtain ⟨rfl, rfl, rfl⟩ := hcs
    rw [if_pos rfl] at hz
    have hlt : (zs.take len).length = len := by rw [List.length_take]; omega
    refine ⟨zs.take len, ⟨some a, cap, by rw [hlt], by rw [hlt]; exact hl, hm, fun j u hu => ?_⟩, fun z hz' => hwz z (List.mem_of_mem_take hz')⟩
    have hj : j < len := by
      have := (List.getElem?_eq_some_iff.1 hu).1
      rw [icells_length, hlt] at this; exact this
    have hx := hcell j (by omega)
    obtain ⟨b, o, spot⟩ := a
    have hspot : spot = none := by
      have := World.cell?_spot (hcell 0 (by omega))
      simpa [Addr.add] using this
    subst hspot
    rw [add_none] at hx
    refine ⟨b, o, rfl, World.block_lt_of_cell? _ _ hx, ?_⟩
    rw [hx]
    simp [icells, List.getElem?_take, hj] at hu
    obtain ⟨z, hz1, rfl⟩ := hu
    simp [List.getD, hz1]
end
end Go.Proofs.YtgkjakoagdkpcaaGreatDoor
set_option linter.unusedSimpArgs false
set_option linter.unusedVariables false
set_option maxRecDepth 100000
namespace Go.Proofs.YtgkjakoagdkpcaaGreatDoor
open Go.RowKit Go.WideShapes Go.ChangeShapes

def IsU8s (w : World) (v : Value) : Prop := ∃ zs : List Int, Rd w w.heap.size v zs.length (icells .u8 zs) ∧ (∀ z ∈ zs, (Lit.int .u8 z).wf = true)
theorem open_u8s {H : Type} {enc : TypeId × Value → H} {w : World} {r : Reach} {b0 : Nat} {v : Value} {d : DataW H} {p : List MemPlace}
    (hv : Value.okWide Tryz.prog w r b0 22 v) (h : DataW.Trod enc Tryz.prog w 0 (fun _ => true) true 22 v d p) (_ : ∀ x ∈ p, x.block < w.heap.size) : IsU8s w v :=
  open_ints_rd Tryz.underlying22 Tryz.underlying5 (by kernel_rfl) hv h
theorem bd_u8 {a : Int} (h : (Lit.int .u8 a).wf = true) : 0 ≤ a ∧ a ≤ 255 := by
  simp [Lit.wf, IntKind.min, IntKind.max, IntKind.bits, IntKind.signed] at h; omega
def bigB (a b : Nat) : Bool := decide ((1048576 : Int) < a ∨ (1048576 : Int) - a < b)
set_option maxHeartbeats 800000 in
theorem laws_big (A1 A2 : Option Addr) (c1 c2 a b : Nat) (ha : a ≤ 9223372036854775807) (hb : b ≤ 9223372036854775807) (w : World) :
    Calls Tryz.prog 4 #[.slice A1 a c1, .slice A2 b c2] w fun e w' => e = .returned (.bool (bigB a b)) ∧ w' = w := by
  by_cases h1 : (1048576 : Int) < a
  · have e : bigB a b = true := decide_eq_true (.inl h1)
    rw [e]; clear e
    go_enter Tryz.func4, Tryz.ntmps4
    go_wp2
    go_ret
    exact ⟨rfl, rfl⟩
  · by_cases h2 : (1048576 : Int) - a < b
    · have e : bigB a b = true := decide_eq_true (.inr h2)
      rw [e]; clear e
      go_enter Tryz.func4, Tryz.ntmps4
      go_wp2
      go_ret
      exact ⟨rfl, rfl⟩
    · have e : bigB a b = false := decide_eq_false (fun h => h.elim h1 h2)
      rw [e]; clear e
      go_enter Tryz.func4, Tryz.ntmps4
      go_wp2
      go_ret
      exact ⟨rfl, rfl⟩
end Go.Proofs.YtgkjakoagdkpcaaGreatDoor
set_option linter.unusedSimpArgs false
set_option linter.unusedVariables false
set_option maxRecDepth 100000
namespace Go.Proofs.YtgkjakoagdkpcaaGreatDoor
open Go.RowKit

set_option maxHeartbeats 1600000 in
theorem laws_sameInts (v v2 : Value) (zs : List Int) (w : World) (B B2 : Nat) (hr : Rd w B v zs.length (icells .i64 zs)) (hr2 : Rd w B2 v2 zs.length (icells .i64 zs)) :
    Calls Tryz.prog 10 #[v, v2] w fun e w' => e = .returned (.bool true) ∧ Below w.heap.size w w' := by
  have hl : zs.length ≤ 9223372036854775807 := by obtain ⟨_, _, _, h1, h2, _⟩ := id hr; unfold maxLen at h2; omega
  obtain ⟨A, c, rfl, _, _, _⟩ := id hr
  obtain ⟨A2, c2, rfl, _, _, _⟩ := id hr2
  have Hr := hide hr; have Hr2 := hide hr2
  clear hr hr2
  go_enter Tryz.func10, Tryz.ntmps10
  go_wp2
  go_loopw [13] (fun i wr => ∃ k q : Nat, k ≤ zs.length ∧ i = .int .i64 k ∧ wr = w.drewN q) (fun i _ => zs.length - (intOf i).toNat)
  case atStart => exact ⟨0, 0, by omega, rfl, rfl⟩
  case round =>
    obtain ⟨k, q, hk, rfl, rfl⟩ := hrel
    by_cases hlt : k < zs.length
    · obtain ⟨b, o, rfl, hb, h1⟩ := Hr.out.at_ (j := k) (by rw [icells_length]; exact hlt)
      obtain ⟨b2, o2, rfl, hb2, h2⟩ := Hr2.out.at_ (j := k) (by rw [icells_length]; exact hlt)
      rw [icells_get _ _ hlt] at h1 h2
      generalize zs[k] = z at *
      have hkI : (k : Int) < (zs.length : Int) := by omega
      have hk0 : (0 : Int) ≤ (k : Int) := by omega
      go_wp2
      go_quiet (fail)
      go_wp2
      go_roundw
      case rel => exact ⟨k + 1, _, by omega, by go_num, rfl⟩
      case measure => simp [intOf]; omega
    · have hkI : ¬ (k : Int) < (zs.length : Int) := by omega
      go_wp2
      go_ret
      exact ⟨rfl, below_drewN (Below.refl _ _) _⟩
end Go.Proofs.YtgkjakoagdkpcaaGreatDoor
