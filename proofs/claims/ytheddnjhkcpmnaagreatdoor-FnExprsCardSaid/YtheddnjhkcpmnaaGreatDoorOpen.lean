
/- What an argument that is a slice reads as. No condition. -/
import Derived.Test.YtheddnjhkcpmnaaGreatDoorMem
import Derived.ProofKit
import Derived.ChangeSlices
set_option linter.unusedSimpArgs false
set_option linter.unusedVariables false
namespace Go.Proofs.YtheddnjhkcpmnaaGreatDoor
open Go.RowKit Go.WideShapes Go.ChangeShapes

theorem add_none (b o j : Nat) : ((⟨b, o, none⟩ : Addr).add j) = ⟨b, o + j, none⟩ := by unfold Addr.add; split <;> simp_all
section
variable {H : Type} {enc : TypeId × Value → H} {P : Program} {w : World}
theorem open_ints_rd {r : Reach} {b0 t e : Nat} {k : IntKind} {v : Value} {d : DataW H} {p : List MemPlace} (ht : P.underlying t = some (.slice e)) (he : P.underlying e = some (.int k)) (hc : P.cellsOf e = 1)
    (hv : Value.okWide P w r b0 t v) (h : DataW.Trod enc P w 0 (fun _ => true) true t v d p) :
    ∃ zs : List Int, Rd w w.heap.size v zs.length (icells k zs) ∧ (∀ z ∈ zs, (Lit.int k z).wf = true) := by
  obtain ⟨a0, len, cap, rfl⟩ := okWide_slice ht hv
  obtain ⟨fuel, hf⟩ := h
  rcases open_ints ht he hc hf with ⟨hcs, _⟩ | ⟨a, len', cap', zs, hcs, _, hl, hm, hz, _, hcell, hwz⟩
  · simp [Value.cells] at hcs
    obtain ⟨rfl, rfl, rfl⟩ := hcs
    exact ⟨[], ⟨none, 0, rfl, Nat.le_refl _, by unfold maxLen; omega, fun j u hu => by simp [icells] at hu⟩, fun z hz => by simp at hz⟩
  · simp [Value.cells] at hcs
    obtain ⟨rfl, rfl, rfl⟩ := hcs
    rw [if_pos rfl] at hz
    have hlt : (zs.take len).length = len := by rw [List.length_take]; omega
    refine ⟨zs.take len, ⟨some a, cap, by rw [hlt], by rw [hlt]; exact hl, hm, fun j u hu => ?_⟩, fun z hz' => hwz z (List.mem_of_mem_take hz')⟩
    have hj : j < len := by
      have := (List.getElem?_eq_some_iff.1 hu).1
      rw [icells_length, hlt] at this; exact this
    have hx := hcell j (by omega)
    obtain ⟨b, o, spot⟩ := a
    have hspot : spot = none := by
      have := World.cell?_spot (hcell 0 (by omega))
      simpa [Addr.add] using this
    subst hspot
    rw [add_none] at hx
    refine ⟨b, o, rfl, World.block_lt_of_cell? _ _ hx, ?_⟩
    rw [hx]
    simp [icells, List.getElem?_take, hj] at hu
    obtain ⟨z, hz1, rfl⟩ := hu
    simp [List.getD, hz1]
end
end Go.Proofs.YtheddnjhkcpmnaaGreatDoor
