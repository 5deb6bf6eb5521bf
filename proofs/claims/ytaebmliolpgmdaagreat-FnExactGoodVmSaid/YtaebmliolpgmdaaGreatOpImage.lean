
/- What an argument of the type Image reads as. No condition. -/
import Derived.Test.YtaebmliolpgmdaaGreatNdImage
import Derived.Test.YtaebmliolpgmdaaGreatOpen2
import Derived.Test.YtaebmliolpgmdaaGreatNdCode
set_option linter.unusedSimpArgs false
set_option linter.unusedVariables false
set_option maxRecDepth 100000
namespace Go.Proofs.YtaebmliolpgmdaaGreat
open Go.RowKit Go.WideShapes Go.ChangeShapes Go.Deep

theorem el_Code {H : Type} {enc : TypeId × Value → H} {w : World} {n : Nat} {cs : List Value} {x : DataW H × List MemPlace} (h : DataW.trod enc Tryz.prog w 0 (fun _ => true) true n 77 cs = some x) : ∃ m : CodeM, RCode w 0 w.heap.size cs m := by
  obtain ⟨c0, c1, c2, c3, c4, y0, y1, y2, y3, y4, m, rfl, e0, e1, e2, e3, e4⟩ := open_st5 Tryz.underlying77 (by kernel_rfl) ⟨rfl, rfl, rfl, rfl, rfl⟩ ⟨by kernel_rfl, by kernel_rfl, by kernel_rfl, by kernel_rfl, by kernel_rfl⟩ h
  obtain ⟨a0, i0, _, _⟩ := DataW.trod_int Tryz.underlying3 e0
  simp at i0
  subst i0
  obtain ⟨a1, i1, _, _⟩ := DataW.trod_int Tryz.underlying3 e1
  simp at i1
  subst i1
  obtain ⟨l2, r2, _⟩ := open_ints_at Tryz.underlying26 Tryz.underlying3 (by kernel_rfl) e2
  obtain ⟨l3, r3, _⟩ := open_slice_rd (size := 2) (cellOf := P2.cell) (R := fun _ => True) (fun _ => rfl) (by decide) Tryz.underlying74 (by kernel_rfl) (fun n cs x hx => by
    obtain ⟨a, b, rfl, _, _⟩ := open_two Tryz.underlying132 (by kernel_rfl) ⟨rfl, rfl⟩ ⟨Tryz.underlying3, by kernel_rfl⟩ ⟨Tryz.underlying3, by kernel_rfl⟩ hx
    exact ⟨⟨a, b⟩, rfl, trivial⟩) ⟨_, e3⟩
  obtain ⟨l4, r4, _⟩ := open_slice_rd (size := 3) (cellOf := R3.cell) (R := fun _ => True) (fun _ => rfl) (by decide) Tryz.underlying75 (by kernel_rfl) (fun n cs x hx => by
    obtain ⟨a, b, c, rfl, _, _, _⟩ := open_three Tryz.underlying134 (by kernel_rfl) ⟨rfl, rfl, rfl⟩ ⟨Tryz.underlying3, by kernel_rfl⟩ ⟨Tryz.underlying3, by kernel_rfl⟩ ⟨Tryz.underlying3, by kernel_rfl⟩ hx
    exact ⟨⟨a, b, c⟩, rfl, trivial⟩) ⟨_, e4⟩
  exact ⟨⟨a0, a1, l2, l3, l4⟩, c2, c3, c4, rfl, r2.rg, r3.rg, r4.rg⟩
def IsCode (w : World) (v : Value) : Prop := ∃ (cs : List Value) (m : CodeM), v = .agg cs.toArray ∧ RCode w 0 w.heap.size cs m
theorem open_Code {H : Type} {enc : TypeId × Value → H} {w : World} {r : Reach} {b0 : Nat} {v : Value} {d : DataW H} {p : List MemPlace} (hv : Value.okWide Tryz.prog w r b0 77 v) (h : DataW.Trod enc Tryz.prog w 0 (fun _ => true) true 77 v d p) (_ : ∀ x ∈ p, x.block < w.heap.size) : IsCode w v := by
  obtain ⟨cs, rfl, hsz⟩ := okWide_struct Tryz.underlying77 hv
  obtain ⟨fuel, hf⟩ := h
  simp only [Value.cells] at hf
  obtain ⟨m, hm⟩ := el_Code hf
  exact ⟨_, m, by simp, hm⟩
end Go.Proofs.YtaebmliolpgmdaaGreat
set_option linter.unusedSimpArgs false
set_option linter.unusedVariables false
set_option maxRecDepth 100000
namespace Go.Proofs.YtaebmliolpgmdaaGreat
open Go.RowKit Go.WideShapes Go.ChangeShapes Go.Deep

theorem el_Image {H : Type} {enc : TypeId × Value → H} {w : World} {n : Nat} {cs : List Value} {x : DataW H × List MemPlace} (h : DataW.trod enc Tryz.prog w 0 (fun _ => true) true n 24 cs = some x) : ∃ m : ImageM, RImage w 0 w.heap.size cs m := by
  obtain ⟨c0, y0, m, rfl, e0⟩ := open_st1 Tryz.underlying24 (by kernel_rfl) rfl (by kernel_rfl) h
  obtain ⟨l0, r0⟩ := open_slice_rl (R := RCode) (size := 5) (by decide) Tryz.underlying22 (by kernel_rfl) (fun n cs x hx => el_Code hx) ⟨_, e0⟩
  exact ⟨⟨l0⟩, c0, rfl, r0⟩
def IsImage (w : World) (v : Value) : Prop := ∃ (cs : List Value) (m : ImageM), v = .agg cs.toArray ∧ RImage w 0 w.heap.size cs m
theorem open_Image {H : Type} {enc : TypeId × Value → H} {w : World} {r : Reach} {b0 : Nat} {v : Value} {d : DataW H} {p : List MemPlace} (hv : Value.okWide Tryz.prog w r b0 24 v) (h : DataW.Trod enc Tryz.prog w 0 (fun _ => true) true 24 v d p) (_ : ∀ x ∈ p, x.block < w.heap.size) : IsImage w v := by
  obtain ⟨cs, rfl, hsz⟩ := okWide_struct Tryz.underlying24 hv
  obtain ⟨fuel, hf⟩ := h
  simp only [Value.cells] at hf
  obtain ⟨m, hm⟩ := el_Image hf
  exact ⟨_, m, by simp, hm⟩
end Go.Proofs.YtaebmliolpgmdaaGreat
