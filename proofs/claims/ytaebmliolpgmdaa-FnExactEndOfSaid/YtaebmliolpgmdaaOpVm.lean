
/- What an argument of the type Vm reads as. No condition. -/
import Derived.Test.YtaebmliolpgmdaaNdVm
import Derived.Test.YtaebmliolpgmdaaOpen2
import Derived.Test.YtaebmliolpgmdaaNdFrame
set_option linter.unusedSimpArgs false
set_option linter.unusedVariables false
set_option maxRecDepth 100000
namespace Go.Proofs.Ytaebmliolpgmdaa
open Go.RowKit Go.WideShapes Go.ChangeShapes Go.Deep

theorem el_Frame {H : Type} {enc : TypeId × Value → H} {w : World} {n : Nat} {cs : List Value} {x : DataW H × List MemPlace} (h : DataW.trod enc Try.prog w 0 (fun _ => true) true n 110 cs = some x) : ∃ m : FrameM, RFrame w 0 w.heap.size cs m := by
  obtain ⟨c0, c1, c2, c3, c4, c5, c6, c7, c8, c9, c10, y0, y1, y2, y3, y4, y5, y6, y7, y8, y9, y10, m, rfl, e0, e1, e2, e3, e4, e5, e6, e7, e8, e9, e10⟩ := open_st11 Try.underlying110 (by kernel_rfl) ⟨rfl, rfl, rfl, rfl, rfl, rfl, rfl, rfl, rfl, rfl, rfl⟩ ⟨by kernel_rfl, by kernel_rfl, by kernel_rfl, by kernel_rfl, by kernel_rfl, by kernel_rfl, by kernel_rfl, by kernel_rfl, by kernel_rfl, by kernel_rfl, by kernel_rfl⟩ h
  obtain ⟨a0, i0, _, _⟩ := DataW.trod_int Try.underlying3 e0
  simp at i0
  subst i0
  obtain ⟨a1, i1, _, _⟩ := DataW.trod_int Try.underlying3 e1
  simp at i1
  subst i1
  obtain ⟨a2, i2, _, _⟩ := DataW.trod_int Try.underlying3 e2
  simp at i2
  subst i2
  obtain ⟨l3, r3, _⟩ := open_ints_at Try.underlying37 Try.underlying3 (by kernel_rfl) e3
  obtain ⟨l4, r4, _⟩ := open_ints_at Try.underlying37 Try.underlying3 (by kernel_rfl) e4
  obtain ⟨l5, r5, _⟩ := open_slice_rd (size := 1) (cellOf := fun b => [Value.bool b]) (R := fun _ => True) (fun _ => rfl) (by decide) Try.underlying72 (by kernel_rfl) (fun n cs x hx => by
    obtain ⟨a, hcs, _⟩ := DataW.trod_bool Try.underlying4 hx
    exact ⟨a, hcs, trivial⟩) ⟨_, e5⟩
  rw [bbcells_flat] at r5
  obtain ⟨a6, i6, _, _⟩ := DataW.trod_int Try.underlying3 e6
  simp at i6
  subst i6
  obtain ⟨a7, i7, _, _⟩ := DataW.trod_int Try.underlying3 e7
  simp at i7
  subst i7
  obtain ⟨a8, i8, _, _⟩ := DataW.trod_int Try.underlying3 e8
  simp at i8
  subst i8
  obtain ⟨a9, i9, _, _⟩ := DataW.trod_int Try.underlying3 e9
  simp at i9
  subst i9
  obtain ⟨a10, i10, _⟩ := DataW.trod_bool Try.underlying4 e10
  simp at i10
  subst i10
  exact ⟨⟨a0, a1, a2, l3, l4, l5, a6, a7, a8, a9, a10⟩, c3, c4, c5, rfl, r3.rg, r4.rg, r5.rg⟩
def IsFrame (w : World) (v : Value) : Prop := ∃ (cs : List Value) (m : FrameM), v = .agg cs.toArray ∧ RFrame w 0 w.heap.size cs m
theorem open_Frame {H : Type} {enc : TypeId × Value → H} {w : World} {r : Reach} {b0 : Nat} {v : Value} {d : DataW H} {p : List MemPlace} (hv : Value.okWide Try.prog w r b0 110 v) (h : DataW.Trod enc Try.prog w 0 (fun _ => true) true 110 v d p) (_ : ∀ x ∈ p, x.block < w.heap.size) : IsFrame w v := by
  obtain ⟨cs, rfl, hsz⟩ := okWide_struct Try.underlying110 hv
  obtain ⟨fuel, hf⟩ := h
  simp only [Value.cells] at hf
  obtain ⟨m, hm⟩ := el_Frame hf
  exact ⟨_, m, by simp, hm⟩
end Go.Proofs.Ytaebmliolpgmdaa
set_option linter.unusedSimpArgs false
set_option linter.unusedVariables false
set_option maxRecDepth 100000
namespace Go.Proofs.Ytaebmliolpgmdaa
open Go.RowKit Go.WideShapes Go.ChangeShapes Go.Deep

theorem el_Vm {H : Type} {enc : TypeId × Value → H} {w : World} {n : Nat} {cs : List Value} {x : DataW H × List MemPlace} (h : DataW.trod enc Try.prog w 0 (fun _ => true) true n 40 cs = some x) : ∃ m : VmM, RVm w 0 w.heap.size cs m := by
  obtain ⟨c0, c1, c2, c3, c4, c5, c6, y0, y1, y2, y3, y4, y5, y6, m, rfl, e0, e1, e2, e3, e4, e5, e6⟩ := open_st7 Try.underlying40 (by kernel_rfl) ⟨rfl, rfl, rfl, rfl, rfl, rfl, rfl⟩ ⟨by kernel_rfl, by kernel_rfl, by kernel_rfl, by kernel_rfl, by kernel_rfl, by kernel_rfl, by kernel_rfl⟩ h
  obtain ⟨l0, r0⟩ := open_slice_rl (R := RFrame) (size := 11) (by decide) Try.underlying36 (by kernel_rfl) (fun n cs x hx => el_Frame hx) ⟨_, e0⟩
  obtain ⟨l1, r1, _⟩ := open_ints_at Try.underlying37 Try.underlying3 (by kernel_rfl) e1
  obtain ⟨a2, i2, _, _⟩ := DataW.trod_int Try.underlying3 e2
  simp at i2
  subst i2
  obtain ⟨a3, i3, _, _⟩ := DataW.trod_int Try.underlying3 e3
  simp at i3
  subst i3
  obtain ⟨a4, i4, _, _⟩ := DataW.trod_int Try.underlying3 e4
  simp at i4
  subst i4
  obtain ⟨a5, i5, _, _⟩ := DataW.trod_int Try.underlying3 e5
  simp at i5
  subst i5
  obtain ⟨l6, r6, _⟩ := open_slice_rd (size := 3) (cellOf := R3.cell) (R := fun _ => True) (fun _ => rfl) (by decide) Try.underlying38 (by kernel_rfl) (fun n cs x hx => by
    obtain ⟨a, b, c, rfl, _, _, _⟩ := open_three Try.underlying113 (by kernel_rfl) ⟨rfl, rfl, rfl⟩ ⟨Try.underlying3, by kernel_rfl⟩ ⟨Try.underlying3, by kernel_rfl⟩ ⟨Try.underlying3, by kernel_rfl⟩ hx
    exact ⟨⟨a, b, c⟩, rfl, trivial⟩) ⟨_, e6⟩
  exact ⟨⟨l0, l1, a2, a3, a4, a5, l6⟩, c0, c1, c6, rfl, r0, r1.rg, r6.rg⟩
def IsVm (w : World) (v : Value) : Prop := ∃ (cs : List Value) (m : VmM), v = .agg cs.toArray ∧ RVm w 0 w.heap.size cs m
theorem open_Vm {H : Type} {enc : TypeId × Value → H} {w : World} {r : Reach} {b0 : Nat} {v : Value} {d : DataW H} {p : List MemPlace} (hv : Value.okWide Try.prog w r b0 40 v) (h : DataW.Trod enc Try.prog w 0 (fun _ => true) true 40 v d p) (_ : ∀ x ∈ p, x.block < w.heap.size) : IsVm w v := by
  obtain ⟨cs, rfl, hsz⟩ := okWide_struct Try.underlying40 hv
  obtain ⟨fuel, hf⟩ := h
  simp only [Value.cells] at hf
  obtain ⟨m, hm⟩ := el_Vm hf
  exact ⟨_, m, by simp, hm⟩
end Go.Proofs.Ytaebmliolpgmdaa
