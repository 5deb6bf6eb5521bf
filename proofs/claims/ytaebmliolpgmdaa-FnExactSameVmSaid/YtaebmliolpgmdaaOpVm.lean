
/- What an argument of the type Vm reads as. No condition. -/
import Derived.Test.YtaebmliolpgmdaaNdVm
import Derived.Test.YtaebmliolpgmdaaOpen4
import Derived.Test.YtaebmliolpgmdaaOpFrame
set_option linter.unusedSimpArgs false
set_option linter.unusedVariables false
set_option maxRecDepth 100000
namespace Go.Proofs.Ytaebmliolpgmdaa
open Go.RowKit Go.WideShapes Go.ChangeShapes Go.Deep

theorem el_Vm {H : Type} {enc : TypeId × Value → H} {w : World} {n : Nat} {cs : List Value} {x : DataW H × List MemPlace} (h : DataW.trod enc Try.prog w 0 (fun _ => true) true n 40 cs = some x) : ∃ m : VmM, RVm w 0 w.heap.size cs m := by
  obtain ⟨c0, c1, c2, c3, c4, c5, c6, y0, y1, y2, y3, y4, y5, y6, m, rfl, e0, e1, e2, e3, e4, e5, e6⟩ := open_st7 Try.underlying40 (by kernel_rfl) ⟨rfl, rfl, rfl, rfl, rfl, rfl, rfl⟩ ⟨by kernel_rfl, by kernel_rfl, by kernel_rfl, by kernel_rfl, by kernel_rfl, by kernel_rfl, by kernel_rfl⟩ h
  obtain ⟨l0, r0⟩ := open_slice_rl (R := RFrame) (size := 11) (by decide) Try.underlying36 (by kernel_rfl) (fun n cs x hx => el_Frame hx) ⟨_, e0⟩
  obtain ⟨l1, r1, _⟩ := open_ints_at Try.underlying37 Try.underlying3 (by kernel_rfl) e1
  obtain ⟨a2, i2, _, _⟩ := DataW.trod_int Try.underlying3 e2
  simp at i2
  subst i2
  obtain ⟨a3, i3, _, _⟩ := DataW.trod_int Try.underlying3 e3
  simp at i3
  subst i3
  obtain ⟨a4, i4, _, _⟩ := DataW.trod_int Try.underlying3 e4
  simp at i4
  subst i4
  obtain ⟨a5, i5, _, _⟩ := DataW.trod_int Try.underlying3 e5
  simp at i5
  subst i5
  obtain ⟨l6, r6, _⟩ := open_slice_rd (size := 3) (cellOf := R3.cell) (R := fun _ => True) (fun _ => rfl) (by decide) Try.underlying38 (by kernel_rfl) (fun n cs x hx => by
    obtain ⟨a, b, c, rfl, _, _, _⟩ := open_three Try.underlying113 (by kernel_rfl) ⟨rfl, rfl, rfl⟩ ⟨Try.underlying3, by kernel_rfl⟩ ⟨Try.underlying3, by kernel_rfl⟩ ⟨Try.underlying3, by kernel_rfl⟩ hx
    exact ⟨⟨a, b, c⟩, rfl, trivial⟩) ⟨_, e6⟩
  exact ⟨⟨l0, l1, a2, a3, a4, a5, l6⟩, c0, c1, c6, rfl, r0, r1.rg, r6.rg⟩
def IsVm (w : World) (v : Value) : Prop := ∃ (cs : List Value) (m : VmM), v = .agg cs.toArray ∧ RVm w 0 w.heap.size cs m
theorem open_Vm {H : Type} {enc : TypeId × Value → H} {w : World} {r : Reach} {b0 : Nat} {v : Value} {d : DataW H} {p : List MemPlace} (hv : Value.okWide Try.prog w r b0 40 v) (h : DataW.Trod enc Try.prog w 0 (fun _ => true) true 40 v d p) (_ : ∀ x ∈ p, x.block < w.heap.size) : IsVm w v := by
  obtain ⟨cs, rfl, hsz⟩ := okWide_struct Try.underlying40 hv
  obtain ⟨fuel, hf⟩ := h
  simp only [Value.cells] at hf
  obtain ⟨m, hm⟩ := el_Vm hf
  exact ⟨_, m, by simp, hm⟩
end Go.Proofs.Ytaebmliolpgmdaa
