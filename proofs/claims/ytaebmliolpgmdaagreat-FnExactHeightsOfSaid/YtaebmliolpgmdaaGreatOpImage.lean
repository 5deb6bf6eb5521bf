
/- What an argument of the type Image reads as. No condition. -/
import Derived.Test.YtaebmliolpgmdaaGreatNdImage
import Derived.Test.YtaebmliolpgmdaaGreatOpen4
import Derived.Test.YtaebmliolpgmdaaGreatOpCode
set_option linter.unusedSimpArgs false
set_option linter.unusedVariables false
set_option maxRecDepth 100000
namespace Go.Proofs.YtaebmliolpgmdaaGreat
open Go.RowKit Go.WideShapes Go.ChangeShapes Go.Deep

theorem el_Image {H : Type} {enc : TypeId × Value → H} {w : World} {n : Nat} {cs : List Value} {x : DataW H × List MemPlace} (h : DataW.trod enc Tryz.prog w 0 (fun _ => true) true n 24 cs = some x) : ∃ m : ImageM, RImage w 0 w.heap.size cs m := by
  obtain ⟨c0, y0, m, rfl, e0⟩ := open_st1 Tryz.underlying24 (by kernel_rfl) rfl (by kernel_rfl) h
  obtain ⟨l0, r0⟩ := open_slice_rl (R := RCode) (size := 5) (by decide) Tryz.underlying22 (by kernel_rfl) (fun n cs x hx => el_Code hx) ⟨_, e0⟩
  exact ⟨⟨l0⟩, c0, rfl, r0⟩
def IsImage (w : World) (v : Value) : Prop := ∃ (cs : List Value) (m : ImageM), v = .agg cs.toArray ∧ RImage w 0 w.heap.size cs m
theorem open_Image {H : Type} {enc : TypeId × Value → H} {w : World} {r : Reach} {b0 : Nat} {v : Value} {d : DataW H} {p : List MemPlace} (hv : Value.okWide Tryz.prog w r b0 24 v) (h : DataW.Trod enc Tryz.prog w 0 (fun _ => true) true 24 v d p) (_ : ∀ x ∈ p, x.block < w.heap.size) : IsImage w v := by
  obtain ⟨cs, rfl, hsz⟩ := okWide_struct Tryz.underlying24 hv
  obtain ⟨fuel, hf⟩ := h
  simp only [Value.cells] at hf
  obtain ⟨m, hm⟩ := el_Image hf
  exact ⟨_, m, by simp, hm⟩
end Go.Proofs.YtaebmliolpgmdaaGreat
