
/- What an argument of the type Func reads as. No condition. -/
import Derived.Test.YtdniplnggikkgaaNdFunc
import Derived.Test.YtdniplnggikkgaaOpen4
import Derived.Test.YtdniplnggikkgaaOpStmt
set_option linter.unusedSimpArgs false
set_option linter.unusedVariables false
set_option maxRecDepth 100000
namespace Go.Proofs.Ytdniplnggikkgaa
open Go.RowKit Go.WideShapes Go.ChangeShapes Go.Deep

theorem el_Func {H : Type} {enc : TypeId × Value → H} {w : World} {n : Nat} {cs : List Value} {x : DataW H × List MemPlace} (h : DataW.trod enc Try.prog w 0 (fun _ => true) true n 36 cs = some x) : ∃ m : FuncM, RFunc w 0 w.heap.size cs m := by
  obtain ⟨c0, c1, c2, c3, y0, y1, y2, y3, m, rfl, e0, e1, e2, e3⟩ := open_st4 Try.underlying36 (by kernel_rfl) ⟨rfl, rfl, rfl, rfl⟩ ⟨by kernel_rfl, by kernel_rfl, by kernel_rfl, by kernel_rfl⟩ h
  obtain ⟨a0, i0, _, _⟩ := DataW.trod_int Try.underlying3 e0
  simp at i0
  subst i0
  obtain ⟨a1, i1, _, _⟩ := DataW.trod_int Try.underlying3 e1
  simp at i1
  subst i1
  obtain ⟨l2, r2, _⟩ := open_ints_at Try.underlying33 Try.underlying3 (by kernel_rfl) e2
  obtain ⟨l3, r3⟩ := open_slice_rl (R := RStmt) (size := 5) (by decide) Try.underlying34 (by kernel_rfl) (fun n cs x hx => el_Stmt hx) ⟨_, e3⟩
  exact ⟨⟨a0, a1, l2, l3⟩, c2, c3, rfl, r2.rg, r3⟩
def IsFunc (w : World) (v : Value) : Prop := ∃ (cs : List Value) (m : FuncM), v = .agg cs.toArray ∧ RFunc w 0 w.heap.size cs m
theorem open_Func {H : Type} {enc : TypeId × Value → H} {w : World} {r : Reach} {b0 : Nat} {v : Value} {d : DataW H} {p : List MemPlace} (hv : Value.okWide Try.prog w r b0 36 v) (h : DataW.Trod enc Try.prog w 0 (fun _ => true) true 36 v d p) (_ : ∀ x ∈ p, x.block < w.heap.size) : IsFunc w v := by
  obtain ⟨cs, rfl, hsz⟩ := okWide_struct Try.underlying36 hv
  obtain ⟨fuel, hf⟩ := h
  simp only [Value.cells] at hf
  obtain ⟨m, hm⟩ := el_Func hf
  exact ⟨_, m, by simp, hm⟩
end Go.Proofs.Ytdniplnggikkgaa
