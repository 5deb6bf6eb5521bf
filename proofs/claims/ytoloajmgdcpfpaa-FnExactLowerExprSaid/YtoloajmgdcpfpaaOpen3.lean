
/- What an argument that is a token, an instruction, a slice of tokens or of numbers reads as. No condition. -/
import Derived.Test.YtoloajmgdcpfpaaOpen2
import Derived.Test.YtoloajmgdcpfpaaP2
import Derived.Test.YtoloajmgdcpfpaaChecked
import Derived.OpenShut
import Derived.Lib.SmallJoins
set_option linter.unusedSimpArgs false
set_option linter.unusedVariables false
set_option maxRecDepth 100000
namespace Go.Proofs.Ytoloajmgdcpfpaa
open Go.RowKit Go.WideShapes Go.ChangeShapes Go.Deep

theorem bd_i64 {a : Int} (h : (Lit.int .i64 a).wf = true) : -9223372036854775808 ≤ a ∧ a ≤ 9223372036854775807 := by
  simp [Lit.wf, IntKind.min, IntKind.max, IntKind.bits, IntKind.signed] at h; omega
section
variable {H : Type} {enc : TypeId × Value → H} {P : Program} {w : World}
/-- a struct of two ints -/
theorem open_two {t : Nat} {f0 f1 : Field} {n : Nat} {cs : List Value} {x : DataW H × List MemPlace} (ht : P.underlying t = some (.struct #[f0, f1])) (hC : P.cellsOf t = 2) (ho : f0.offset = 0 ∧ f1.offset = 1)
    (h0 : P.underlying f0.type = some (.int .i64) ∧ P.cellsOf f0.type = 1) (h1 : P.underlying f1.type = some (.int .i64) ∧ P.cellsOf f1.type = 1)
    (h : DataW.trod enc P w 0 (fun _ => true) true n t cs = some x) :
    ∃ a b : Int, cs = [.int .i64 a, .int .i64 b] ∧ (Lit.int .i64 a).wf = true ∧ (Lit.int .i64 b).wf = true := by
  obtain ⟨xs, m, _, _, hcl, hxl, hf⟩ := DataW.trod_struct ht h
  rw [hC] at hcl
  match cs, hcl with
  | [c0, c1], _ =>
    match xs, hxl with
    | [y0, y1], _ =>
      have e0 := hf 0 f0 rfl
      have e1 := hf 1 f1 rfl
      rw [ho.1, h0.2] at e0
      rw [ho.2, h1.2] at e1
      obtain ⟨a, ha, _, wa⟩ := DataW.trod_int h0.1 (show _ = some y0 from e0)
      obtain ⟨b, hb, _, wb⟩ := DataW.trod_int h1.1 (show _ = some y1 from e1)
      simp at ha hb
      exact ⟨a, b, by rw [ha, hb], wa, wb⟩
end
def P2.ok (t : P2) : Prop := (-9223372036854775808 ≤ t.o ∧ t.o ≤ 9223372036854775807) ∧ (-9223372036854775808 ≤ t.n ∧ t.n ≤ 9223372036854775807)
def IsPair (w : World) (v : Value) : Prop := ∃ t : P2, v = .agg #[.int .i64 t.o, .int .i64 t.n] ∧ t.ok
def IsPairs (w : World) (v : Value) : Prop := ∃ l : List P2, Rd w w.heap.size v l.length (pcells l) ∧ ∀ t ∈ l, t.ok
def IsInts (w : World) (v : Value) : Prop := ∃ l : List Int, Rd w w.heap.size v l.length (icells .i64 l) ∧ ∀ n ∈ l, -9223372036854775808 ≤ n ∧ n ≤ 9223372036854775807
section
variable {H : Type} {enc : TypeId × Value → H} {w : World} {r : Reach} {b0 : Nat} {v : Value} {d : DataW H} {p : List MemPlace}
theorem open_tok (hv : Value.okWide Try.prog w r b0 72 v) (h : DataW.Trod enc Try.prog w 0 (fun _ => true) true 72 v d p) (_ : ∀ x ∈ p, x.block < w.heap.size) : IsPair w v := by
  obtain ⟨c0, c1, y0, y1, m, rfl, rfl, rfl, h0, h1⟩ := Go.Joins.open_agg2 Try.underlying72 (by kernel_rfl) (by kernel_rfl) hv h
  obtain ⟨a, e0, _, wa⟩ := DataW.trod_int Try.underlying3 h0
  obtain ⟨b, e1, _, wb⟩ := DataW.trod_int Try.underlying3 h1
  simp at e0 e1
  subst e0 e1
  exact ⟨⟨a, b⟩, rfl, bd_i64 wa, bd_i64 wb⟩
theorem open_toks (hv : Value.okWide Try.prog w r b0 36 v) (h : DataW.Trod enc Try.prog w 0 (fun _ => true) true 36 v d p) (_ : ∀ x ∈ p, x.block < w.heap.size) : IsPairs w v := by
  obtain ⟨a0, len, cap, rfl⟩ := okWide_slice Try.underlying36 hv
  refine open_slice_rd (size := 2) (cellOf := P2.cell) (fun _ => rfl) (by decide) Try.underlying36 (by kernel_rfl) (fun n cs x hx => ?_) h
  obtain ⟨a, b, rfl, wa, wb⟩ := open_two Try.underlying72 (by kernel_rfl) ⟨rfl, rfl⟩ ⟨Try.underlying3, by kernel_rfl⟩ ⟨Try.underlying3, by kernel_rfl⟩ hx
  exact ⟨⟨a, b⟩, rfl, bd_i64 wa, bd_i64 wb⟩
theorem open_intl (hv : Value.okWide Try.prog w r b0 90 v) (h : DataW.Trod enc Try.prog w 0 (fun _ => true) true 90 v d p) (_ : ∀ x ∈ p, x.block < w.heap.size) : IsInts w v := by
  obtain ⟨a0, len, cap, rfl⟩ := okWide_slice Try.underlying90 hv
  obtain ⟨fuel, hf⟩ := h
  obtain ⟨zs, hz, hw⟩ := open_ints_at Try.underlying90 Try.underlying3 (by kernel_rfl) hf
  exact ⟨zs, hz, fun n hn => bd_i64 (hw n hn)⟩
end
end Go.Proofs.Ytoloajmgdcpfpaa
