
/- FnExactSameOutcome, FnExactTraceBegins: the calls return true. No condition. -/
import Derived.Test.YtheddnjhkcpmnaaDoorOcS
import Derived.Test.YtheddnjhkcpmnaaDoorOpen2
import Derived.Test.YtheddnjhkcpmnaaDoorBlk
import Derived.Lib.SmallJoins
import Derived.Deep.RegionHeld3
import Derived.Deep.RegionWith
set_option linter.unusedSimpArgs false
set_option linter.unusedVariables false
set_option maxRecDepth 100000
namespace Go.Proofs.YtheddnjhkcpmnaaDoor
open Go.RowKit Go.WideShapes Go.ChangeShapes

def IsOc (w : World) (v : Value) : Prop := ∃ (o : Oc) (s : Value), v = o.agg s ∧ OcAt w w.heap.size o s
theorem open_outcome {H : Type} {enc : TypeId × Value → H} {w : World} {r : Reach} {b0 : Nat} {v : Value} {d : DataW H} {p : List MemPlace}
    (hv : Value.okWide Tryd.prog w r b0 24 v) (h : DataW.Trod enc Tryd.prog w 0 (fun _ => true) true 24 v d p) (_ : ∀ x ∈ p, x.block < w.heap.size) : IsOc w v := by
  obtain ⟨c0, c1, c2, c3, y0, y1, y2, y3, m, rfl, rfl, rfl, h0, h1, h2, h3⟩ := Go.Joins.open_agg4 Tryd.underlying24 (by kernel_rfl) (by kernel_rfl) hv h
  obtain ⟨a, e0, _, wa⟩ := DataW.trod_int Tryd.underlying3 h0
  obtain ⟨b, e1, _, wb⟩ := DataW.trod_int Tryd.underlying3 h1
  obtain ⟨c, e3, _, wc⟩ := DataW.trod_int Tryd.underlying3 h3
  simp at e0 e1 e3
  subst e0 e1 e3
  obtain ⟨zs, hz, _⟩ := open_ints_at Tryd.underlying22 Tryd.underlying3 (by kernel_rfl) h2
  exact ⟨⟨a, b, zs, c⟩, c2, rfl, hz⟩

theorem keep8 {w : World} {g g2 : Nat} {t t2 : TypeId} {a b c d a2 b2 c2 d2 : Value} (h : Bk w g t #[a, b, c, d]) (h2 : Bk w g2 t2 #[a2, b2, c2, d2]) :
    w.cell? ⟨g, 0, none⟩ = some a ∧ w.cell? ⟨g, 1, none⟩ = some b ∧ w.cell? ⟨g, 2, none⟩ = some c ∧ w.cell? ⟨g, 3, none⟩ = some d ∧ w.cell? ⟨g2, 0, none⟩ = some a2 ∧ w.cell? ⟨g2, 1, none⟩ = some b2 ∧ w.cell? ⟨g2, 2, none⟩ = some c2 ∧ w.cell? ⟨g2, 3, none⟩ = some d2 :=
  ⟨h.cell 0, h.cell 1, h.cell 2, h.cell 3, h2.cell 0, h2.cell 1, h2.cell 2, h2.cell 3⟩
end Go.Proofs.YtheddnjhkcpmnaaDoor
