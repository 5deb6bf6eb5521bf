
/- Outcomes: toOutcome, eqOutcome, szOutcome, SameOutcome, TraceBegins. No condition. -/
import Derived.Test.YtaebmliolpgmdaaMem
import Derived.Test.YtaebmliolpgmdaaSame
import Derived.Deep.RegionWith
set_option linter.unusedSimpArgs false
set_option linter.unusedVariables false
set_option maxRecDepth 100000
namespace Go.Proofs.Ytaebmliolpgmdaa
open Go.RowKit

theorem bcell {W w1 : World} (hb : Below W.heap.size W w1) : (∀ b o, b < W.heap.size → w1.cell? ⟨b, o, none⟩ = W.cell? ⟨b, o, none⟩) ∧ (∀ b o, b < W.heap.size → w1.frozen? ⟨b, o, none⟩ = W.frozen? ⟨b, o, none⟩) :=
  ⟨fun b o h => hb.cell (p := ⟨b, o, none⟩) h, fun b o h => hb.frozen (p := ⟨b, o, none⟩) h⟩
structure Oc where
  code : Int
  value : Int
  trace : List Int
  used : Int
abbrev Oc.agg (o : Oc) (s : Value) : Value := .agg #[.int .i64 o.code, .int .i64 o.value, s, .int .i64 o.used]
def OcAt (w : World) (B : Nat) (o : Oc) (s : Value) : Prop := Rd w B s o.trace.length (icells .i64 o.trace)

set_option maxHeartbeats 400000 in
theorem eqOutcome (o : Oc) (s s2 : Value) (w : World) (hr : OcAt w w.heap.size o s) (hr2 : OcAt w w.heap.size o s2) :
    Calls Try.prog 21 #[o.agg s, o.agg s2] w fun e w' => e = .returned (.bool true) ∧ Below w.heap.size w w' := by
  unfold OcAt at hr hr2
  unfold Oc.agg
  obtain ⟨code, value, tr, used⟩ := o
  dsimp only at *
  obtain ⟨A, c, rfl, hn, hc, hcell⟩ := id hr
  obtain ⟨A2, c2, rfl, hn2, hc2, hcell2⟩ := id hr2
  have hl : tr.length ≤ 9223372036854775807 := by unfold maxLen at hc; omega
  have Hr := hide hr; have Hr2 := hide hr2; clear hr hcell hr2 hcell2
  have hW := ((Below.refl w.heap.size w).alloc (Nat.le_refl _) (.cells #[.int .i64 code, .int .i64 value, .slice A tr.length c, .int .i64 used] 50)).alloc (by simp) (.cells #[.int .i64 code, .int .i64 value, .slice A2 tr.length c2, .int .i64 used] 50)
  have HW := hide hW; clear hW
  go_enter Try.func21, Try.ntmps21
  go_wp2_with fail
  refine (eqIntS _ _ tr _ _ _ (Hr.out.go HW.out (Nat.le_refl _) HW.out.size) (Hr2.out.go HW.out (Nat.le_refl _) HW.out.size) hl).mono ?_
  rintro e w1 ⟨rfl, q, rfl⟩
  go_wp2
  go_ret
  exact ⟨rfl, below_drewN HW.out q⟩
end Go.Proofs.Ytaebmliolpgmdaa
