
/- Outcomes: toOutcome, eqOutcome, szOutcome, SameOutcome, TraceBegins. No condition. -/
import Derived.Test.YtheddnjhkcpmnaaDoorMem
import Derived.Test.YtheddnjhkcpmnaaDoorSame
import Derived.Deep.RegionWith
set_option linter.unusedSimpArgs false
set_option linter.unusedVariables false
set_option maxRecDepth 100000
namespace Go.Proofs.YtheddnjhkcpmnaaDoor
open Go.RowKit

theorem bcell {W w1 : World} (hb : Below W.heap.size W w1) : (∀ b o, b < W.heap.size → w1.cell? ⟨b, o, none⟩ = W.cell? ⟨b, o, none⟩) ∧ (∀ b o, b < W.heap.size → w1.frozen? ⟨b, o, none⟩ = W.frozen? ⟨b, o, none⟩) :=
  ⟨fun b o h => hb.cell (p := ⟨b, o, none⟩) h, fun b o h => hb.frozen (p := ⟨b, o, none⟩) h⟩
structure Oc where
  code : Int
  value : Int
  trace : List Int
  used : Int
abbrev Oc.agg (o : Oc) (s : Value) : Value := .agg #[.int .i64 o.code, .int .i64 o.value, s, .int .i64 o.used]
def OcAt (w : World) (B : Nat) (o : Oc) (s : Value) : Prop := Rd w B s o.trace.length (icells .i64 o.trace)

set_option maxHeartbeats 400000 in
theorem toOutcome (o : Oc) (s : Value) (w : World) (hr : OcAt w w.heap.size o s) (hl : o.trace.length ≤ 1048576) :
    Calls Tryd.prog 9 #[o.agg s] w fun e w' => ∃ s', e = .returned (o.agg s') ∧ w'.ownsRow w.heap.size 3 1 s' o.trace.length (icells .i64 o.trace) ∧ Below w.heap.size w w' := by
  unfold OcAt at hr
  unfold Oc.agg
  obtain ⟨code, value, tr, used⟩ := o
  dsimp only at *
  obtain ⟨A, c, rfl, hn, hc, hcell⟩ := id hr
  have Hr := hide hr; clear hr hcell
  go_enter Tryd.func9, Tryd.ntmps9
  go_wp2_with fail
  have hW := (((Below.refl w.heap.size w).alloc (Nat.le_refl _) (.cells #[.int .i64 code, .int .i64 value, .slice A tr.length c, .int .i64 used] 24)).alloc (by simp) (.cells #[.int .i64 0, .int .i64 0, .slice none 0 0, .int .i64 0] 28)).alloc (by simp; omega) (.cells #[.int .i64 code, .int .i64 value, .slice none 0 0, .int .i64 0] 28)
  refine (toIntS _ tr _ (Hr.out.go hW (Nat.le_refl _) hW.size) hl).mono ?_
  rintro e w1 ⟨s1, rfl, hown, hb⟩
  obtain ⟨hc1, hf1⟩ := bcell hb
  have hz : w.heap.size + 2 < w1.heap.size := by have := hb.size; simp at this; omega
  obtain ⟨A1, c1, rfl⟩ := own_form hown
  have Hown := hide hown; have Hb := hide (hW.trans (hb.mono hW.size)); clear hown hb hW
  go_wp2
  refine bodyPost_ret (v := .agg #[.int .i64 code, .int .i64 value, .slice A1 tr.length c1, .int .i64 used]) (by simp [results, Tryd.results9, go_sem, hc1]) rfl ⟨_, rfl, ?_, ?_⟩
  · refine own_base (base := w.heap.size + 3) ?_ (by omega)
    have h := own_base (base' := w.heap.size + 3) Hown.out (by simp; try omega)
    repeat (first | with_reducible exact h | (with_reducible refine ownsRow_setCell_below ?_ ?_ _; rotate_left; (simp; try omega)))
  · have h := Hb.out
    repeat (first | with_reducible exact h | (with_reducible refine Below.setCell ?_ ?_ _; rotate_left; (simp; try omega)))

set_option maxHeartbeats 400000 in
theorem eqOutcome (o : Oc) (s s2 : Value) (w : World) (hr : OcAt w w.heap.size o s) (hr2 : OcAt w w.heap.size o s2) :
    Calls Tryd.prog 11 #[o.agg s, o.agg s2] w fun e w' => e = .returned (.bool true) ∧ Below w.heap.size w w' := by
  unfold OcAt at hr hr2
  unfold Oc.agg
  obtain ⟨code, value, tr, used⟩ := o
  dsimp only at *
  obtain ⟨A, c, rfl, hn, hc, hcell⟩ := id hr
  obtain ⟨A2, c2, rfl, hn2, hc2, hcell2⟩ := id hr2
  have hl : tr.length ≤ 9223372036854775807 := by unfold maxLen at hc; omega
  have Hr := hide hr; have Hr2 := hide hr2; clear hr hcell hr2 hcell2
  have hW := ((Below.refl w.heap.size w).alloc (Nat.le_refl _) (.cells #[.int .i64 code, .int .i64 value, .slice A tr.length c, .int .i64 used] 28)).alloc (by simp) (.cells #[.int .i64 code, .int .i64 value, .slice A2 tr.length c2, .int .i64 used] 28)
  have HW := hide hW; clear hW
  go_enter Tryd.func11, Tryd.ntmps11
  go_wp2_with fail
  refine (eqIntS _ _ tr _ _ _ (Hr.out.go HW.out (Nat.le_refl _) HW.out.size) (Hr2.out.go HW.out (Nat.le_refl _) HW.out.size) hl).mono ?_
  rintro e w1 ⟨rfl, q, rfl⟩
  go_wp2
  go_ret
  exact ⟨rfl, below_drewN HW.out q⟩
end Go.Proofs.YtheddnjhkcpmnaaDoor
