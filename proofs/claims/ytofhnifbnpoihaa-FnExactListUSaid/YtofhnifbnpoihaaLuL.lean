/- FnExactListU: the call returns true. No condition. -/
import Derived.Test.YtofhnifbnpoihaaLu
import Derived.Test.YtofhnifbnpoihaaOpen
import Derived.Test.YtofhnifbnpoihaaLebL
set_option linter.unusedSimpArgs false
set_option linter.unusedVariables false
set_option maxRecDepth 100000
namespace Go.Proofs.Ytofhnifbnpoihaa
open Go.RowKit Go.WideShapes Go.ChangeShapes

theorem Rd.go {w w' : World} {B B' n : Nat} {v : Value} {cs : List Value} (h : Rd w B v n cs) (hb : Below B' w w') (h1 : B ≤ B') (h2 : B ≤ w'.heap.size) : Rd w' w'.heap.size v n cs := (h.below' hb h1).more h2
theorem Rd.here {w w' : World} {v : Value} {n : Nat} {cs : List Value} (h : Rd w w.heap.size v n cs) (hb : Below w.heap.size w w') : Rd w' w'.heap.size v n cs := h.go hb (Nat.le_refl _) hb.size

def IsU64s (w : World) (v : Value) : Prop := ∃ zs : List Int, Rd w w.heap.size v zs.length (icells .u64 zs) ∧ (∀ z ∈ zs, (Lit.int .u64 z).wf = true)
theorem open_u64s {H : Type} {enc : TypeId × Value → H} {w : World} {r : Reach} {b0 : Nat} {v : Value} {d : DataW H} {p : List MemPlace}
    (hv : Value.okWide Try.prog w r b0 36 v) (h : DataW.Trod enc Try.prog w 0 (fun _ => true) true 36 v d p) (_ : ∀ x ∈ p, x.block < w.heap.size) : IsU64s w v :=
  open_ints_rd Try.underlying36 Try.underlying25 (by kernel_rfl) hv h

set_option maxHeartbeats 800000 in
theorem law_FnExactListU (w : World) (v : Value) (h : IsU64s w v) :
    Calls Try.prog 10 #[v] w fun e w' => e = .returned (.bool true) ∧ Below w.heap.size w w' := by
  obtain ⟨zs, hr, hwf⟩ := h
  have hz : ∀ z ∈ zs, 0 ≤ z ∧ z ≤ 18446744073709551615 := fun z hz => bd_u64 (hwf z hz)
  have hl : zs.length ≤ 9223372036854775807 := by obtain ⟨A, c, _, h1, h2, _⟩ := hr; unfold maxLen at h2; omega
  obtain ⟨A, c, rfl, hn, hc, hcell⟩ := id hr
  have Hr := hide hr
  have Hz := hide hz
  clear hcell hwf hr hz hn hc
  by_cases hb : zs.length ≤ 1048576
  · go_enter Try.func10, Try.ntmps10
    go_wp2_with fail
    refine (toUint64S _ zs _ Hr.out hb).mono ?_
    rintro e w1 ⟨v1, rfl, hown1, hb1⟩
    have Ho1 := hide hown1; have Hb1 := hide hb1; clear hown1 hb1
    go_wp2_with fail
    refine (spec_ListU _ zs _ (Rd.of_own Ho1.out) Hz.out hl).mono ?_
    rintro e w2 ⟨rfl, hb2⟩
    have Hb2 := hide (Hb1.out.trans (hb2.mono Hb1.out.size)); clear hb2
    go_wp2_with fail
    refine (toUint64S _ zs _ (Hr.out.here Hb2.out) hb).mono ?_
    rintro e w3 ⟨v3, rfl, hown3, hb3⟩
    have Ho3 := hide hown3; have Hb3 := hide (Hb2.out.trans (hb3.mono Hb2.out.size)); clear hown3 hb3
    go_wp2_with fail
    refine (impl_ListU _ zs _ (Rd.of_own Ho3.out) Hz.out hl).mono ?_
    rintro e w4 ⟨rfl, hb4⟩
    have Hr4 := hide ((Rd.of_own Ho3.out).here hb4); have Hb4 := hide (Hb3.out.trans (hb4.mono Hb3.out.size)); clear hb4
    go_wp2_with fail
    refine (toUint64S _ zs _ (Hr.out.here Hb4.out) hb).mono ?_
    rintro e w5 ⟨v5, rfl, hown5, hb5⟩
    have Ho5 := hide hown5; have Hr5 := hide (Hr4.out.here hb5); have Hb5 := hide (Hb4.out.trans (hb5.mono Hb4.out.size)); clear hown5 hb5
    go_wp2_with fail
    refine (eqUint64S _ _ zs _ _ _ Hr5.out (Rd.of_own Ho5.out) hl).mono ?_
    rintro e w6 ⟨rfl, q, rfl⟩
    go_wp2_with fail
    go_ret
    exact ⟨rfl, below_drewN Hb5.out q⟩
  · go_enter Try.func10, Try.ntmps10
    go_wp2
    go_ret
    exact ⟨rfl, Below.refl _ _⟩
end Go.Proofs.Ytofhnifbnpoihaa
