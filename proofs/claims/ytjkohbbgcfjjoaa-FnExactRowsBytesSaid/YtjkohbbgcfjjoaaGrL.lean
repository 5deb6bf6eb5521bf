/- FnExactGoodRows: the call returns true. No condition. -/
import Derived.Test.YtjkohbbgcfjjoaaHere
import Derived.Test.YtjkohbbgcfjjoaaGr
import Derived.Test.YtjkohbbgcfjjoaaOpen2
set_option linter.unusedSimpArgs false
set_option linter.unusedVariables false
set_option maxRecDepth 100000
namespace Go.Proofs.Ytjkohbbgcfjjoaa
open Go.RowKit Go.WideShapes Go.ChangeShapes


theorem szRowS (v : Value) (n : Nat) (cs : List Value) (left : Int) (w : World) (B : Nat) (hr : Rd w B v n cs) (h1 : 0 ≤ left) (h2 : left ≤ 4611686018427387904) :
    Calls Try.prog 14 #[v, .int .i64 left] w fun e w' => e = .returned (.int .i64 (if (n : Int) ≤ left then left - n else -1)) ∧ w = w' := by
  obtain ⟨A, c, rfl, hn, hc, hcell⟩ := id hr
  have hn' : n ≤ 9223372036854775807 := by unfold maxLen at hc; omega
  clear hcell hr hn hc
  by_cases g : (n : Int) ≤ left
  all_goals
    go_enter Try.func14, Try.ntmps14
    go_wp2
    all_goals first
      | (exfalso; omega)
      | (go_ret
         exact ⟨retI (by first | rfl | omega | rw [if_pos g] | rw [if_neg (by omega)]), rfl⟩)

def IsRows (w : World) (v : Value) : Prop := ∃ l : List R3, Rd w w.heap.size v l.length (rcells l) ∧ ∀ r ∈ l, (Lit.int .i64 r.f).wf = true ∧ (Lit.int .i64 r.t).wf = true ∧ (Lit.int .i64 r.p).wf = true
theorem open_rows {H : Type} {enc : TypeId × Value → H} {w : World} {r : Reach} {b0 : Nat} {v : Value} {d : DataW H} {p : List MemPlace}
    (hv : Value.okWide Try.prog w r b0 22 v) (h : DataW.Trod enc Try.prog w 0 (fun _ => true) true 22 v d p) (_ : ∀ x ∈ p, x.block < w.heap.size) : IsRows w v := by
  obtain ⟨a0, len, cap, rfl⟩ := okWide_slice Try.underlying22 hv
  refine open_slice_rd (size := 3) (cellOf := R3.cell) (fun _ => rfl) (by decide) Try.underlying22 (by kernel_rfl) (fun n cs x hx => ?_) h
  obtain ⟨a, b, c, rfl, wa, wb, wc⟩ := open_three Try.underlying79 (by kernel_rfl) ⟨rfl, rfl, rfl⟩ ⟨Try.underlying3, by kernel_rfl⟩ ⟨Try.underlying3, by kernel_rfl⟩ ⟨Try.underlying3, by kernel_rfl⟩ hx
  exact ⟨⟨a, b, c⟩, rfl, wa, wb, wc⟩

set_option maxHeartbeats 800000 in
theorem law_FnExactGoodRows (w : World) (v : Value) (h : IsRows w v) (many : Int) (wm : (Lit.int .i64 many).wf = true) :
    Calls Try.prog 3 #[v, .int .i64 many] w fun e w' => e = .returned (.bool true) ∧ Below w.heap.size w w' := by
  obtain ⟨l, hr, hwf⟩ := h
  have hl : l.length ≤ 9223372036854775807 := by obtain ⟨A, c, _, h1, h2, _⟩ := hr; unfold maxLen at h2; omega
  obtain ⟨A, c, rfl, hn, hc, hcell⟩ := id hr
  have Hr := hide hr
  clear hcell hwf hr hn hc
  go_enter Try.func3, Try.ntmps3
  go_wp2_with fail
  refine (szRowS _ _ _ _ _ _ Hr.out (by omega) (by omega)).mono ?_
  rintro e w' ⟨rfl, rfl⟩
  by_cases hb : l.length ≤ 1048576
  · rw [if_pos (by omega)]
    go_wp2_with fail
    refine (toRowS _ l _ Hr.out hb).mono ?_
    rintro e w1 ⟨v1, rfl, hown1, hb1⟩
    have Ho1 := hide hown1; have Hb1 := hide hb1; clear hown1 hb1
    go_wp2_with fail
    refine (spec_GoodRows _ l many _ (Rd.of_own Ho1.out) hl).mono ?_
    rintro e w2 ⟨rfl, hb2⟩
    have Hb2 := hide (Hb1.out.trans (hb2.mono Hb1.out.size)); clear hb2
    go_wp2_with fail
    refine (toRowS _ l _ (Hr.out.here Hb2.out) hb).mono ?_
    rintro e w3 ⟨v3, rfl, hown3, hb3⟩
    have Ho3 := hide hown3; have Hb3 := hide (Hb2.out.trans (hb3.mono Hb2.out.size)); clear hown3 hb3
    go_wp2_with fail
    refine (impl_GoodRows _ l many _ (Rd.of_own Ho3.out) hl).mono ?_
    rintro e w4 ⟨rfl, hb4⟩
    have Hr4 := hide ((Rd.of_own Ho3.out).here hb4); have Hb4 := hide (Hb3.out.trans (hb4.mono Hb3.out.size)); clear hb4
    go_wp2_with fail
    refine (toRowS _ l _ (Hr.out.here Hb4.out) hb).mono ?_
    rintro e w5 ⟨v5, rfl, hown5, hb5⟩
    have Ho5 := hide hown5; have Hr5 := hide (Hr4.out.here hb5); have Hb5 := hide (Hb4.out.trans (hb5.mono Hb4.out.size)); clear hown5 hb5
    go_wp2_with fail
    refine (eqRowS _ _ l _ Hr5.out (Rd.of_own Ho5.out) hl).mono ?_
    rintro e w6 ⟨rfl, hb6⟩
    go_wp2_with fail
    go_ret
    exact ⟨rfl, Hb5.out.trans (hb6.mono Hb5.out.size)⟩
  · rw [if_neg (by omega)]
    go_wp2
    go_ret
    exact ⟨rfl, Below.refl _ _⟩
end Go.Proofs.Ytjkohbbgcfjjoaa
