
/- FnExactOutcomeText: the call returns true. Condition: the table lies where the program lays it. -/
import Derived.Test.YtheddnjhkcpmnaaDoorOt3
import Derived.Test.YtheddnjhkcpmnaaDoorOcL
set_option linter.unusedSimpArgs false
set_option linter.unusedVariables false
set_option maxRecDepth 100000
namespace Go.Proofs.YtheddnjhkcpmnaaDoor
open Go.RowKit

theorem keep8o {w : World} {g g2 : Nat} {t t2 : TypeId} {a b c d a2 b2 c2 d2 : Value} (h : Bk w g t #[a, b, c, d]) (h2 : Bk w g2 t2 #[a2, b2, c2, d2]) :
    w.cell? ⟨g, 0, none⟩ = some a ∧ w.cell? ⟨g, 1, none⟩ = some b ∧ w.cell? ⟨g, 2, none⟩ = some c ∧ w.cell? ⟨g, 3, none⟩ = some d ∧ w.cell? ⟨g2, 0, none⟩ = some a2 ∧ w.cell? ⟨g2, 1, none⟩ = some b2 ∧ w.cell? ⟨g2, 2, none⟩ = some c2 ∧ w.cell? ⟨g2, 3, none⟩ = some d2 :=
  ⟨h.cell 0, h.cell 1, h.cell 2, h.cell 3, h2.cell 0, h2.cell 1, h2.cell 2, h2.cell 3⟩
set_option maxHeartbeats 3200000 in
theorem law_FnExactOutcomeText (w : World) (v : Value) (h : IsOc w v) (hp : P10 w) (hg : 4 < w.heap.size) :
    Calls Tryd.prog 3 #[v] w fun e w' => e = .returned (.bool true) ∧ Below w.heap.size w w' := by
  obtain ⟨o, s, rfl, hr⟩ := h
  have hS := fun W s hW => spec_OutcomeText o s W hW
  have hI := fun W s hW (hb : Below w.heap.size w W) => impl_OutcomeText o s W hW (hp.below' hb hg) (Nat.lt_of_lt_of_le hg hb.size)
  generalize ocS o = S at *
  generalize ocOk o = B at *
  obtain ⟨A, c, rfl, _, hcm, _⟩ := id (show Rd _ _ _ _ _ from hr)
  have Hr := hide hr; have HS := Lib.hid hS; have HI := Lib.hid hI; clear hr hS hI hp hg
  have HW := hide ((Below.refl w.heap.size w).alloc (Nat.le_refl _) (.cells #[.int .i64 o.code, .int .i64 o.value, .slice A o.trace.length c, .int .i64 o.used] 24))
  have K1 := hide (Bk.new w 24 #[.int .i64 o.code, .int .i64 o.value, .slice A o.trace.length c, .int .i64 o.used])
  show Calls Tryd.prog _ #[.agg #[_, _, _, _]] _ _
  go_enter Tryd.func3, Tryd.ntmps3
  go_wp2_with fail
  refine (szOutcome o _ 1048576 _ 0 (Hr.out.go HW.out (Nat.le_refl _) HW.out.size) (by omega) (by omega)).mono ?_
  rintro e w1 ⟨rfl, hb1⟩
  have K1a := hide (K1.out.below hb1); have HW1 := hide (HW.out.trans (hb1.mono HW.out.size)); clear hb1
  by_cases g1 : o.trace.length ≤ 1048576
  · rw [if_pos (by omega)]
    obtain ⟨p0, p1, p2, p3⟩ := K1a.out.four
    have pl := K1a.out.lt
    go_wp2_with fail
    refine (toOutcome o _ _ (Hr.out.go HW1.out (Nat.le_refl _) HW1.out.size) g1).mono ?_
    rintro e w3 ⟨s3, rfl, hown3, hb3⟩
    obtain ⟨A3, c3, rfl⟩ := own_form hown3
    have HO3 := hide hown3; have K1b := hide (K1a.out.below hb3); have HW3 := hide (HW1.out.trans (hb3.mono HW1.out.size))
    clear hown3 hb3 p0 p1 p2 p3 pl
    go_wp2_with fail
    refine (HS.out _ _ (Rd.of_own HO3.out)).mono ?_
    rintro e w5 ⟨rfl, hb5⟩
    have K1c := hide (K1b.out.below hb5); have HW5 := hide (HW3.out.trans (hb5.mono HW3.out.size)); clear hb5
    obtain ⟨p0, p1, p2, p3⟩ := K1c.out.four
    have pl := K1c.out.lt
    go_wp2_with fail
    refine (toOutcome o _ _ (Hr.out.go HW5.out (Nat.le_refl _) HW5.out.size) g1).mono ?_
    rintro e w6 ⟨s6, rfl, hown6, hb6⟩
    obtain ⟨A6, c6, rfl⟩ := own_form hown6
    have X0 := hide (Bk.new w6 28 #[.int .i64 o.code, .int .i64 o.value, .slice A6 o.trace.length c6, .int .i64 o.used])
    have HW6 := hide ((HW5.out.trans (hb6.mono HW5.out.size)).alloc (HW5.out.trans (hb6.mono HW5.out.size)).size (.cells #[.int .i64 o.code, .int .i64 o.value, .slice A6 o.trace.length c6, .int .i64 o.used] 28))
    have K1d := hide ((K1c.out.below hb6).alloc (.cells #[.int .i64 o.code, .int .i64 o.value, .slice A6 o.trace.length c6, .int .i64 o.used] 28))
    have HO6 := hide (own_keep hown6 ((Below.refl _ _).alloc (Nat.le_refl _) (.cells #[.int .i64 o.code, .int .i64 o.value, .slice A6 o.trace.length c6, .int .i64 o.used] 28)))
    clear hown6 hb6 p0 p1 p2 p3 pl
    go_wp2_with fail
    refine (HI.out _ _ (Rd.of_own HO6.out) HW6.out).mono ?_
    rintro e w8 ⟨rfl, hb8⟩
    have HO8 := hide (own_keep HO6.out hb8); have HW8 := hide (HW6.out.trans (hb8.mono HW6.out.size))
    have K1i := hide (K1d.out.below hb8); have X0i := hide (X0.out.below hb8)
    have hsz : w6.heap.size < w8.heap.size := by have := hb8.size; rw [World.size_alloc] at this; omega
    clear hb8
    go_wp2_with fail
    go_region_held3 (fun w' => w'.cell? ⟨w6.heap.size, 0, none⟩ = some (.int .i64 o.code) ∧ w'.cell? ⟨w6.heap.size, 1, none⟩ = some (.int .i64 o.value) ∧ w'.cell? ⟨w6.heap.size, 2, none⟩ = some (.slice A6 o.trace.length c6) ∧ w'.cell? ⟨w6.heap.size, 3, none⟩ = some (.int .i64 o.used) ∧ w'.cell? ⟨w.heap.size, 0, none⟩ = some (.int .i64 o.code) ∧ w'.cell? ⟨w.heap.size, 1, none⟩ = some (.int .i64 o.value) ∧ w'.cell? ⟨w.heap.size, 2, none⟩ = some (.slice A o.trace.length c) ∧ w'.cell? ⟨w.heap.size, 3, none⟩ = some (.int .i64 o.used)) (first | exact keep8o X0i.out K1i.out | exact keep8o X0j.out K1j.out | exact keep8o X0k.out K1k.out)
      (first
        | (go_at_call 9; refine (toOutcome o _ _ (Hr.out.go HW8.out.drew (Nat.le_refl _) HW8.out.size) (by omega)).mono ?_; rintro e w9 ⟨s9, rfl, hown9, hb9⟩; obtain ⟨A9, c9, rfl⟩ := own_form hown9; have HO9 := hide hown9; have HO8j := hide (own_keep (W := w8.drew) HO8.out hb9); have K1j := hide (K1i.out.below (w := w8.drew) hb9); have X0j := hide (X0i.out.below (w := w8.drew) hb9); have HW9 := hide (HW8.out.drew.trans (hb9.mono HW8.out.size)); clear hown9 hb9)
        | (go_at_call 11; refine (eqOutcome o _ _ _ (Rd.of_own HO8j.out) (Rd.of_own HO9.out)).mono ?_; rintro e w10 ⟨rfl, hb10⟩; have K1k := hide (K1j.out.below hb10); have X0k := hide (X0j.out.below hb10); have HW10 := hide (HW9.out.trans (hb10.mono HW9.out.size)); clear hb10))
    go_wp2_with fail
    go_ret
    exact ⟨rfl, HW10.out⟩
  · rw [if_neg (by omega)]
    go_wp2
    go_ret
    exact ⟨rfl, HW1.out⟩
end Go.Proofs.YtheddnjhkcpmnaaDoor
