
/- HighOf, NeedsOf: what the Go text returns. No condition. -/
import Derived.Test.YtheddnjhkcpmnaaGreatDoorEx4
set_option linter.unusedSimpArgs false
set_option linter.unusedVariables false
set_option maxRecDepth 100000
namespace Go.Proofs.YtheddnjhkcpmnaaGreatDoor
open Go.RowKit Go.Shelf

def highR (e : List P2) (params : List Int) : Int := if parOk params = true then highOf 6 params e else 0
def highB (e : List P2) (params : List Int) : Bool := decide (0 < highR e params)
theorem retIBx {a b : Int} {c d : Bool} (h : a = b) (h2 : c = d) : Ending.returned (.tuple #[.int .i64 a, .bool c]) = .returned (.tuple #[.int .i64 b, .bool d]) := by rw [h, h2]

theorem impl_HighOf (v : Value) (e : List P2) (pv : Value) (params : List Int) (w : World) (hr : Rd w w.heap.size v e.length (pcells e)) (hp : Rd w w.heap.size pv params.length (icells .i64 params)) :
    Calls Tryz.prog 13 #[v, pv] w fun e' w' => e' = .returned (.tuple #[.int .i64 (highR e params), .bool (highB e params)]) ∧ Below w.heap.size w w' := by
  obtain ⟨A, c, rfl, hn, hc, hcell⟩ := id hr
  obtain ⟨A2, c2, rfl, hn2, hc2, hcell2⟩ := id hp
  have Hr := hide hr; have Hp := hide hp; clear hr hcell hp hcell2 hn hc hn2 hc2
  have hpar := impl_areParams (.slice A2 params.length c2) params w Hp.out
  have hR : highR e params = if parOk params = true then highOf 6 params e else 0 := rfl
  have hB : highB e params = decide (0 < highR e params) := rfl
  cases hok : parOk params
  · simp only [hok] at hpar
    rw [hok, if_neg (by simp)] at hR
    rw [hR, decide_eq_false (by omega)] at hB
    have HR := hide hR; have HB := hide hB
    have Hpar := Lib.hid hpar; clear hpar hok hR hB
    go_enter Tryz.func13, Tryz.ntmps13
    go_wp2_with (go_at_call 35; refine (Hpar.out).mono ?_; rintro e w1 ⟨rfl, hb1⟩)
    go_ret2
    exact ⟨retIBx HR.out.symm HB.out.symm, hb1⟩
  · have hb := highOf_bd (vars := 6) hok e
    have hh := fun w hr hp => impl_highOf (.slice A e.length c) e 6 (.slice A2 params.length c2) params w hr hp (by omega) (by omega) hok
    simp only [hok] at hpar
    rw [hok, if_pos rfl] at hR
    generalize highOf 6 params e = F at *
    have HR := hide hR; have HB := hide hB
    have Hpar := Lib.hid hpar; clear hpar hok
    generalize highR e params = R at *
    generalize highB e params = R2 at *
    subst hR
    clear hB
    have Hh := Lib.hid hh; clear hh
    by_cases h0 : 0 < R
    · have HB' := hide (HB.out.trans (decide_eq_true h0)); clear HB HR
      go_enter Tryz.func13, Tryz.ntmps13
      go_wp2_with (first
        | (go_at_call 35; refine (Hpar.out).mono ?_; rintro e w1 ⟨rfl, hb1⟩)
        | (go_at_call 36; refine (Hh.out _ (Hr.out.here hb1) (Hp.out.here hb1)).mono ?_; rintro e w2 ⟨rfl, hb2⟩))
      go_ret2
      exact ⟨retIBx rfl HB'.out.symm, hb1.trans (hb2.mono hb1.size)⟩
    · have HB' := hide (HB.out.trans (decide_eq_false h0)); clear HB HR
      obtain rfl : R = 0 := by omega
      go_enter Tryz.func13, Tryz.ntmps13
      go_wp2_with (first
        | (go_at_call 35; refine (Hpar.out).mono ?_; rintro e w1 ⟨rfl, hb1⟩)
        | (go_at_call 36; refine (Hh.out _ (Hr.out.here hb1) (Hp.out.here hb1)).mono ?_; rintro e w2 ⟨rfl, hb2⟩))
      go_ret2
      exact ⟨retIBx rfl HB'.out.symm, hb1.trans (hb2.mono hb1.size)⟩

theorem spec_HighOf (v : Value) (e : List P2) (pv : Value) (params : List Int) (w : World) (hr : Rd w w.heap.size v e.length (pcells e)) (hp : Rd w w.heap.size pv params.length (icells .i64 params)) :
    Calls Tryz.prog 14 #[v, pv] w fun e' w' => e' = .returned (.tuple #[.int .i64 (highR e params), .bool (highB e params)]) ∧ Below w.heap.size w w' := by
  obtain ⟨A, c, rfl, hn, hc, hcell⟩ := id hr
  obtain ⟨A2, c2, rfl, hn2, hc2, hcell2⟩ := id hp
  have Hr := hide hr; have Hp := hide hp; clear hr hcell hp hcell2 hn hc hn2 hc2
  have hg := spec_GoodExpr (.slice A e.length c) e 6 (.slice A2 params.length c2) params w Hr.out Hp.out
  have hR : highR e params = if parOk params = true then highOf 6 params e else 0 := rfl
  have hB : highB e params = decide (0 < highR e params) := rfl
  have hG : goodExpr e 6 params = (parOk params && decide (0 < highOf 6 params e)) := by unfold goodExpr; rw [decide_eq_true (by omega)]; rfl
  cases hok : parOk params
  · rw [hok, Bool.false_and] at hG
    rw [hok, if_neg (by simp)] at hR
    rw [hR, decide_eq_false (by omega)] at hB
    simp only [hG] at hg
    have HR := hide hR; have HB := hide hB
    have Hg := Lib.hid hg; clear hg hok hR hB hG
    go_enter Tryz.func14, Tryz.ntmps14
    go_wp2_with (go_at_call 20; refine (Hg.out).mono ?_; rintro e w1 ⟨rfl, hb1⟩)
    go_ret2
    exact ⟨retIBx HR.out.symm HB.out.symm, hb1⟩
  · rw [hok, Bool.true_and] at hG
    rw [hok, if_pos rfl] at hR
    have hb := highOf_bd (vars := 6) hok e
    have hh := fun w hr hp => spec_l2High (.slice A e.length c) e 6 (.slice A2 params.length c2) params w hr hp (by omega) (by omega) hok
    have hsp : specHigh 6 params e = if highOf 6 params e = 0 then -1 else highOf 6 params e := rfl
    generalize specHigh 6 params e = S at *
    generalize highOf 6 params e = F at *
    by_cases h0 : 0 < F
    · rw [decide_eq_true h0] at hG
      rw [hR, decide_eq_true h0] at hB
      rw [if_neg (by omega)] at hsp
      subst hsp
      simp only [hG] at hg
      have HR := hide hR; have HB := hide hB; have Hh := Lib.hid hh
      have Hg := Lib.hid hg; clear hg hok hR hB hG hh
      go_enter Tryz.func14, Tryz.ntmps14
      go_wp2_with (first
        | (go_at_call 20; refine (Hg.out).mono ?_; rintro e w1 ⟨rfl, hb1⟩)
        | (go_at_call 37; refine (Hh.out _ (Hr.out.here hb1) (Hp.out.here hb1)).mono ?_; rintro e w2 ⟨rfl, hb2⟩))
      go_ret2
      exact ⟨retIBx HR.out.symm HB.out.symm, hb1.trans (hb2.mono hb1.size)⟩
    · rw [decide_eq_false h0] at hG
      rw [hR, decide_eq_false h0] at hB
      obtain rfl : F = 0 := by omega
      simp only [hG] at hg
      have HR := hide hR; have HB := hide hB
      have Hg := Lib.hid hg; clear hg hok hR hB hG hh
      go_enter Tryz.func14, Tryz.ntmps14
      go_wp2_with (go_at_call 20; refine (Hg.out).mono ?_; rintro e w1 ⟨rfl, hb1⟩)
      go_ret2
      exact ⟨retIBx HR.out.symm HB.out.symm, hb1⟩

def needB (t : P2) (params : List Int) : Bool := parOk params && tokOk 6 params.length t
def needR (t : P2) (params : List Int) : Int := if needB t params = true then need params t else 0
theorem impl_NeedsOf (o n : Int) (pv : Value) (params : List Int) (w : World) (hp : Rd w w.heap.size pv params.length (icells .i64 params)) :
    Calls Tryz.prog 17 #[.agg #[.int .i64 o, .int .i64 n], pv] w fun e' w' => e' = .returned (.tuple #[.int .i64 (needR ⟨o, n⟩ params), .bool (needB ⟨o, n⟩ params)]) ∧ Below w.heap.size w w' := by
  obtain ⟨A2, c2, rfl, hn2, hc2, hcell2⟩ := id hp
  have Hp := hide hp; clear hp hcell2 hn2 hc2
  have hpa := hide (Hp.out.here ((Below.refl _ _).alloc (Nat.le_refl _) (.cells #[.int .i64 o, .int .i64 n] 40)))
  have hpar := fun w hp => impl_areParams (.slice A2 params.length c2) params w hp
  have hR : needR ⟨o, n⟩ params = if needB ⟨o, n⟩ params = true then need params ⟨o, n⟩ else 0 := rfl
  have hB : needB ⟨o, n⟩ params = (parOk params && tokOk 6 params.length ⟨o, n⟩) := rfl
  cases hok : parOk params
  · rw [hok, Bool.false_and] at hB
    rw [hB, if_neg (by simp)] at hR
    simp only [hok] at hpar
    have HR := hide hR; have HB := hide hB
    have Hpar := Lib.hid hpar; clear hpar hok hR hB
    go_enter Tryz.func17, Tryz.ntmps17
    go_wp2_with (go_at_call 35; refine (Hpar.out _ hpa.out).mono ?_; rintro e w1 ⟨rfl, hb1⟩)
    go_ret2
    exact ⟨retIBx HR.out.symm HB.out.symm, below_box hb1⟩
  · have hp5 := (parOk_iff.1 hok).1
    rw [hok, Bool.true_and] at hB
    simp only [hok] at hpar
    have htk := fun w => impl_isTok o n 6 params.length (by omega) (by omega) (by omega) (by omega) w
    have hcall := @tok_call 6 params.length o n
    have hnd := fun w hr h => impl_needs o n params (.slice A2 params.length c2) w hr h
    have Hpar := Lib.hid hpar; clear hpar hok
    cases ht : tokOk 6 params.length ⟨o, n⟩
    · rw [ht] at hB
      rw [hB, if_neg (by simp)] at hR
      simp only [ht] at htk
      have HR := hide hR; have HB := hide hB; have Htk := Lib.hid htk
      clear htk ht hnd hcall hR hB
      go_enter Tryz.func17, Tryz.ntmps17
      go_wp2_with fail
      refine (Hpar.out _ hpa.out).mono ?_
      rintro e w1 ⟨rfl, hb1⟩
      have c0 := hb1.cell (p := ⟨w.heap.size, 0, none⟩) (by rw [World.size_alloc]; show w.heap.size < _; omega)
      have c1 := hb1.cell (p := ⟨w.heap.size, 1, none⟩) (by rw [World.size_alloc]; show w.heap.size < _; omega)
      have Hb1 := hide (below_box hb1); clear hb1
      go_wp2_with (go_at_call 25; refine (Htk.out _).mono ?_; rintro e w2 ⟨rfl, hb2⟩)
      go_ret2
      exact ⟨retIBx HR.out.symm HB.out.symm, Hb1.out.trans (hb2.mono Hb1.out.size)⟩
    · rw [ht] at hB
      rw [hB, if_pos rfl] at hR
      simp only [ht] at htk
      have HR := hide hR; have HB := hide hB; have Htk := Lib.hid htk; have Hnd := Lib.hid hnd; have Hcall := hide (hcall ht)
      clear htk ht hnd hcall hR hB
      go_enter Tryz.func17, Tryz.ntmps17
      go_wp2_with fail
      refine (Hpar.out _ hpa.out).mono ?_
      rintro e w1 ⟨rfl, hb1⟩
      have c0 := hb1.cell (p := ⟨w.heap.size, 0, none⟩) (by rw [World.size_alloc]; show w.heap.size < _; omega)
      have c1 := hb1.cell (p := ⟨w.heap.size, 1, none⟩) (by rw [World.size_alloc]; show w.heap.size < _; omega)
      have z1 := hb1.size
      rw [World.size_alloc] at z1
      have Hb1 := hide (below_box hb1); clear hb1
      go_wp2_with fail
      refine (Htk.out _).mono ?_
      rintro e w2 ⟨rfl, hb2⟩
      have c0' := hb2.cell (p := ⟨w.heap.size, 0, none⟩) (by show w.heap.size < _; omega)
      have c1' := hb2.cell (p := ⟨w.heap.size, 1, none⟩) (by show w.heap.size < _; omega)
      have Hb2 := hide (Hb1.out.trans (hb2.mono (by omega))); clear hb2
      go_wp2_with fail
      refine (Hnd.out _ (Hp.out.here Hb2.out) Hcall.out).mono ?_
      rintro e w3 ⟨rfl, hb3⟩
      go_wp2
      go_ret2
      exact ⟨retIBx HR.out.symm HB.out.symm, Hb2.out.trans (hb3.mono Hb2.out.size)⟩
theorem spec_NeedsOf (o n : Int) (pv : Value) (params : List Int) (w : World) (hp : Rd w w.heap.size pv params.length (icells .i64 params)) :
    Calls Tryz.prog 18 #[.agg #[.int .i64 o, .int .i64 n], pv] w fun e' w' => e' = .returned (.tuple #[.int .i64 (needR ⟨o, n⟩ params), .bool (needB ⟨o, n⟩ params)]) ∧ Below w.heap.size w w' := by
  obtain ⟨A2, c2, rfl, hn2, hc2, hcell2⟩ := id hp
  have Hp := hide hp; clear hp hcell2 hn2 hc2
  have hpa := hide (Hp.out.here ((Below.refl _ _).alloc (Nat.le_refl _) (.cells #[.int .i64 o, .int .i64 n] 40)))
  have hpar := fun w => spec_l2Params (.slice A2 params.length c2) params w
  have hR : needR ⟨o, n⟩ params = if needB ⟨o, n⟩ params = true then need params ⟨o, n⟩ else 0 := rfl
  have hB : needB ⟨o, n⟩ params = (parOk params && tokOk 6 params.length ⟨o, n⟩) := rfl
  cases hok : parOk params
  · rw [hok, Bool.false_and] at hB
    rw [hB, if_neg (by simp)] at hR
    simp only [hok] at hpar
    have HR := hide hR; have HB := hide hB
    have Hpar := Lib.hid hpar; clear hpar hok hR hB
    go_enter Tryz.func18, Tryz.ntmps18
    go_wp2_with (go_at_call 41; refine (Hpar.out _ _ hpa.out).mono ?_; rintro e w1 ⟨rfl, rfl⟩)
    go_ret2
    exact ⟨retIBx HR.out.symm HB.out.symm, (Below.refl _ _).alloc (Nat.le_refl _) _⟩
  · have hp5 := (parOk_iff.1 hok).1
    rw [hok, Bool.true_and] at hB
    simp only [hok] at hpar
    have htk := fun w hr => spec_l2Known o n 6 params (.slice A2 params.length c2) (by omega) (by omega) (by omega) w w.heap.size hr
    have hcall := @tok_call 6 params.length o n
    have hnd := fun w hr h => spec_l2Needs o n params (.slice A2 params.length c2) w hr h
    have Hpar := Lib.hid hpar; clear hpar hok
    cases ht : tokOk 6 params.length ⟨o, n⟩
    · rw [ht] at hB
      rw [hB, if_neg (by simp)] at hR
      simp only [ht] at htk
      have HR := hide hR; have HB := hide hB; have Htk := Lib.hid htk
      clear htk ht hnd hcall hR hB
      go_enter Tryz.func18, Tryz.ntmps18
      go_wp2_with (first
        | (go_at_call 41; refine (Hpar.out _ _ hpa.out).mono ?_; rintro e w1 ⟨rfl, rfl⟩)
        | (go_at_call 42; refine (Htk.out _ hpa.out).mono ?_; rintro e w2 ⟨rfl, hb2⟩))
      go_ret2
      exact ⟨retIBx HR.out.symm HB.out.symm, below_box hb2⟩
    · rw [ht] at hB
      rw [hB, if_pos rfl] at hR
      simp only [ht] at htk
      have HR := hide hR; have HB := hide hB; have Htk := Lib.hid htk; have Hnd := Lib.hid hnd; have Hcall := hide (hcall ht)
      clear htk ht hnd hcall hR hB
      go_enter Tryz.func18, Tryz.ntmps18
      go_wp2_with (go_at_call 41; refine (Hpar.out _ _ hpa.out).mono ?_; rintro e w1 ⟨rfl, rfl⟩)
      refine (Htk.out _ hpa.out).mono ?_
      rintro e w2 ⟨rfl, hb2⟩
      have c0 := hb2.cell (p := ⟨w.heap.size, 0, none⟩) (by rw [World.size_alloc]; show w.heap.size < _; omega)
      have c1 := hb2.cell (p := ⟨w.heap.size, 1, none⟩) (by rw [World.size_alloc]; show w.heap.size < _; omega)
      have Hb2 := hide (below_box hb2); clear hb2
      go_wp2_with fail
      refine (Hnd.out _ (Hp.out.here Hb2.out) Hcall.out).mono ?_
      rintro e w3 ⟨rfl, hb3⟩
      go_wp2
      go_ret2
      exact ⟨retIBx HR.out.symm HB.out.symm, Hb2.out.trans (hb3.mono Hb2.out.size)⟩
end Go.Proofs.YtheddnjhkcpmnaaGreatDoor
