
/- l2High, GoodExpr, HighOf, NeedsOf: what the Go text returns. No condition. -/
import Derived.Test.YtheddnjhkcpmnaaGreatDoorEx3
set_option linter.unusedSimpArgs false
set_option linter.unusedVariables false
set_option maxRecDepth 100000
namespace Go.Proofs.YtheddnjhkcpmnaaGreatDoor
open Go.RowKit Go.Shelf

theorem spec_l1Most (a b : Int) (w : World) : Calls Tryz.prog 61 #[.int .i64 a, .int .i64 b] w fun e w' => e = .returned (.int .i64 (max a b)) ∧ w = w' := by
  by_cases h : b < a
  · rw [show max a b = a by omega]
    go_enter Tryz.func61, Tryz.ntmps61
    go_wp2
    go_ret
    exact ⟨rfl, rfl⟩
  · rw [show max a b = b by omega]
    go_enter Tryz.func61, Tryz.ntmps61
    go_wp2
    go_ret
    exact ⟨rfl, rfl⟩

set_option maxHeartbeats 1600000 in
theorem spec_l2High (v : Value) (e : List P2) (vars : Int) (pv : Value) (params : List Int) (w : World) (hr : Rd w w.heap.size v e.length (pcells e)) (hp : Rd w w.heap.size pv params.length (icells .i64 params)) (hv : 0 ≤ vars) (hv2 : vars ≤ 6) (hok : parOk params = true) :
    Calls Tryz.prog 37 #[v, .int .i64 vars, pv] w fun e' w' => e' = .returned (.int .i64 (specHigh vars params e)) ∧ Below w.heap.size w w' := by
  have hl := hr.long
  have hp5 := (parOk_iff.1 hok).1
  obtain ⟨A, c, rfl, hn, hc, hcell⟩ := id hr
  obtain ⟨A2, c2, rfl, hn2, hc2, hcell2⟩ := id hp
  have h0 := @specHigh_none vars params e
  have h1 := fun (c m : Int) h hl hc => @specHigh_some vars params hok e c m h hl hc
  have h2 := fun (c m : Int) h hc => @specHigh_bad vars params e c m h hc
  have Hr := hide hr; have Hp := hide hp; have Hok := hide hok; clear hr hcell hp hcell2 hok hn hc hn2 hc2
  generalize specHigh vars params e = F at *
  have H0 := hide h0; have H1 := hide h1; have H2 := hide h2; clear h0 h1 h2
  go_enter Tryz.func37, Tryz.ntmps37
  go_wp2
  go_loopw [8, 7, 13] (fun hi co i wr => ∃ (k : Nat) (x y : Int), k ≤ e.length ∧ i = .int .i64 k ∧ co = .int .i64 x ∧ hi = .int .i64 y ∧ 0 ≤ x ∧ x ≤ k ∧ 0 ≤ y ∧ y ≤ k ∧ runE vars params (e.drop k) x y = runE vars params e 0 0 ∧ Below w.heap.size w wr) (fun _ _ i _ => e.length - (intOf i).toNat)
  case atStart => exact ⟨0, 0, 0, by omega, rfl, rfl, rfl, by omega, by omega, by omega, by omega, rfl, Below.refl _ _⟩
  case round =>
    obtain ⟨k, x, y, hk, rfl, rfl, rfl, hx0, hxk, hy0, hyk, hrun, hb⟩ := hrel
    by_cases hlt : k < e.length
    · obtain ⟨b, o, rfl, hbB, hs0, hs1⟩ := Hr.out.two' hb (Nat.le_refl _) hlt
      have hpr := Hp.out.here hb
      have hnb := need_bd Hok.out e[k]
      have hyes := fun a b => runE_yes (vars := vars) (params := params) (c := x) (h := y) hlt a b
      have hno := fun a => runE_no (vars := vars) (params := params) (c := x) (h := y) hlt a
      rw [hrun] at hyes hno
      generalize e[k] = t at hs0 hs1 hnb hyes hno
      obtain ⟨to, tn⟩ := t
      dsimp only at hs0 hs1
      have htk := fun w hr => spec_l2Known to tn vars params (.slice A2 params.length c2) hv (by omega) (by omega) w w.heap.size hr
      have hcall := @tok_call vars params.length to tn
      have hnd := fun w hr h => spec_l2Needs to tn params (.slice A2 params.length c2) w hr h
      have Hb := hide hb; have Hpr := hide hpr; have hsz := hb.size
      have Hpa := hide (hpr.here ((Below.refl _ _).alloc (Nat.le_refl _) (.cells #[.int .i64 to, .int .i64 tn] 40)))
      clear hb hpr hrun
      by_cases ht : tokOk vars params.length ⟨to, tn⟩ = true
      · simp only [ht] at htk
        have Htk := Lib.hid htk; have Hnd := hide hnd; have Hcall := hide (hcall ht); clear htk hnd hcall
        generalize need params ⟨to, tn⟩ = nd at *
        obtain ⟨hn0, hn2⟩ := hnb
        go_wp2_with fail
        refine (Htk.out _ Hpa.out).mono ?_
        rintro e1 w1 ⟨rfl, hb1⟩
        have c0 := hb1.cell (p := ⟨wr.heap.size, 0, none⟩) (by rw [World.size_alloc]; show wr.heap.size < _; omega)
        have c1 := hb1.cell (p := ⟨wr.heap.size, 1, none⟩) (by rw [World.size_alloc]; show wr.heap.size < _; omega)
        have z1 := hb1.size
        rw [World.size_alloc] at z1
        have Hb1 := hide (below_box hb1); clear hb1
        go_wp2_with fail
        refine (Hnd.out _ (Hpr.out.here Hb1.out) Hcall.out).mono ?_
        rintro e2 w2 ⟨rfl, hb2⟩
        have c0' := (hb2.cell (p := ⟨wr.heap.size, 0, none⟩) (by show wr.heap.size < _; omega))
        have c1' := (hb2.cell (p := ⟨wr.heap.size, 1, none⟩) (by show wr.heap.size < _; omega))
        have Hb2 := hide (Hb1.out.trans (hb2.mono (by omega))); clear hb2
        by_cases hle : nd ≤ x
        · have Hyes := hide (hyes ht hle); clear hyes hno
          go_wp2_with fail
          refine (Hnd.out _ (Hpr.out.here Hb2.out) Hcall.out).mono ?_
          rintro e3 w3 ⟨rfl, hb3⟩
          have z2 := Hb2.out.size
          have Hb3 := hide (Hb.out.trans ((Hb2.out.trans (hb3.mono (by omega))).mono hsz)); clear hb3
          go_wp2_with (go_at_call 61; refine (spec_l1Most _ _ _).mono ?_; rintro e4 w4 ⟨rfl, rfl⟩)
          go_roundw
          case rel => exact ⟨k + 1, x + 1 - nd, max y (x + 1 - nd), by omega, by go_num, congrArg (Value.int .i64) (by omega), congrArg (Value.int .i64) (by omega), by omega, by omega, by omega, by omega, Hyes.out.symm, Hb3.out⟩
          case measure => simp [intOf]; omega
        · have Hno := hide (H0.out (hno (fun h => hle h.2))); clear hyes hno
          have hle' : x < nd := by omega
          clear hle
          go_wp2
          go_ret
          exact ⟨retI Hno.out.symm, Hb.out.trans (Hb2.out.mono hsz)⟩
      · have htf : tokOk vars params.length ⟨to, tn⟩ = false := by simpa using ht
        have Hno := hide (H0.out (hno (fun h => ht h.1))); clear hyes hno
        simp only [htf] at htk
        have Htk := Lib.hid htk; clear htk hnd hcall ht htf hnb
        go_wp2_with fail
        refine (Htk.out _ Hpa.out).mono ?_
        rintro e1 w1 ⟨rfl, hb1⟩
        go_wp2
        go_ret
        exact ⟨retI Hno.out.symm, Hb.out.trans ((below_box hb1).mono hsz)⟩
    · obtain rfl : k = e.length := by omega
      rw [List.drop_length] at hrun
      have hrun' : runE vars params e 0 0 = some (x, y) := hrun.symm
      by_cases hx : x = 1
      · by_cases h12 : e.length ≤ 12
        · have Hf := hide (H1.out x y hrun' h12 hx); clear hrun hrun'
          subst hx
          go_wp2
          go_ret
          exact ⟨retI Hf.out.symm, hb⟩
        · have Hf := hide (H2.out x y hrun' (.inr (by omega))); clear hrun hrun'
          subst hx
          go_wp2
          go_ret
          exact ⟨retI Hf.out.symm, hb⟩
      · have Hf := hide (H2.out x y hrun' (.inl hx)); clear hrun hrun'
        have hx' : (x != 1) = true := by rw [bne_iff_ne]; exact hx
        clear hx
        go_wp2
        go_ret
        exact ⟨retI Hf.out.symm, hb⟩

theorem spec_GoodExpr (v : Value) (e : List P2) (vars : Int) (pv : Value) (params : List Int) (w : World) (hr : Rd w w.heap.size v e.length (pcells e)) (hp : Rd w w.heap.size pv params.length (icells .i64 params)) :
    Calls Tryz.prog 20 #[v, .int .i64 vars, pv] w fun e' w' => e' = .returned (.bool (goodExpr e vars params)) ∧ Below w.heap.size w w' := by
  unfold goodExpr
  obtain ⟨A, c, rfl, hn, hc, hcell⟩ := id hr
  obtain ⟨A2, c2, rfl, hn2, hc2, hcell2⟩ := id hp
  have Hr := hide hr; have Hp := hide hp; clear hr hcell hp hcell2 hn hc hn2 hc2
  by_cases hv : 0 ≤ vars ∧ vars ≤ 6
  · rw [decide_eq_true hv, Bool.true_and]
    obtain ⟨hv1, hv2⟩ := hv
    have hpar := fun w => spec_l2Params (.slice A2 params.length c2) params w
    cases hok : parOk params
    · rw [Bool.false_and]
      simp only [hok] at hpar
      have Hpar := Lib.hid hpar; clear hpar hok
      go_enter Tryz.func20, Tryz.ntmps20
      go_wp2_with (first
        | (go_at_call 28; refine (spec_l1In_yes _ _ _ hv1 hv2 _).mono ?_; rintro e w' ⟨rfl, rfl⟩)
        | (go_at_call 41; refine (Hpar.out _ _ Hp.out).mono ?_; rintro e w' ⟨rfl, rfl⟩))
      go_ret
      exact ⟨rfl, Below.refl _ _⟩
    · rw [Bool.true_and]
      have hb := highOf_bd (vars := vars) hok e
      have hh := spec_l2High (.slice A e.length c) e vars (.slice A2 params.length c2) params w Hr.out Hp.out hv1 hv2 hok
      simp only [hok] at hpar
      have Hpar := Lib.hid hpar; clear hpar hok
      have hsp : specHigh vars params e = if highOf vars params e = 0 then -1 else highOf vars params e := rfl
      generalize specHigh vars params e = S at *
      generalize highOf vars params e = F at *
      by_cases h0 : F = 0
      · rw [if_pos h0] at hsp
        subst hsp
        rw [h0, decide_eq_false (by omega)]
        have Hh := Lib.hid hh; clear hh
        go_enter Tryz.func20, Tryz.ntmps20
        go_wp2_with (first
          | (go_at_call 28; refine (spec_l1In_yes _ _ _ hv1 hv2 _).mono ?_; rintro e w' ⟨rfl, rfl⟩)
          | (go_at_call 41; refine (Hpar.out _ _ Hp.out).mono ?_; rintro e w' ⟨rfl, rfl⟩)
          | (go_at_call 37; refine Hh.out.mono ?_; rintro e w' ⟨rfl, hb2⟩))
        go_ret
        exact ⟨rfl, hb2⟩
      · rw [if_neg h0] at hsp
        subst hsp
        have h1 : 0 < S := by omega
        rw [decide_eq_true h1]
        have Hh := Lib.hid hh; clear hh h0
        go_enter Tryz.func20, Tryz.ntmps20
        go_wp2_with (first
          | (go_at_call 28; refine (spec_l1In_yes _ _ _ hv1 hv2 _).mono ?_; rintro e w' ⟨rfl, rfl⟩)
          | (go_at_call 41; refine (Hpar.out _ _ Hp.out).mono ?_; rintro e w' ⟨rfl, rfl⟩)
          | (go_at_call 37; refine Hh.out.mono ?_; rintro e w' ⟨rfl, hb2⟩))
        go_ret
        exact ⟨rfl, hb2⟩
  · rw [decide_eq_false hv, Bool.false_and]
    have hv' : vars < 0 ∨ 6 < vars := by omega
    clear hv
    go_enter Tryz.func20, Tryz.ntmps20
    go_wp2_with (go_at_call 28; refine (spec_l1In_no _ _ _ hv' _).mono ?_; rintro e w' ⟨rfl, rfl⟩)
    go_ret
    exact ⟨rfl, Below.refl _ _⟩

theorem impl_GoodExpr (v : Value) (e : List P2) (vars : Int) (pv : Value) (params : List Int) (w : World) (hr : Rd w w.heap.size v e.length (pcells e)) (hp : Rd w w.heap.size pv params.length (icells .i64 params)) :
    Calls Tryz.prog 19 #[v, .int .i64 vars, pv] w fun e' w' => e' = .returned (.bool (goodExpr e vars params)) ∧ Below w.heap.size w w' := by
  unfold goodExpr
  obtain ⟨A, c, rfl, hn, hc, hcell⟩ := id hr
  obtain ⟨A2, c2, rfl, hn2, hc2, hcell2⟩ := id hp
  have Hr := hide hr; have Hp := hide hp; clear hr hcell hp hcell2 hn hc hn2 hc2
  by_cases hv : 0 ≤ vars ∧ vars ≤ 6
  · rw [decide_eq_true hv, Bool.true_and]
    obtain ⟨hv1, hv2⟩ := hv
    have hpar := impl_areParams (.slice A2 params.length c2) params w Hp.out
    cases hok : parOk params
    · rw [Bool.false_and]
      simp only [hok] at hpar
      have Hpar := Lib.hid hpar; clear hpar hok
      go_enter Tryz.func19, Tryz.ntmps19
      go_wp2_with (first
        | (go_at_call 22; refine (impl_within_yes _ _ _ hv1 hv2 _).mono ?_; rintro e w' ⟨rfl, rfl⟩)
        | (go_at_call 35; refine (Hpar.out).mono ?_; rintro e w' ⟨rfl, hb1⟩))
      go_ret
      exact ⟨rfl, hb1⟩
    · rw [Bool.true_and]
      have hb := highOf_bd (vars := vars) hok e
      have hh := fun w hr hp => impl_highOf (.slice A e.length c) e vars (.slice A2 params.length c2) params w hr hp hv1 hv2 hok
      simp only [hok] at hpar
      have Hpar := Lib.hid hpar; clear hpar hok
      generalize highOf vars params e = F at *
      obtain ⟨hF0, hF1⟩ := hb
      have Hh := hide hh; clear hh
      by_cases h0 : 0 < F
      · rw [decide_eq_true h0]
        go_enter Tryz.func19, Tryz.ntmps19
        go_wp2_with (first
          | (go_at_call 22; refine (impl_within_yes _ _ _ hv1 hv2 _).mono ?_; rintro e w' ⟨rfl, rfl⟩)
          | (go_at_call 35; refine (Hpar.out).mono ?_; rintro e w1 ⟨rfl, hb1⟩)
          | (go_at_call 36; refine (Hh.out _ (Hr.out.here hb1) (Hp.out.here hb1)).mono ?_; rintro e w2 ⟨rfl, hb2⟩))
        go_ret
        exact ⟨rfl, hb1.trans (hb2.mono hb1.size)⟩
      · rw [decide_eq_false h0]
        obtain rfl : F = 0 := by omega
        clear h0
        go_enter Tryz.func19, Tryz.ntmps19
        go_wp2_with (first
          | (go_at_call 22; refine (impl_within_yes _ _ _ hv1 hv2 _).mono ?_; rintro e w' ⟨rfl, rfl⟩)
          | (go_at_call 35; refine (Hpar.out).mono ?_; rintro e w1 ⟨rfl, hb1⟩)
          | (go_at_call 36; refine (Hh.out _ (Hr.out.here hb1) (Hp.out.here hb1)).mono ?_; rintro e w2 ⟨rfl, hb2⟩))
        go_ret
        exact ⟨rfl, hb1.trans (hb2.mono hb1.size)⟩
  · rw [decide_eq_false hv, Bool.false_and]
    have hv' : vars < 0 ∨ 6 < vars := by omega
    clear hv
    go_enter Tryz.func19, Tryz.ntmps19
    go_wp2_with (go_at_call 22; refine (impl_within_no _ _ _ hv' _).mono ?_; rintro e w' ⟨rfl, rfl⟩)
    go_ret
    exact ⟨rfl, Below.refl _ _⟩
end Go.Proofs.YtheddnjhkcpmnaaGreatDoor
