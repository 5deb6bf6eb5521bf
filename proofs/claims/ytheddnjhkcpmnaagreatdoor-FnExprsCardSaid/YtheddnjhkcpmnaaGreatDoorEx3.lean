
/- highOf, GoodExpr, HighOf, NeedsOf and the reference's: what the Go text returns. No condition. -/
import Derived.Test.YtheddnjhkcpmnaaGreatDoorEx2
set_option linter.unusedSimpArgs false
set_option linter.unusedVariables false
set_option maxRecDepth 100000
namespace Go.Proofs.YtheddnjhkcpmnaaGreatDoor
open Go.RowKit Go.Shelf

theorem tok_call {vars funcs o n : Int} (h : tokOk vars funcs ⟨o, n⟩ = true) : o = 11 → 0 ≤ n ∧ n ≤ funcs - 1 := by
  rintro rfl
  have : tokOk vars funcs ⟨11, n⟩ = inB n 0 (funcs - 1) := rfl
  rw [this] at h
  exact inB_iff.1 h

set_option maxHeartbeats 1600000 in
theorem impl_highOf (v : Value) (e : List P2) (vars : Int) (pv : Value) (params : List Int) (w : World) (hr : Rd w w.heap.size v e.length (pcells e)) (hp : Rd w w.heap.size pv params.length (icells .i64 params)) (hv : 0 ≤ vars) (hv2 : vars ≤ 6) (hok : parOk params = true) :
    Calls Tryz.prog 36 #[v, .int .i64 vars, pv] w fun e' w' => e' = .returned (.int .i64 (highOf vars params e)) ∧ Below w.heap.size w w' := by
  have hl := hr.long
  have hp5 := (parOk_iff.1 hok).1
  obtain ⟨A, c, rfl, hn, hc, hcell⟩ := id hr
  obtain ⟨A2, c2, rfl, hn2, hc2, hcell2⟩ := id hp
  have Hr := hide hr; have Hp := hide hp; have Hok := hide hok; clear hr hcell hp hcell2 hok hn hc hn2 hc2
  by_cases hlen : 1 ≤ e.length ∧ e.length ≤ 12
  · have h0 := @highOf_none vars params e
    have h1 := fun (c m : Int) h hc => @highOf_some vars params e c m h hlen.2 hc
    have h2 := fun (c m : Int) h hc => @highOf_bad vars params e c m h (.inl hc)
    generalize highOf vars params e = F at *
    have H0 := hide h0; have H1 := hide h1; have H2 := hide h2; clear h0 h1 h2
    obtain ⟨hl1, hl2⟩ := hlen
    go_enter Tryz.func36, Tryz.ntmps36
    go_wp2_with (go_at_call 22; refine (impl_within_yes _ _ _ (by omega) (by omega) _).mono ?_; rintro e w' ⟨rfl, rfl⟩)
    go_loopw [7, 8, 17] (fun hi co i wr => ∃ (k : Nat) (x y : Int), k ≤ e.length ∧ i = .int .i64 k ∧ co = .int .i64 x ∧ hi = .int .i64 y ∧ 0 ≤ x ∧ x ≤ k ∧ 0 ≤ y ∧ y ≤ k ∧ runE vars params (e.drop k) x y = runE vars params e 0 0 ∧ Below w.heap.size w wr) (fun _ _ i _ => e.length - (intOf i).toNat)
    case atStart => exact ⟨0, 0, 0, by omega, rfl, rfl, rfl, by omega, by omega, by omega, by omega, rfl, Below.refl _ _⟩
    case round =>
      obtain ⟨k, x, y, hk, rfl, rfl, rfl, hx0, hxk, hy0, hyk, hrun, hb⟩ := hrel
      by_cases hlt : k < e.length
      · obtain ⟨b, o, rfl, hbB, hs0, hs1⟩ := Hr.out.two' hb (Nat.le_refl _) hlt
        have hpr := Hp.out.here hb
        have hnb := need_bd Hok.out e[k]
        have hyes := fun a b => runE_yes (vars := vars) (params := params) (c := x) (h := y) hlt a b
        have hno := fun a => runE_no (vars := vars) (params := params) (c := x) (h := y) hlt a
        rw [hrun] at hyes hno
        generalize e[k] = t at hs0 hs1 hnb hyes hno
        obtain ⟨to, tn⟩ := t
        dsimp only at hs0 hs1
        have htk := fun w => impl_isTok to tn vars params.length hv (by omega) (by omega) (by omega) w
        have hcall := @tok_call vars params.length to tn
        have hnd := fun w hr h => impl_needs to tn params (.slice A2 params.length c2) w hr h
        have Hb := hide hb; have Hpr := hide hpr; have hsz := hb.size
        clear hb hpr hrun
        by_cases ht : tokOk vars params.length ⟨to, tn⟩ = true
        · simp only [ht] at htk
          have Htk := Lib.hid htk; have Hnd := hide hnd; have Hcall := hide (hcall ht); clear htk hnd hcall
          generalize need params ⟨to, tn⟩ = nd at *
          obtain ⟨hn0, hn2⟩ := hnb
          go_wp2_with fail
          refine (Htk.out _).mono ?_
          rintro e1 w1 ⟨rfl, hb1⟩
          have c0 := hb1.cell (p := ⟨wr.heap.size, 0, none⟩) (by rw [World.size_alloc]; show wr.heap.size < _; omega)
          have c1 := hb1.cell (p := ⟨wr.heap.size, 1, none⟩) (by rw [World.size_alloc]; show wr.heap.size < _; omega)
          have z1 := hb1.size
          rw [World.size_alloc] at z1
          have Hb1 := hide (below_box hb1); clear hb1
          go_wp2_with fail
          refine (Hnd.out _ (Hpr.out.here Hb1.out) Hcall.out).mono ?_
          rintro e2 w2 ⟨rfl, hb2⟩
          have c0' := (hb2.cell (p := ⟨wr.heap.size, 0, none⟩) (by show wr.heap.size < _; omega))
          have c1' := (hb2.cell (p := ⟨wr.heap.size, 1, none⟩) (by show wr.heap.size < _; omega))
          have Hb2 := hide (Hb1.out.trans (hb2.mono (by omega))); clear hb2
          by_cases hle : nd ≤ x
          · have Hyes := hide (hyes ht hle); clear hyes hno
            go_wp2_with fail
            refine (Hnd.out _ (Hpr.out.here Hb2.out) Hcall.out).mono ?_
            rintro e3 w3 ⟨rfl, hb3⟩
            have z2 := Hb2.out.size
            have Hb3 := hide (Hb.out.trans ((Hb2.out.trans (hb3.mono (by omega))).mono hsz)); clear hb3
            go_wp2
            go_roundw
            case rel => exact ⟨k + 1, x + 1 - nd, max y (x + 1 - nd), by omega, by go_num, congrArg (Value.int .i64) (by omega), congrArg (Value.int .i64) (by split <;> omega), by omega, by omega, by omega, by omega, Hyes.out.symm, Hb3.out⟩
            case measure => simp [intOf]; omega
          · have Hno := hide (H0.out (hno (fun h => hle h.2))); clear hyes hno
            have hle' : x < nd := by omega
            clear hle
            go_wp2
            go_ret
            exact ⟨retI Hno.out.symm, Hb.out.trans (Hb2.out.mono hsz)⟩
        · have htf : tokOk vars params.length ⟨to, tn⟩ = false := by simpa using ht
          have Hno := hide (H0.out (hno (fun h => ht h.1))); clear hyes hno
          simp only [htf] at htk
          have Htk := Lib.hid htk; clear htk hnd hcall ht htf hnb
          go_wp2_with (go_at_call 25; refine (Htk.out _).mono ?_; rintro e1 w1 ⟨rfl, hb1⟩)
          go_ret
          exact ⟨retI Hno.out.symm, Hb.out.trans ((below_box hb1).mono hsz)⟩
      · obtain rfl : k = e.length := by omega
        rw [List.drop_length] at hrun
        have hrun' : runE vars params e 0 0 = some (x, y) := hrun.symm
        by_cases hx : x = 1
        · have Hf := hide (H1.out x y hrun' hx); clear hrun hrun'
          subst hx
          go_wp2
          go_ret
          exact ⟨retI Hf.out.symm, hb⟩
        · have Hf := hide (H2.out x y hrun' hx); clear hrun hrun'
          have hx' : (x != 1) = true := by rw [bne_iff_ne]; exact hx
          clear hx
          go_wp2
          go_ret
          exact ⟨retI Hf.out.symm, hb⟩
  · have Hf := hide (highOf_size (vars := vars) (params := params) hlen)
    have hl' : (e.length : Int) < 1 ∨ 12 < (e.length : Int) := by omega
    clear hlen
    go_enter Tryz.func36, Tryz.ntmps36
    go_wp2_with (go_at_call 22; refine (impl_within_no _ _ _ hl' _).mono ?_; rintro e w' ⟨rfl, rfl⟩)
    go_ret
    exact ⟨retI Hf.out.symm, Below.refl _ _⟩
end Go.Proofs.YtheddnjhkcpmnaaGreatDoor
