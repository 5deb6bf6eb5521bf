
/- spec.GoodProg: what the Go text returns. No condition. -/
import Derived.Test.YtgkjakoagdkpcaaGreatDoorPg9P
import Derived.Deep.RegionHeld3
import Derived.BigQuiet
import Derived.Test.YtgkjakoagdkpcaaGreatDoorSl6
set_option linter.unusedSimpArgs false
set_option linter.unusedVariables false
set_option maxRecDepth 100000
namespace Go.Proofs.YtgkjakoagdkpcaaGreatDoor
open Go.RowKit

theorem below_undrew {B : Nat} {a w : World} (h : Below B a.drew w) : Below B a w := ⟨h.os, h.tape, h.output, h.size, h.block⟩
theorem funcB_sh {f : FuncM} {params : List Int} (h : funcB f params = true) : f.qStmts.length ≤ 16 ∧ ∀ j (hj : j < f.qStmts.length), f.qStmts[j].qKind = 3 → 0 ≤ f.qStmts[j].qN ∧ f.qStmts[j].qN < params.length := by
  rw [func_eq, Bool.and_eq_true, List.all_eq_true] at h
  refine ⟨(shaped_vars h.1).2.2, fun j hj h3 => ?_⟩
  have := h.2 _ (List.getElem_mem hj)
  unfold stmtOk at this
  rw [h3] at this
  simp at this
  have := inB_iff.1 this.2.1
  omega
theorem par0 {l : List FuncM} (h : 0 < l.length) : (parL l).getD 0 0 = l[0].qParams := by
  simp [parL, List.getD, List.getElem?_eq_getElem h]

set_option maxHeartbeats 3200000 in
theorem spec_GoodProg (cs : List Value) (m : ProgM) (w : World) (hr : RProg w 0 w.heap.size cs m) (hz : szProgN m ≤ 1048576) :
    Calls Tryz.prog 102 #[.agg cs.toArray] w fun e w' => e = .returned (.bool (progS m.qFuncs)) ∧ Below w.heap.size w w' := by
  have hr0 := hr
  obtain ⟨v0, rfl, h0⟩ := hr
  obtain ⟨l⟩ := m
  dsimp only at *
  obtain ⟨A, c, rfl⟩ := h0.form
  have hll : l.length ≤ 1048576 := by have h1 : szProgN ⟨l⟩ = szFuncsN l := rfl; have h2 : szFuncsN l = l.length + szFuncsL l := rfl; omega
  have hel : ∀ k (h : k < l.length), szFuncN l[k] ≤ 1048576 := fun k h => by have h1 : szProgN ⟨l⟩ = szFuncsN l := rfl; have h2 : szFuncsN l = l.length + szFuncsL l := rfl; have h3 := szFuncsL_mem h; omega
  have hb := (Below.refl w.heap.size w).alloc (Nat.le_refl _) (.cells #[.slice A l.length c] 103)
  have hk := Bk.new w 103 #[.slice A l.length c]
  have f1 : inB l.length 1 5 = false → progS l = false := fun h => by unfold progS; rw [h]; rfl
  have f2 : parOk (parL l) = false → progS l = false := fun h => by unfold progS; rw [h]; simp
  have f3 : ¬ (parL l).getD 0 0 = 0 → progS l = false := fun h => by unfold progS; rw [decide_eq_false h]; simp
  have f4 : (l.all fun f => funcB f (parL l) && (sitesF 0 f.qStmts).all (siteZ (parL l) f)) = false → progS l = false := fun h => by unfold progS; rw [h]; simp
  have ft : inB l.length 1 5 = true → parOk (parL l) = true → (parL l).getD 0 0 = 0 → (l.all fun f => funcB f (parL l) && (sitesF 0 f.qStmts).all (siteZ (parL l) f)) = true → progS l = true := fun a b c d => by unfold progS; rw [a, b, decide_eq_true c, d]; rfl
  generalize progS l = R at *
  have hpl := parL_length l
  have hp0 : ∀ h : 0 < l.length, (parL l).getD 0 0 = l[0].qParams := fun h => par0 h
  have hpg : ∀ k (h : k < l.length), (parL l).getD k 0 = l[k].qParams := fun k h => by simp [parL, List.getD, List.getElem?_eq_getElem h]
  have hpar : ∀ W, Below w.heap.size w W → Calls Tryz.prog 116 #[.agg #[.slice A l.length c]] W fun e w' => ∃ v, e = .returned v ∧ w'.ownsRow W.heap.size 3 1 v (parL l).length (icells .i64 (parL l)) ∧ Below W.heap.size W w' := fun W hW => spec_l3Params _ ⟨l⟩ W (RProg_stable.here hr0 hW) hll
  generalize hPP : parL l = PP at *
  have hPP := hPP.symm
  have H0 := hide h0; have Hb0 := hide hb; have Hk0 := hide hk; have Hpar := Lib.hid hpar; have Hel := hide hel; have HPP := hide hPP; have Hpg := hide hpg
  clear h0 hr0 hb hk hpar hel hPP hpg
  have hpl1 : PP.length ≤ l.length := by omega
  have hpl2 : l.length ≤ PP.length := by omega
  clear hpl
  have hw := fun w => spec_l1In l.length 1 5 w
  cases g1 : inB l.length 1 5
  case false =>
    simp only [g1] at hw
    have HW := Lib.hid hw; have HF := hide (f1 g1); clear hw g1 f1 f2 f3 f4 ft hp0
    go_enter Tryz.func102, Tryz.ntmps102
    go_wp2_with (go_at_call 28; refine (HW.out _).mono ?_; rintro e w' ⟨rfl, rfl⟩)
    go_ret
    exact ⟨retB HF.out.symm, Hb0.out⟩
  simp only [g1] at hw
  have HW := Lib.hid hw
  have hl5 := inB_iff.1 g1
  replace ft := ft g1
  have hl0 : 0 < l.length := by omega
  replace hp0 := hp0 hl0
  clear hw g1 f1
  cases g2 : parOk PP
  case false =>
    have HF := hide (f2 g2); clear f2 f3 f4 ft hp0
    go_enter Tryz.func102, Tryz.ntmps102
    go_wp2_with (first
      | (go_at_call 28; refine (HW.out _).mono ?_; rintro e w' ⟨rfl, rfl⟩)
      | (go_at_call 116; refine (Hpar.out _ Hb0.out).mono ?_; rintro e w1 ⟨pv, rfl, hown, hb1⟩; have Hb1 := hide (Hb0.out.trans (hb1.mono Hb0.out.size)); have hap := spec_l2Params pv PP w1 _ (Rd.of_own hown); rw [g2] at hap; have Hap := hide hap; clear hap hown hb1)
      | (go_at_call 115; refine (Hap.out).mono ?_; rintro e w2 ⟨rfl, rfl⟩))
    go_ret
    exact ⟨retB HF.out.symm, Hb1.out⟩
  replace ft := ft g2
  have G2 := hide g2
  clear f2 g2
  obtain ⟨b, o, A2, c2, A3, c3, rfl, hbB, d0, -, -, -, -⟩ := RFunc_lit H0.out hl0
  rw [show o + 0 * 4 = o by omega, ← hp0] at d0
  have D0 := hide d0; clear d0 hp0
  generalize PP.getD 0 0 = x0 at *
  by_cases g3 : x0 = 0
  case neg =>
    have HF := hide (f3 g3); clear f3 f4 ft
    have b3 : (x0 != 0) = true := by rw [bne_iff_ne]; exact g3
    clear g3
    go_enter Tryz.func102, Tryz.ntmps102
    go_wp2_with (first
      | (go_at_call 28; refine (HW.out _).mono ?_; rintro e w' ⟨rfl, rfl⟩)
      | (go_at_call 116; refine (Hpar.out _ Hb0.out).mono ?_; rintro e w1 ⟨pv, rfl, hown, hb1⟩; have Hb1 := hide (Hb0.out.trans (hb1.mono Hb0.out.size)); have q0 := (Hk0.out.below hb1).cell 0; have q1 := (Hb1.out.cell (p := ⟨b, o, none⟩) hbB).trans D0.out; have hap := spec_l2Params pv PP w1 _ (Rd.of_own hown); rw [G2.out] at hap; have Hap := hide hap; clear hap hown hb1)
      | (go_at_call 115; refine (Hap.out).mono ?_; rintro e w2 ⟨rfl, rfl⟩))
    go_ret
    exact ⟨retB HF.out.symm, Hb1.out⟩
  subst g3
  have F4 := hide f4; have FT := hide (ft rfl)
  clear f3 f4 ft
  go_enter Tryz.func102, Tryz.ntmps102
  go_wp2_with (first
    | (go_at_call 28; refine (HW.out _).mono ?_; rintro e w' ⟨rfl, rfl⟩)
    | (go_at_call 116; refine (Hpar.out _ Hb0.out).mono ?_; rintro e w1 ⟨pv, rfl, hown, hb1⟩; have Hb1 := hide (Hb0.out.trans (hb1.mono Hb0.out.size)); have Hk1 := hide (Hk0.out.below hb1); have q0 := (Hk0.out.below hb1).cell 0; have q1 := (Hb1.out.cell (p := ⟨b, o, none⟩) hbB).trans D0.out; have hap := spec_l2Params pv PP w1 _ (Rd.of_own hown); rw [G2.out] at hap; have Hap := hide hap; clear hap hown hb1)
    | (go_at_call 115; refine (Hap.out).mono ?_; rintro e w2 ⟨rfl, rfl⟩))
  clear q0 q1 D0
  go_loopw [29] (fun i wr => ∃ k : Nat, k ≤ l.length ∧ i = .int .i64 k ∧ (l.take k).all (fun f => funcB f PP && (sitesF 0 f.qStmts).all (siteZ PP f)) = true ∧ Below w.heap.size w wr ∧ Bk wr w.heap.size 103 #[.slice (some ⟨b, o, none⟩) l.length c]) (fun i _ => l.length - (intOf i).toNat)
  case atStart => exact ⟨0, by omega, rfl, by simp, Hb1.out, Hk1.out⟩
  case round =>
    obtain ⟨k, hk, rfl, hall, hb, hkk⟩ := hrel
    have hbs := hb.size
    have hkl := hkk.lt
    by_cases hlt : k < l.length
    · obtain ⟨b', o', A2, c2, A3, c3, e', hbB', d0, d1, d2, d3, hx⟩ := RFunc_lit H0.out hlt
      cases e'
      have x0 := (hb.cell (p := ⟨b, o + k * 4, none⟩) hbB).trans d0
      have x1 := (hb.cell (p := ⟨b, o + k * 4 + 1, none⟩) hbB).trans d1
      have x2 := (hb.cell (p := ⟨b, o + k * 4 + 2, none⟩) hbB).trans d2
      have x3 := (hb.cell (p := ⟨b, o + k * 4 + 3, none⟩) hbB).trans d3
      have hbw : b < wr.heap.size := by omega
      have hstep := fun h => all_take_step (p := fun f => funcB f PP && (sitesF 0 f.qStmts).all (siteZ PP f)) hlt hall h
      have hfail := fun h => all_false (p := fun f => funcB f PP && (sitesF 0 f.qStmts).all (siteZ PP f)) hlt h
      have hzk := Hel.out k hlt
      have Hx := hide hx; have Hstep := hide hstep; have Hfail := hide hfail
      clear hx hstep hfail hall d0 d1 d2 d3
      generalize l[k] = f at *
      obtain ⟨f0, f1, f2, f3⟩ := f
      dsimp only at *
      have hB := hide (hb.alloc hbs (.cells #[.int .i64 f0, .int .i64 f1, .slice A2 f2.length c2, .slice A3 f3.length c3] 135))
      have hKk := hide (hkk.alloc (.cells #[.int .i64 f0, .int .i64 f1, .slice A2 f2.length c2, .slice A3 f3.length c3] 135))
      have hFb := hide (Bk.new wr 135 #[.int .i64 f0, .int .i64 f1, .slice A2 f2.length c2, .slice A3 f3.length c3])
      have hp1 := Hpar.out (World.drew (wr.alloc (.cells #[.int .i64 f0, .int .i64 f1, .slice A2 f2.length c2, .slice A3 f3.length c3] 135))) (by exact hB.out.drew)
      have hfn : ∀ (W : World) (pv : Value), Below w.heap.size w W → Rd W W.heap.size pv PP.length (icells .i64 PP) → Calls Tryz.prog 117 #[.agg #[.int .i64 f0, .int .i64 f1, .slice A2 f2.length c2, .slice A3 f3.length c3], pv] W fun e w' => e = .returned (.bool (funcB ⟨f0, f1, f2, f3⟩ PP)) ∧ Below W.heap.size W w' := fun W pv hW hrd => spec_l3Func _ ⟨f0, f1, f2, f3⟩ PP pv W (RFunc_stable.here Hx.out hW) hrd (by omega) hzk
      have Hp1 := hide hp1
      clear hp1 hb hkk
      cases gf : funcB ⟨f0, f1, f2, f3⟩ PP
      · rw [gf] at hfn
        have HF := hide (F4.out (Hfail.out (by rw [gf]; rfl)))
        have Hfn := Lib.hid hfn
        clear hfn gf
        go_wp2_with fail
        go_region_held3 (fun w' => w'.cell? ⟨w.heap.size, 0, none⟩ = some (.slice (some ⟨b, o, none⟩) l.length c) ∧ w'.cell? ⟨wr.heap.size, 0, none⟩ = some (.int .i64 f0) ∧ w'.cell? ⟨wr.heap.size, 1, none⟩ = some (.int .i64 f1) ∧ w'.cell? ⟨wr.heap.size, 2, none⟩ = some (.slice A2 f2.length c2) ∧ w'.cell? ⟨wr.heap.size, 3, none⟩ = some (.slice A3 f3.length c3)) (first | exact ⟨hKk.out.cell 0, hFb.out.cell 0, hFb.out.cell 1, hFb.out.cell 2, hFb.out.cell 3⟩ | exact ⟨hKk5.out.cell 0, hFb5.out.cell 0, hFb5.out.cell 1, hFb5.out.cell 2, hFb5.out.cell 3⟩ | exact ⟨hKk6.out.cell 0, hFb6.out.cell 0, hFb6.out.cell 1, hFb6.out.cell 2, hFb6.out.cell 3⟩)
          (first
            | (go_at_call 116; refine (Hp1.out).mono ?_; rintro e w5 ⟨pv, rfl, hown5, hb5⟩; replace hb5 := below_undrew hb5; have hKk5 := hide (hKk.out.below hb5); have hFb5 := hide (hFb.out.below hb5); have HB5 := hide (hB.out.trans (hb5.mono hB.out.size)); have HC5 := hide (Hfn.out w5 pv HB5.out (Rd.of_own hown5)); clear hown5 hb5)
            | (go_at_call 117; refine (HC5.out).mono ?_; rintro e w6 ⟨rfl, hb6⟩; have hKk6 := hide (hKk5.out.below hb6); have hFb6 := hide (hFb5.out.below hb6); have HB6 := hide (HB5.out.trans (hb6.mono HB5.out.size)); clear hb6))
        go_wp2
        go_ret
        exact ⟨retB HF.out.symm, HB6.out⟩
      · rw [gf] at hfn
        obtain ⟨h16, hsn⟩ := funcB_sh gf
        dsimp only at h16 hsn
        have Hfn := Lib.hid hfn; have Gf := hide gf; have Hsn := hide hsn
        clear hfn gf hsn
        have hsi : ∀ W, Below w.heap.size w W → Calls Tryz.prog 118 #[.agg #[.int .i64 f0, .int .i64 f1, .slice A2 f2.length c2, .slice A3 f3.length c3]] W fun e w' => ∃ v, e = .returned v ∧ w'.ownsRow W.heap.size 3 1 v (sitesF 0 f3).length (icells .i64 (sitesF 0 f3)) ∧ Below W.heap.size W w' := fun W hW => spec_l3Sites _ ⟨f0, f1, f2, f3⟩ W (RFunc_stable.here Hx.out hW) h16
        have Hsi := Lib.hid hsi; clear hsi
        have hsl := sitesF_length f3 0
        have hsm := fun x => sitesF_mem f3 0 x
        obtain ⟨_, _, ey, y2, y3⟩ := id Hx.out
        injection ey with _ ey
        injection ey with _ ey
        injection ey with ey1 ey
        injection ey with ey2 _
        subst ey1 ey2
        dsimp only at y2 y3
        generalize hSS : sitesF 0 f3 = S at *
        have HSm := hide hsm; have Y3 := hide y3; have HSS := hide hSS
        clear hsm y2 y3 hSS
        go_wp2_with fail
        go_region_held3 (fun w' => w'.cell? ⟨w.heap.size, 0, none⟩ = some (.slice (some ⟨b, o, none⟩) l.length c) ∧ w'.cell? ⟨wr.heap.size, 0, none⟩ = some (.int .i64 f0) ∧ w'.cell? ⟨wr.heap.size, 1, none⟩ = some (.int .i64 f1) ∧ w'.cell? ⟨wr.heap.size, 2, none⟩ = some (.slice A2 f2.length c2) ∧ w'.cell? ⟨wr.heap.size, 3, none⟩ = some (.slice A3 f3.length c3)) (first | exact ⟨hKk.out.cell 0, hFb.out.cell 0, hFb.out.cell 1, hFb.out.cell 2, hFb.out.cell 3⟩ | exact ⟨hKk5.out.cell 0, hFb5.out.cell 0, hFb5.out.cell 1, hFb5.out.cell 2, hFb5.out.cell 3⟩ | exact ⟨hKk6.out.cell 0, hFb6.out.cell 0, hFb6.out.cell 1, hFb6.out.cell 2, hFb6.out.cell 3⟩)
          (first
            | (go_at_call 116; refine (Hp1.out).mono ?_; rintro e w5 ⟨pv, rfl, hown5, hb5⟩; replace hb5 := below_undrew hb5; have hKk5 := hide (hKk.out.below hb5); have hFb5 := hide (hFb.out.below hb5); have HB5 := hide (hB.out.trans (hb5.mono hB.out.size)); have HC5 := hide (Hfn.out w5 pv HB5.out (Rd.of_own hown5)); clear hown5 hb5)
            | (go_at_call 117; refine (HC5.out).mono ?_; rintro e w6 ⟨rfl, hb6⟩; have hKk6 := hide (hKk5.out.below hb6); have hFb6 := hide (hFb5.out.below hb6); have HB6 := hide (HB5.out.trans (hb6.mono HB5.out.size)); clear hb6))
        have z0 := hFb6.out.cell 0; have z1 := hFb6.out.cell 1; have z2 := hFb6.out.cell 2; have z3 := hFb6.out.cell 3
        go_wp2_with (go_at_call 118; refine (Hsi.out _ HB6.out).mono ?_; rintro e w7 ⟨sv, rfl, hown7, hb7⟩; obtain ⟨As, cs', rfl⟩ := own_form hown7; have hKk7 := hide (hKk6.out.below hb7); have hFb7 := hide (hFb6.out.below hb7); have HB7 := hide (HB6.out.trans (hb7.mono HB6.out.size)); have HSr := hide (Rd.of_own hown7); clear hown7 hb7)
        clear z0 z1 z2 z3
        go_loopw [41] (fun j wi => ∃ q : Nat, q ≤ S.length ∧ j = .int .i64 q ∧ (S.take q).all (siteZ PP ⟨f0, f1, f2, f3⟩) = true ∧ Below w.heap.size w wi ∧ Rd wi wi.heap.size (.slice As S.length cs') S.length (icells .i64 S) ∧ Bk wi w.heap.size 103 #[.slice (some ⟨b, o, none⟩) l.length c] ∧ Bk wi wr.heap.size 135 #[.int .i64 f0, .int .i64 f1, .slice A2 f2.length c2, .slice A3 f3.length c3]) (fun j _ => S.length - (intOf j).toNat)
        case atStart => exact ⟨0, by omega, rfl, by simp, HB7.out, HSr.out, hKk7.out, hFb7.out⟩
        case round =>
          obtain ⟨q, hq, rfl, hqall, hB8, hS8, hK8, hF8⟩ := hrel
          have HB8 := hide hB8; have HS8 := hide hS8; have HK8 := hide hK8; have HF8 := hide hF8; clear hB8 hS8 hK8 hF8
          by_cases hqt : q < S.length
          · obtain ⟨b9, o9, e9, hb9, t0⟩ := HS8.out.at_ (j := q) (by rw [icells_length]; exact hqt)
            cases e9
            rw [icells_get _ _ hqt] at t0
            obtain ⟨y, hy, hyx, hy3⟩ := (HSm.out S[q]).1 (List.getElem_mem hqt)
            have hyx : S[q] = (y : Int) := by rw [hyx]; simp
            have hp := fun h => all_take_step (p := siteZ PP ⟨f0, f1, f2, f3⟩) hqt hqall h
            have hpf := fun h => all_false (p := siteZ PP ⟨f0, f1, f2, f3⟩) hqt h
            have hsz : siteZ PP ⟨f0, f1, f2, f3⟩ (y : Int) = decide (PP.getD f3[y].qN.toNat 0 = 0) := by have e : f3.getD y st0 = f3[y] := by { simp [List.getD, List.getElem?_eq_getElem hy] }; unfold siteZ; simp only [Int.toNat_natCast, e]
            rw [hyx] at t0 hp hpf
            rw [hsz] at hp hpf
            obtain ⟨hN0, hN1⟩ := Hsn.out y hy hy3
            obtain ⟨b6, o6, _, _, _, _, _, _, e6, hb6, y0, y1, _, _, _, _, _, _⟩ := RStmt_lit Y3.out hy
            cases e6
            have y1' := (HB8.out.cell (p := ⟨b6, o6 + y * 5 + 1, none⟩) hb6).trans y1
            have hyI : (y : Int) < (f3.length : Int) := by omega
            have hyz : (0 : Int) ≤ (y : Int) := by omega
            generalize f3[y].qN = N at *
            obtain ⟨n, rfl⟩ : ∃ n : Nat, N = (n : Int) := ⟨N.toNat, by omega⟩
            have hnl : n < l.length := by omega
            have hnI : (n : Int) < (l.length : Int) := by omega
            have hnz : (0 : Int) ≤ (n : Int) := by omega
            obtain ⟨b7, o7, _, _, _, _, e7, hb7, u0, _, _, _, _⟩ := RFunc_lit H0.out hnl
            cases e7
            rw [Int.toNat_natCast, Hpg.out n hnl] at hp hpf
            have u0' := (HB8.out.cell (p := ⟨b, o + n * 4, none⟩) hbB).trans u0
            have k0 := HK8.out.cell 0; have k3 := HF8.out.cell 3
            clear hqall y0 y1 u0 hy3 hsz hyx
            generalize l[n].qParams = x at *
            by_cases hx0 : x = 0
            · have HP := hide (hp (decide_eq_true hx0))
              have b3 : (x != 0) = false := by subst hx0; rfl
              clear hp hpf hx0
              go_wp2_with fail
              go_quiet (fail)
              go_wp2
              go_roundw
              case rel => exact ⟨q + 1, by omega, by go_num, HP.out, below_drewN HB8.out _, HS8.out.drewN _, HK8.out.drewN _, HF8.out.drewN _⟩
              case measure => simp [intOf]; omega
            · have HF := hide (F4.out (Hfail.out (by rw [Gf.out, hpf (decide_eq_false hx0)]; rfl)))
              have b3 : (x != 0) = true := by rw [bne_iff_ne]; exact hx0
              clear hp hpf hx0
              go_wp2_with fail
              go_quiet (fail)
              go_wp2
              go_ret
              exact ⟨retB HF.out.symm, below_drewN HB8.out _⟩
          · obtain rfl : q = S.length := by omega
            rw [List.take_length] at hqall
            have HS := hide (Hstep.out (by rw [Gf.out]; exact hqall)); clear hqall
            go_wp2
            go_roundw
            case rel => exact ⟨k + 1, by omega, by go_num, HS.out, HB8.out, HK8.out⟩
            case measure => simp [intOf]; omega
    · obtain rfl : k = l.length := by omega
      rw [List.take_length] at hall
      have HF := hide (FT.out hall); have Hb := hide hb; clear hall hb hkk
      go_wp2
      go_ret
      exact ⟨retB HF.out.symm, Hb.out⟩
end Go.Proofs.YtgkjakoagdkpcaaGreatDoor
set_option linter.unusedSimpArgs false
set_option linter.unusedVariables false
set_option maxRecDepth 100000
namespace Go.Proofs.YtgkjakoagdkpcaaGreatDoor
open Go.RowKit

theorem fs_le {m : ProgM} (hz : szProgN m ≤ 1048576) : m.qFuncs.length ≤ 1048576 := by
  obtain ⟨l⟩ := m
  have h1 : szProgN ⟨l⟩ = szFuncsN l := rfl
  have h2 : szFuncsN l = l.length + szFuncsL l := rfl
  dsimp only; omega
def parR (fs : List FuncM) : List Int := if progS fs then parL fs else []
theorem parR_length {m : ProgM} (hz : szProgN m ≤ 1048576) : (parR m.qFuncs).length ≤ 1048576 := by
  have := fs_le hz
  unfold parR; split
  · rw [parL_length]; exact this
  · simp
def fn0 : FuncM := ⟨0, 0, [], []⟩
def okF (fs : List FuncM) (fn : Int) : Bool := progS fs && inB fn 0 (fs.length - 1)
theorem okF_g {fs : List FuncM} {fn : Int} (h : progS fs = false) : okF fs fn = false := by unfold okF; rw [h]; rfl
theorem okF_i {fs : List FuncM} {fn : Int} (h : inB fn 0 (fs.length - 1) = false) : okF fs fn = false := by unfold okF; rw [h]; simp
theorem okF_y {fs : List FuncM} {fn : Int} (h1 : progS fs = true) (h : inB fn 0 (fs.length - 1) = true) : okF fs fn = true := by unfold okF; rw [h, h1]; rfl
theorem prog_sh {fs : List FuncM} (h : progS fs = true) {k : Nat} (hk : k < fs.length) : fs[k].qStmts.length ≤ 16 := by
  unfold progS at h
  simp only [Bool.and_eq_true, List.all_eq_true] at h
  exact (funcB_sh (h.2.2.2 _ (List.getElem_mem hk)).1).1
theorem retBB {a b c d : Bool} (h : a = b) (h2 : c = d) : Ending.returned (.tuple #[.bool a, .bool c]) = .returned (.tuple #[.bool b, .bool d]) := by rw [h, h2]
theorem retIB {a b : Int} {c d : Bool} (h : a = b) (h2 : c = d) : Ending.returned (.tuple #[.int .i64 a, .bool c]) = .returned (.tuple #[.int .i64 b, .bool d]) := by rw [h, h2]
theorem fs_len {fs : List FuncM} {fn : Int} (h : inB fn 0 (fs.length - 1) = true) : ∃ n : Nat, fn = (n : Int) ∧ n < fs.length := by
  have := inB_iff.1 h
  exact ⟨fn.toNat, by omega, by omega⟩
end Go.Proofs.YtgkjakoagdkpcaaGreatDoor
set_option linter.unusedSimpArgs false
set_option linter.unusedVariables false
set_option maxRecDepth 100000
namespace Go.Proofs.YtgkjakoagdkpcaaGreatDoor
open Go.RowKit

set_option maxHeartbeats 3200000 in
theorem spec_l1Put (v : Value) (l : List Int) (x : Int) (w : World) (base : Nat) (hown : w.ownsRow base 3 1 v l.length (icells .i64 l)) (hbase : base ≤ w.heap.size) (hl : l.length ≤ 1000) :
    Calls Tryz.prog 70 #[v, .int .i64 x] w fun e w' => ∃ v', e = .returned v' ∧ w'.ownsRow base 3 1 v' (putL l x).length (icells .i64 (putL l x)) ∧ Below w.heap.size w w' := by
  have Own0 := hide (own0 w)
  rcases id hown.2 with ⟨rfl, h0⟩ | ⟨g, c, cur, rfl, hg, hh, hnc, hcm, _⟩
  · obtain rfl := List.eq_nil_of_length_eq_zero h0
    clear h0 hown
    go_enter Tryz.func70, Tryz.ntmps70
    go_wp2
    go_loop [5] (fun i => i = .int .i64 0) (fun i => 0)
    case atStart => rfl
    case round =>
      obtain rfl := hrel
      go_wp2_with (first
        | (at_builtin; refine wpList_catNone rfl _ _ _ rfl okI64 rfl Own0.out rfl ?_)
        | (at_builtin; refine wpList_pushG rfl _ _ _ rfl okI64 rfl Own0.out #[.int .i64 x] rfl (by rw [World.size_alloc]) rfl (by simp [Value.oneCell']) (by unfold maxLen; omega) (by omega) (by rw [World.size_alloc]; omega) ?_; intro v2 w2 hown2 hg2; have Ho2 := hide hown2; have Hg2 := hide hg2; clear hown2 hg2)
        | (at_builtin; refine wpList_catNone rfl _ _ _ rfl okI64 rfl Ho2.out rfl ?_))
      go_ret
      have hb3 := (Below.refl w.heap.size w).alloc (Nat.le_refl _) (.cells #[] 3) |>.trans (Hg2.out.toBelow Own0.out (by rw [World.size_alloc]; omega))
      exact ⟨_, rfl, own_base Ho2.out hbase, hb3⟩
  have Hr := hide (Rd.of_own hown)
  have hgw : g < w.heap.size := (Array.getElem?_eq_some_iff.1 hh).1
  have Hown := hide hown
  clear hown hh
  go_enter Tryz.func70, Tryz.ntmps70
  go_wp2
  go_loop [5] (fun i => ∃ k : Nat, k ≤ l.length ∧ i = .int .i64 k ∧ ∀ j (h : j < l.length), j < k → l[j] < x) (fun i => l.length - (intOf i).toNat)
  case atStart => exact ⟨0, by omega, rfl, fun j _ h => by omega⟩
  case round =>
    obtain ⟨k, hk, rfl, hlt⟩ := hrel
    have hu1 : ∀ j u, (icells .i64 (l.take k))[j]? = some u → (w.alloc (.cells #[] 3)).cell? ⟨g, 0 + j, none⟩ = some u := fun j u hj => by
      have hj2 : (icells .i64 l)[j]? = some u := by
        unfold icells at hj ⊢
        rw [List.map_take, List.getElem?_take] at hj
        split at hj
        · exact hj
        · cases hj
      have hj3 := Hown.out.cells (g := g) rfl j u hj2
      have hp : ((⟨g, 0, none⟩ : Addr).add j) = ⟨g, 0 + j, none⟩ := by unfold Addr.add; split <;> simp_all
      rw [hp] at hj3
      exact (((Below.refl w.heap.size w).alloc (Nat.le_refl _) _).cell (p := ⟨g, 0 + j, none⟩) hgw).trans hj3
    have hu3 : ∀ j u, (icells .i64 (l.drop k))[j]? = some u → w.cell? ⟨g, k + j, none⟩ = some u := fun j u hj => by
      have hj2 : (icells .i64 l)[k + j]? = some u := by
        unfold icells at hj ⊢
        rw [List.map_drop, List.getElem?_drop] at hj
        exact hj
      have hj3 := Hown.out.cells (g := g) rfl _ u hj2
      have hp : ((⟨g, 0, none⟩ : Addr).add (k + j)) = ⟨g, k + j, none⟩ := by unfold Addr.add; split <;> simp_all
      rw [hp] at hj3
      exact hj3
    have hm1 : (icells .i64 (l.take k)).length = k := by rw [icells_length, List.length_take]; omega
    have hm3 : (icells .i64 (l.drop k)).length = l.length - k := by rw [icells_length, List.length_drop]
    have hq1 : 0 + k ≤ maxLen := (by unfold maxLen; omega)
    have hq2 : (0 + k) * 8 ≤ 140737488355328 := by omega
    have hq3 : w.heap.size ≤ (w.alloc (.cells #[] 3)).heap.size := by rw [World.size_alloc]; omega
    have hq4 : 0 + k + 1 ≤ maxLen := (by unfold maxLen; omega)
    have hq5 : (0 + k + 1) * 8 ≤ 140737488355328 := by omega
    have hq6 : 0 + k + 1 + (l.length - k) ≤ maxLen := (by unfold maxLen; omega)
    have hq7 : (0 + k + 1 + (l.length - k)) * 8 ≤ 140737488355328 := by omega
    have Q1 := hide hq1; have Q2 := hide hq2; have Q3 := hide hq3; have Q4 := hide hq4; have Q5 := hide hq5; have Q6 := hide hq6; have Q7 := hide hq7
    clear hq1 hq2 hq3 hq4 hq5 hq6 hq7
    have Hu1 := hide hu1; have Hu3 := hide hu3; have Hm1 := hide hm1; have Hm3 := hide hm3
    clear hu1 hu3 hm1 hm3
    by_cases hkl : k < l.length
    · obtain ⟨b, o, e1, hbB, s0⟩ := Hr.out.at_ (j := k) (by rw [icells_length]; exact hkl)
      cases e1
      rw [icells_get _ _ hkl, Nat.zero_add] at s0
      by_cases h1 : l[k] < x
      · have hlt' : ∀ j (h : j < l.length), j < k + 1 → l[j] < x := fun j hj hjk => by
          by_cases e : j = k
          · subst e; exact h1
          · exact hlt j hj (by omega)
        have Hlt := hide hlt'
        clear hlt hlt'
        generalize l[k] = y at *
        go_wp2
        go_round
        case rel => exact ⟨k + 1, by omega, by go_num, Hlt.out⟩
        case measure => simp [intOf]; omega
      · by_cases h2 : l[k] = x
        · have HS := hide (putL_same l k x hlt hkl h2)
          clear hlt
          rw [h2] at s0 h1
          clear h2
          go_wp2
          go_ret
          rw [HS.out]
          exact ⟨_, rfl, Hown.out, Below.refl _ _⟩
        · have HS := hide (putL_new l k x hk hlt (fun _ => ⟨h1, h2⟩))
          have e1 : (l[k] == x) = false := by rw [beq_eq_false_iff_ne]; exact h2
          clear hlt h2
          generalize l[k] = y at *
          go_wp2_with (first
            | (at_builtin; (refine wpList_catRd rfl _ _ _ rfl okI64 rfl Own0.out rfl Hu1.out Hm1.out one_icells Q1.out Q2.out Q3.out ?_); intro v1 w1 hown1 hg1; have Ho1 := hide hown1; have Hg1 := hide hg1; clear hown1 hg1)
            | (at_builtin; (refine wpList_pushG rfl _ _ _ rfl okI64 rfl Ho1.out #[.int .i64 x] rfl rfl rfl (by simp [Value.oneCell']) Q4.out Q5.out (Nat.le_trans Q3.out Hg1.out.g.size) ?_); intro v2 w2 hown2 hg2; have Ho2 := hide hown2; have Hg2 := hide (Hg1.out.trans hg2); have Hb2 := hide ((Below.refl w.heap.size w).alloc (Nat.le_refl _) (.cells #[] 3) |>.trans ((Hg1.out.trans hg2).toBelow Own0.out (by rw [World.size_alloc]; omega))); clear hown2 hg2)
            | (at_builtin; (refine wpList_catRd rfl _ _ _ rfl okI64 rfl Ho2.out rfl (fun j u hj => (Hb2.out.cell (p := ⟨g, k + j, none⟩) hgw).trans (Hu3.out j u hj)) Hm3.out one_icells Q6.out Q7.out Hb2.out.size ?_); intro v3 w3 hown3 hg3))
          go_ret
          have hb3 := (Below.refl w.heap.size w).alloc (Nat.le_refl _) (.cells #[] 3) |>.trans ((Hg2.out.trans hg3).toBelow Own0.out (by rw [World.size_alloc]; omega))
          refine ⟨_, rfl, ?_, hb3⟩
          rw [HS.out, icells_append, icells_append]
          have e : (l.take k ++ [x] ++ l.drop k).length = 0 + k + 1 + (l.length - k) := by simp; omega
          rw [e]
          exact own_base hown3 hbase
    · have HS := hide (putL_new l k x hk hlt (fun h => absurd h hkl))
      have hkl' : k = l.length := by omega
      have hnone : ∀ j u, (icells .i64 (l.drop k))[j]? = some u → False := fun j u hj => by
        have : (icells .i64 (l.drop k)).length = 0 := by rw [icells_length, List.length_drop]; omega
        rw [List.getElem?_eq_none (by omega)] at hj; cases hj
      have Hnone := hide hnone; clear hnone
      have hki : ¬ (k : Int) < (l.length : Int) := by omega
      clear hlt hkl hkl'
      by_cases hck : c = k
      · subst hck
        clear Hu3
        go_wp2_with (first
          | (at_builtin; (refine wpList_catRd rfl _ _ _ rfl okI64 rfl Own0.out rfl Hu1.out Hm1.out one_icells Q1.out Q2.out Q3.out ?_); intro v1 w1 hown1 hg1; have Ho1 := hide hown1; have Hg1 := hide hg1; clear hown1 hg1)
          | (at_builtin; (refine wpList_pushG rfl _ _ _ rfl okI64 rfl Ho1.out #[.int .i64 x] rfl rfl rfl (by simp [Value.oneCell']) Q4.out Q5.out (Nat.le_trans Q3.out Hg1.out.g.size) ?_); intro v2 w2 hown2 hg2; have Ho2 := hide hown2; have Hg2 := hide (Hg1.out.trans hg2); have Hb2 := hide ((Below.refl w.heap.size w).alloc (Nat.le_refl _) (.cells #[] 3) |>.trans ((Hg1.out.trans hg2).toBelow Own0.out (by rw [World.size_alloc]; omega))); clear hown2 hg2)
          | (at_builtin; refine wpList_catRd (news := []) rfl _ _ _ rfl okI64 rfl Ho2.out rfl (fun j u hj => by cases hj) rfl (fun u hu => by cases hu) Q4.out Q5.out Hb2.out.size ?_; intro v3 w3 hown3 hg3))
        go_ret
        have hb3 := (Below.refl w.heap.size w).alloc (Nat.le_refl _) (.cells #[] 3) |>.trans ((Hg2.out.trans hg3).toBelow Own0.out (by rw [World.size_alloc]; omega))
        refine ⟨_, rfl, ?_, hb3⟩
        have hdr : l.drop c = [] := List.drop_eq_nil_of_le (by omega)
        rw [HS.out, hdr, List.append_nil, icells_append]
        have e : (l.take c ++ [x]).length = 0 + c + 1 := by simp; omega
        rw [e]
        rw [List.append_nil] at hown3
        exact own_base hown3 hbase
      · clear Hu3
        go_wp2_with (first
          | (at_builtin; (refine wpList_catRd rfl _ _ _ rfl okI64 rfl Own0.out rfl Hu1.out Hm1.out one_icells Q1.out Q2.out Q3.out ?_); intro v1 w1 hown1 hg1; have Ho1 := hide hown1; have Hg1 := hide hg1; clear hown1 hg1)
          | (at_builtin; (refine wpList_pushG rfl _ _ _ rfl okI64 rfl Ho1.out #[.int .i64 x] rfl rfl rfl (by simp [Value.oneCell']) Q4.out Q5.out (Nat.le_trans Q3.out Hg1.out.g.size) ?_); intro v2 w2 hown2 hg2; have Ho2 := hide hown2; have Hg2 := hide (Hg1.out.trans hg2); have Hb2 := hide ((Below.refl w.heap.size w).alloc (Nat.le_refl _) (.cells #[] 3) |>.trans ((Hg1.out.trans hg2).toBelow Own0.out (by rw [World.size_alloc]; omega))); clear hown2 hg2)
          | (at_builtin; (refine wpList_catRd rfl _ _ _ rfl okI64 rfl Ho2.out rfl (fun j u hj => (Hnone.out j u hj).elim) Hm3.out one_icells Q6.out Q7.out Hb2.out.size ?_); intro v3 w3 hown3 hg3))
        go_ret
        have hb3 := (Below.refl w.heap.size w).alloc (Nat.le_refl _) (.cells #[] 3) |>.trans ((Hg2.out.trans hg3).toBelow Own0.out (by rw [World.size_alloc]; omega))
        refine ⟨_, rfl, ?_, hb3⟩
        rw [HS.out, icells_append, icells_append]
        have e : (l.take k ++ [x] ++ l.drop k).length = 0 + k + 1 + (l.length - k) := by simp; omega
        rw [e]
        exact own_base hown3 hbase

/-- the numbers that a mask names, from k on -/
def nmL : Nat → List Bool → List Int
  | _, [] => []
  | k, b :: bs => if b then (k : Int) :: nmL (k + 1) bs else nmL (k + 1) bs
theorem nmL_length (k : Nat) (bs : List Bool) : (nmL k bs).length ≤ bs.length := by
  induction bs generalizing k with
  | nil => simp [nmL]
  | cons b bs ih => simp only [nmL]; have := ih (k + 1); split <;> simp <;> omega
theorem nmL_append (k : Nat) (a b : List Bool) : nmL k (a ++ b) = nmL k a ++ nmL (k + a.length) b := by
  induction a generalizing k with
  | nil => simp [nmL]
  | cons x a ih =>
    simp only [List.cons_append, nmL, List.length_cons]
    rw [ih, show k + 1 + a.length = k + (a.length + 1) by omega]
    split <;> rfl
theorem nmL_take (bs : List Bool) {k : Nat} (h : k < bs.length) : nmL 0 (bs.take (k + 1)) = nmL 0 (bs.take k) ++ (if bs[k] then [(k : Int)] else []) := by
  rw [List.take_succ_eq_append_getElem h, nmL_append]
  congr 1
  simp only [nmL]
  rw [List.length_take, show 0 + min k bs.length = k by omega]
theorem nmL_ge (k : Nat) (bs : List Bool) : ∀ y ∈ nmL k bs, (k : Int) ≤ y := by
  induction bs generalizing k with
  | nil => intro y hy; simp [nmL] at hy
  | cons b bs ih =>
    intro y hy
    simp only [nmL] at hy
    split at hy
    · rcases List.mem_cons.1 hy with rfl | h
      · omega
      · have := ih _ _ h; omega
    · have := ih _ _ hy; omega
theorem putL_front {l : List Int} {x : Int} (h : ∀ y ∈ l, x < y) : putL l x = x :: l := by
  cases l with
  | nil => rfl
  | cons a l =>
    have := h a (by simp)
    simp only [putL]; rw [if_neg (by omega), if_neg (by omega)]
theorem putL_nm (bs : List Bool) : ∀ (k x : Nat), x < bs.length → putL (nmL k bs) ((k + x : Nat) : Int) = nmL k (bs.set x true) := by
  induction bs with
  | nil => intro k x h; simp at h
  | cons b bs ih =>
    intro k x h
    cases x with
    | zero =>
      cases b
      · simp only [nmL, List.set_cons_zero, Nat.add_zero]
        exact putL_front (fun y hy => by have := nmL_ge _ _ _ hy; omega)
      · simp only [nmL, List.set_cons_zero, Nat.add_zero, if_true, putL]
        rw [if_neg (by omega)]
    | succ x =>
      have hx : x < bs.length := by simpa using h
      have e := ih (k + 1) x hx
      rw [show k + 1 + x = k + (x + 1) by omega] at e
      simp only [List.set_cons_succ]
      cases b
      · simp only [nmL]; exact e
      · simp only [nmL, if_true, putL]
        rw [if_pos (by omega), e]
theorem putL_nm0 {bs : List Bool} {x : Nat} (h : x < bs.length) : putL (nmL 0 bs) (x : Int) = nmL 0 (bs.set x true) := by
  have := putL_nm bs 0 x h
  rwa [Nat.zero_add] at this
/-- a mask with so many more set -/
def mskL : List Int → List Bool → List Bool
  | [], bs => bs
  | x :: l, bs => mskL l (bs.set x.toNat true)
theorem mskL_length (l : List Int) (bs : List Bool) : (mskL l bs).length = bs.length := by
  induction l generalizing bs with
  | nil => rfl
  | cons x l ih => simp only [mskL]; rw [ih, List.length_set]
/-- the functions that an expression calls -/
def tcL : List P2 → List Int
  | [] => []
  | t :: l => if t.o = 11 then t.n :: tcL l else tcL l
theorem tcL_yes {l : List P2} {q : Nat} (h : q < l.length) (e : l[q].o = 11) : tcL (l.drop q) = l[q].n :: tcL (l.drop (q + 1)) := by
  rw [List.drop_eq_getElem_cons h]; simp only [tcL]; rw [if_pos e]
theorem tcL_no {l : List P2} {q : Nat} (h : q < l.length) (e : l[q].o ≠ 11) : tcL (l.drop q) = tcL (l.drop (q + 1)) := by
  rw [List.drop_eq_getElem_cons h]; simp only [tcL]; rw [if_neg e]
/-- the functions that a statement calls -/
def clS (s : StmtM) : List Int := if s.qKind = 3 then [s.qN] else tcL s.qEx
def clA : List StmtM → List Int
  | [] => []
  | s :: l => clS s ++ clA l
theorem clA_step {l : List StmtM} {k : Nat} (h : k < l.length) : clA (l.drop k) = clS l[k] ++ clA (l.drop (k + 1)) := by
  rw [List.drop_eq_getElem_cons h]; rfl
/-- what is called is one of five -/
def clOk (s : StmtM) : Prop := (s.qKind = 3 → s.qEx = [] ∧ 0 ≤ s.qN ∧ s.qN < 5) ∧ ∀ t ∈ s.qEx, t.o = 11 → 0 ≤ t.n ∧ t.n < 5
theorem runE_all {vars : Int} {params : List Int} : ∀ (l : List P2) (c h : Int) (r : Int × Int), runE vars params l c h = some r → ∀ t ∈ l, tokOk vars params.length t = true := by
  intro l
  induction l with
  | nil => intro c h r _ t ht; cases ht
  | cons a l ih =>
    intro c h r he t ht
    simp only [runE] at he
    by_cases hg : tokOk vars params.length a = true ∧ need params a ≤ c
    · rw [if_pos hg] at he
      rcases List.mem_cons.1 ht with rfl | h1
      · exact hg.1
      · exact ih _ _ _ he t h1
    · rw [if_neg hg] at he; cases he
theorem good_toks {e : List P2} {vars : Int} {params : List Int} (h : goodExpr e vars params = true) : ∀ t ∈ e, t.o = 11 → 0 ≤ t.n ∧ t.n < 5 := by
  unfold goodExpr at h
  simp only [Bool.and_eq_true, decide_eq_true_eq] at h
  obtain ⟨_, hp, hh⟩ := h
  have h5 := (parOk_iff.1 hp).1
  intro t ht h11
  cases hr : runE vars params e 0 0 with
  | none => rw [highOf_none hr] at hh; omega
  | some r =>
    have := runE_all e 0 0 r hr t ht
    unfold tokOk at this
    rw [if_neg (by omega), if_neg (by omega), if_pos h11] at this
    have := inB_iff.1 this
    omega
theorem clOk_of {vars : Int} {params : List Int} {s : StmtM} (h : stmtOk vars params s = true) (h5 : params.length ≤ 5) : clOk s := by
  unfold stmtOk at h
  have hn : ∀ {e : List P2}, e.length = 0 → ∀ t ∈ e, t.o = 11 → 0 ≤ t.n ∧ t.n < 5 := fun he t ht => by
    rw [List.eq_nil_of_length_eq_zero he] at ht; cases ht
  split at h
  · next k => simp only [Bool.and_eq_true] at h; exact ⟨fun k3 => by omega, good_toks h.1⟩
  split at h
  · next k => simp only [Bool.and_eq_true] at h; exact ⟨fun k3 => by omega, good_toks h.1⟩
  split at h
  · next k =>
    simp only [Bool.and_eq_true, decide_eq_true_eq] at h
    have := inB_iff.1 h.2.1
    exact ⟨fun _ => ⟨List.eq_nil_of_length_eq_zero h.1, by omega, by omega⟩, hn h.1⟩
  split at h
  · next k => simp only [Bool.and_eq_true, decide_eq_true_eq] at h; exact ⟨fun k3 => by omega, hn h.1⟩
  split at h
  · next k => simp only [Bool.and_eq_true] at h; exact ⟨fun k3 => by omega, good_toks h.1⟩
  split at h
  · next k => simp only [Bool.and_eq_true] at h; exact ⟨fun k3 => by omega, good_toks h.1⟩
  · cases h
theorem prog_cl {fs : List FuncM} (h : progS fs = true) {k : Nat} (hk : k < fs.length) : ∀ j (hj : j < fs[k].qStmts.length), clOk fs[k].qStmts[j] := by
  unfold progS at h
  simp only [Bool.and_eq_true, List.all_eq_true] at h
  obtain ⟨_, hp, _, ha⟩ := h
  have h1 := (ha _ (List.getElem_mem hk)).1
  rw [func_eq, Bool.and_eq_true, List.all_eq_true] at h1
  intro j hj
  exact clOk_of (h1.2 _ (List.getElem_mem hj)) (parOk_iff.1 hp).1
def mask0 : List Bool := List.replicate 5 false
def calM (S : List StmtM) : List Bool := mskL (clA S) mask0
theorem calM_length (S : List StmtM) : (calM S).length = 5 := by unfold calM; rw [mskL_length]; rfl
def calR (fs : List FuncM) (fn : Int) : List Int := if okF fs fn then nmL 0 (calM (fs.getD fn.toNat fn0).qStmts) else []
theorem calR_length (fs : List FuncM) (fn : Int) : (calR fs fn).length ≤ 1048576 := by
  unfold calR; split
  · have h1 := nmL_length 0 (calM (fs.getD fn.toNat fn0).qStmts); rw [calM_length] at h1; omega
  · simp
end Go.Proofs.YtgkjakoagdkpcaaGreatDoor
set_option linter.unusedSimpArgs false
set_option linter.unusedVariables false
set_option maxRecDepth 100000
namespace Go.Proofs.YtgkjakoagdkpcaaGreatDoor
open Go.RowKit

theorem calR_no {fs : List FuncM} {fn : Int} (h : okF fs fn = false) : calR fs fn = [] := by unfold calR; rw [h]; rfl
theorem calR_yes {fs : List FuncM} {n : Nat} (h : okF fs n = true) (hn : n < fs.length) : calR fs n = nmL 0 (calM fs[n].qStmts) := by
  have e : fs.getD n fn0 = fs[n] := by simp [List.getD, List.getElem?_eq_getElem hn]
  unfold calR; rw [h, Int.toNat_natCast, e]; rfl
theorem clS_3 {s : StmtM} (h : s.qKind = 3) : clS s = [s.qN] := by unfold clS; rw [if_pos h]
theorem clS_n {s : StmtM} (h : s.qKind ≠ 3) : clS s = tcL s.qEx := by unfold clS; rw [if_neg h]
def bbcells (zs : List Bool) : List Value := zs.map Value.bool
theorem bbcells_length (zs : List Bool) : (bbcells zs).length = zs.length := by simp [bbcells]
theorem bbcells_get (zs : List Bool) {j : Nat} (h : j < zs.length) : (bbcells zs)[j]'(by rw [bbcells_length]; exact h) = .bool zs[j] := by simp [bbcells]
theorem bbcells_set (zs : List Bool) (j : Nat) (x : Bool) : (bbcells zs).set j (.bool x) = bbcells (zs.set j x) := by simp [bbcells, List.map_set]
theorem made_bool (n : Nat) : (madeCells (Value.bool false).cells (n * 1)).toList = bbcells (List.replicate n false) := by
  rw [Nat.mul_one]
  have e : (Value.bool false).cells = #[.bool false] := rfl
  rw [e, toList_madeCells_one]
  simp [bbcells]
end Go.Proofs.YtgkjakoagdkpcaaGreatDoor
