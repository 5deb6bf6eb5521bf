
/- spec.GoodProg: what the Go text returns. No condition. -/
import Derived.Test.YtheddnjhkcpmnaaPg9P
import Derived.Deep.RegionHeld3
import Derived.BigQuiet
set_option linter.unusedSimpArgs false
set_option linter.unusedVariables false
set_option maxRecDepth 100000
namespace Go.Proofs.Ytheddnjhkcpmnaa
open Go.RowKit

theorem below_undrew {B : Nat} {a w : World} (h : Below B a.drew w) : Below B a w := ⟨h.os, h.tape, h.output, h.size, h.block⟩
theorem funcB_sh {f : FuncM} {params : List Int} (h : funcB f params = true) : f.qStmts.length ≤ 16 ∧ ∀ j (hj : j < f.qStmts.length), f.qStmts[j].qKind = 3 → 0 ≤ f.qStmts[j].qN ∧ f.qStmts[j].qN < params.length := by
  rw [func_eq, Bool.and_eq_true, List.all_eq_true] at h
  refine ⟨(shaped_vars h.1).2.2, fun j hj h3 => ?_⟩
  have := h.2 _ (List.getElem_mem hj)
  unfold stmtOk at this
  rw [h3] at this
  simp at this
  have := inB_iff.1 this.2.1
  omega
theorem par0 {l : List FuncM} (h : 0 < l.length) : (parL l).getD 0 0 = l[0].qParams := by
  simp [parL, List.getD, List.getElem?_eq_getElem h]

set_option maxHeartbeats 3200000 in
theorem spec_GoodProg (cs : List Value) (m : ProgM) (w : World) (hr : RProg w 0 w.heap.size cs m) (hz : szProgN m ≤ 1048576) :
    Calls Try.prog 38 #[.agg cs.toArray] w fun e w' => e = .returned (.bool (progS m.qFuncs)) ∧ Below w.heap.size w w' := by
  have hr0 := hr
  obtain ⟨v0, rfl, h0⟩ := hr
  obtain ⟨l⟩ := m
  dsimp only at *
  obtain ⟨A, c, rfl⟩ := h0.form
  have hll : l.length ≤ 1048576 := by have h1 : szProgN ⟨l⟩ = szFuncsN l := rfl; have h2 : szFuncsN l = l.length + szFuncsL l := rfl; omega
  have hel : ∀ k (h : k < l.length), szFuncN l[k] ≤ 1048576 := fun k h => by have h1 : szProgN ⟨l⟩ = szFuncsN l := rfl; have h2 : szFuncsN l = l.length + szFuncsL l := rfl; have h3 := szFuncsL_mem h; omega
  have hb := (Below.refl w.heap.size w).alloc (Nat.le_refl _) (.cells #[.slice A l.length c] 45)
  have hk := Bk.new w 45 #[.slice A l.length c]
  have f1 : inB l.length 1 5 = false → progS l = false := fun h => by unfold progS; rw [h]; rfl
  have f2 : parOk (parL l) = false → progS l = false := fun h => by unfold progS; rw [h]; simp
  have f3 : ¬ (parL l).getD 0 0 = 0 → progS l = false := fun h => by unfold progS; rw [decide_eq_false h]; simp
  have f4 : (l.all fun f => funcB f (parL l) && (sitesF 0 f.qStmts).all (siteZ (parL l) f)) = false → progS l = false := fun h => by unfold progS; rw [h]; simp
  have ft : inB l.length 1 5 = true → parOk (parL l) = true → (parL l).getD 0 0 = 0 → (l.all fun f => funcB f (parL l) && (sitesF 0 f.qStmts).all (siteZ (parL l) f)) = true → progS l = true := fun a b c d => by unfold progS; rw [a, b, decide_eq_true c, d]; rfl
  generalize progS l = R at *
  have hpl := parL_length l
  have hp0 : ∀ h : 0 < l.length, (parL l).getD 0 0 = l[0].qParams := fun h => par0 h
  have hpg : ∀ k (h : k < l.length), (parL l).getD k 0 = l[k].qParams := fun k h => by simp [parL, List.getD, List.getElem?_eq_getElem h]
  have hpar : ∀ W, Below w.heap.size w W → Calls Try.prog 87 #[.agg #[.slice A l.length c]] W fun e w' => ∃ v, e = .returned v ∧ w'.ownsRow W.heap.size 3 1 v (parL l).length (icells .i64 (parL l)) ∧ Below W.heap.size W w' := fun W hW => spec_l3Params _ ⟨l⟩ W (RProg_stable.here hr0 hW) hll
  generalize hPP : parL l = PP at *
  have hPP := hPP.symm
  have H0 := hide h0; have Hb0 := hide hb; have Hk0 := hide hk; have Hpar := Lib.hid hpar; have Hel := hide hel; have HPP := hide hPP; have Hpg := hide hpg
  clear h0 hr0 hb hk hpar hel hPP hpg
  have hpl1 : PP.length ≤ l.length := by omega
  have hpl2 : l.length ≤ PP.length := by omega
  clear hpl
  have hw := fun w => spec_l1In l.length 1 5 w
  cases g1 : inB l.length 1 5
  case false =>
    simp only [g1] at hw
    have HW := Lib.hid hw; have HF := hide (f1 g1); clear hw g1 f1 f2 f3 f4 ft hp0
    go_enter Try.func38, Try.ntmps38
    go_wp2_with (go_at_call 81; refine (HW.out _).mono ?_; rintro e w' ⟨rfl, rfl⟩)
    go_ret
    exact ⟨retB HF.out.symm, Hb0.out⟩
  simp only [g1] at hw
  have HW := Lib.hid hw
  have hl5 := inB_iff.1 g1
  replace ft := ft g1
  have hl0 : 0 < l.length := by omega
  replace hp0 := hp0 hl0
  clear hw g1 f1
  cases g2 : parOk PP
  case false =>
    have HF := hide (f2 g2); clear f2 f3 f4 ft hp0
    go_enter Try.func38, Try.ntmps38
    go_wp2_with (first
      | (go_at_call 81; refine (HW.out _).mono ?_; rintro e w' ⟨rfl, rfl⟩)
      | (go_at_call 87; refine (Hpar.out _ Hb0.out).mono ?_; rintro e w1 ⟨pv, rfl, hown, hb1⟩; have Hb1 := hide (Hb0.out.trans (hb1.mono Hb0.out.size)); have hap := spec_l2Params pv PP w1 _ (Rd.of_own hown); rw [g2] at hap; have Hap := hide hap; clear hap hown hb1)
      | (go_at_call 88; refine (Hap.out).mono ?_; rintro e w2 ⟨rfl, rfl⟩))
    go_ret
    exact ⟨retB HF.out.symm, Hb1.out⟩
  replace ft := ft g2
  have G2 := hide g2
  clear f2 g2
  obtain ⟨b, o, A2, c2, A3, c3, rfl, hbB, d0, -, -, -, -⟩ := RFunc_lit H0.out hl0
  rw [show o + 0 * 4 = o by omega, ← hp0] at d0
  have D0 := hide d0; clear d0 hp0
  generalize PP.getD 0 0 = x0 at *
  by_cases g3 : x0 = 0
  case neg =>
    have HF := hide (f3 g3); clear f3 f4 ft
    have b3 : (x0 != 0) = true := by rw [bne_iff_ne]; exact g3
    clear g3
    go_enter Try.func38, Try.ntmps38
    go_wp2_with (first
      | (go_at_call 81; refine (HW.out _).mono ?_; rintro e w' ⟨rfl, rfl⟩)
      | (go_at_call 87; refine (Hpar.out _ Hb0.out).mono ?_; rintro e w1 ⟨pv, rfl, hown, hb1⟩; have Hb1 := hide (Hb0.out.trans (hb1.mono Hb0.out.size)); have q0 := (Hk0.out.below hb1).cell 0; have q1 := (Hb1.out.cell (p := ⟨b, o, none⟩) hbB).trans D0.out; have hap := spec_l2Params pv PP w1 _ (Rd.of_own hown); rw [G2.out] at hap; have Hap := hide hap; clear hap hown hb1)
      | (go_at_call 88; refine (Hap.out).mono ?_; rintro e w2 ⟨rfl, rfl⟩))
    go_ret
    exact ⟨retB HF.out.symm, Hb1.out⟩
  subst g3
  have F4 := hide f4; have FT := hide (ft rfl)
  clear f3 f4 ft
  go_enter Try.func38, Try.ntmps38
  go_wp2_with (first
    | (go_at_call 81; refine (HW.out _).mono ?_; rintro e w' ⟨rfl, rfl⟩)
    | (go_at_call 87; refine (Hpar.out _ Hb0.out).mono ?_; rintro e w1 ⟨pv, rfl, hown, hb1⟩; have Hb1 := hide (Hb0.out.trans (hb1.mono Hb0.out.size)); have Hk1 := hide (Hk0.out.below hb1); have q0 := (Hk0.out.below hb1).cell 0; have q1 := (Hb1.out.cell (p := ⟨b, o, none⟩) hbB).trans D0.out; have hap := spec_l2Params pv PP w1 _ (Rd.of_own hown); rw [G2.out] at hap; have Hap := hide hap; clear hap hown hb1)
    | (go_at_call 88; refine (Hap.out).mono ?_; rintro e w2 ⟨rfl, rfl⟩))
  clear q0 q1 D0
  go_loopw [29] (fun i wr => ∃ k : Nat, k ≤ l.length ∧ i = .int .i64 k ∧ (l.take k).all (fun f => funcB f PP && (sitesF 0 f.qStmts).all (siteZ PP f)) = true ∧ Below w.heap.size w wr ∧ Bk wr w.heap.size 45 #[.slice (some ⟨b, o, none⟩) l.length c]) (fun i _ => l.length - (intOf i).toNat)
  case atStart => exact ⟨0, by omega, rfl, by simp, Hb1.out, Hk1.out⟩
  case round =>
    obtain ⟨k, hk, rfl, hall, hb, hkk⟩ := hrel
    have hbs := hb.size
    have hkl := hkk.lt
    by_cases hlt : k < l.length
    · obtain ⟨b', o', A2, c2, A3, c3, e', hbB', d0, d1, d2, d3, hx⟩ := RFunc_lit H0.out hlt
      cases e'
      have x0 := (hb.cell (p := ⟨b, o + k * 4, none⟩) hbB).trans d0
      have x1 := (hb.cell (p := ⟨b, o + k * 4 + 1, none⟩) hbB).trans d1
      have x2 := (hb.cell (p := ⟨b, o + k * 4 + 2, none⟩) hbB).trans d2
      have x3 := (hb.cell (p := ⟨b, o + k * 4 + 3, none⟩) hbB).trans d3
      have hbw : b < wr.heap.size := by omega
      have hstep := fun h => all_take_step (p := fun f => funcB f PP && (sitesF 0 f.qStmts).all (siteZ PP f)) hlt hall h
      have hfail := fun h => all_false (p := fun f => funcB f PP && (sitesF 0 f.qStmts).all (siteZ PP f)) hlt h
      have hzk := Hel.out k hlt
      have Hx := hide hx; have Hstep := hide hstep; have Hfail := hide hfail
      clear hx hstep hfail hall d0 d1 d2 d3
      generalize l[k] = f at *
      obtain ⟨f0, f1, f2, f3⟩ := f
      dsimp only at *
      have hB := hide (hb.alloc hbs (.cells #[.int .i64 f0, .int .i64 f1, .slice A2 f2.length c2, .slice A3 f3.length c3] 59))
      have hKk := hide (hkk.alloc (.cells #[.int .i64 f0, .int .i64 f1, .slice A2 f2.length c2, .slice A3 f3.length c3] 59))
      have hFb := hide (Bk.new wr 59 #[.int .i64 f0, .int .i64 f1, .slice A2 f2.length c2, .slice A3 f3.length c3])
      have hp1 := Hpar.out (World.drew (wr.alloc (.cells #[.int .i64 f0, .int .i64 f1, .slice A2 f2.length c2, .slice A3 f3.length c3] 59))) (by exact hB.out.drew)
      have hfn : ∀ (W : World) (pv : Value), Below w.heap.size w W → Rd W W.heap.size pv PP.length (icells .i64 PP) → Calls Try.prog 89 #[.agg #[.int .i64 f0, .int .i64 f1, .slice A2 f2.length c2, .slice A3 f3.length c3], pv] W fun e w' => e = .returned (.bool (funcB ⟨f0, f1, f2, f3⟩ PP)) ∧ Below W.heap.size W w' := fun W pv hW hrd => spec_l3Func _ ⟨f0, f1, f2, f3⟩ PP pv W (RFunc_stable.here Hx.out hW) hrd (by omega) hzk
      have Hp1 := hide hp1
      clear hp1 hb hkk
      cases gf : funcB ⟨f0, f1, f2, f3⟩ PP
      · rw [gf] at hfn
        have HF := hide (F4.out (Hfail.out (by rw [gf]; rfl)))
        have Hfn := Lib.hid hfn
        clear hfn gf
        go_wp2_with fail
        go_region_held3 (fun w' => w'.cell? ⟨w.heap.size, 0, none⟩ = some (.slice (some ⟨b, o, none⟩) l.length c) ∧ w'.cell? ⟨wr.heap.size, 0, none⟩ = some (.int .i64 f0) ∧ w'.cell? ⟨wr.heap.size, 1, none⟩ = some (.int .i64 f1) ∧ w'.cell? ⟨wr.heap.size, 2, none⟩ = some (.slice A2 f2.length c2) ∧ w'.cell? ⟨wr.heap.size, 3, none⟩ = some (.slice A3 f3.length c3)) (first | exact ⟨hKk.out.cell 0, hFb.out.cell 0, hFb.out.cell 1, hFb.out.cell 2, hFb.out.cell 3⟩ | exact ⟨hKk5.out.cell 0, hFb5.out.cell 0, hFb5.out.cell 1, hFb5.out.cell 2, hFb5.out.cell 3⟩ | exact ⟨hKk6.out.cell 0, hFb6.out.cell 0, hFb6.out.cell 1, hFb6.out.cell 2, hFb6.out.cell 3⟩)
          (first
            | (go_at_call 87; refine (Hp1.out).mono ?_; rintro e w5 ⟨pv, rfl, hown5, hb5⟩; replace hb5 := below_undrew hb5; have hKk5 := hide (hKk.out.below hb5); have hFb5 := hide (hFb.out.below hb5); have HB5 := hide (hB.out.trans (hb5.mono hB.out.size)); have HC5 := hide (Hfn.out w5 pv HB5.out (Rd.of_own hown5)); clear hown5 hb5)
            | (go_at_call 89; refine (HC5.out).mono ?_; rintro e w6 ⟨rfl, hb6⟩; have hKk6 := hide (hKk5.out.below hb6); have hFb6 := hide (hFb5.out.below hb6); have HB6 := hide (HB5.out.trans (hb6.mono HB5.out.size)); clear hb6))
        go_wp2
        go_ret
        exact ⟨retB HF.out.symm, HB6.out⟩
      · rw [gf] at hfn
        obtain ⟨h16, hsn⟩ := funcB_sh gf
        dsimp only at h16 hsn
        have Hfn := Lib.hid hfn; have Gf := hide gf; have Hsn := hide hsn
        clear hfn gf hsn
        have hsi : ∀ W, Below w.heap.size w W → Calls Try.prog 90 #[.agg #[.int .i64 f0, .int .i64 f1, .slice A2 f2.length c2, .slice A3 f3.length c3]] W fun e w' => ∃ v, e = .returned v ∧ w'.ownsRow W.heap.size 3 1 v (sitesF 0 f3).length (icells .i64 (sitesF 0 f3)) ∧ Below W.heap.size W w' := fun W hW => spec_l3Sites _ ⟨f0, f1, f2, f3⟩ W (RFunc_stable.here Hx.out hW) h16
        have Hsi := Lib.hid hsi; clear hsi
        have hsl := sitesF_length f3 0
        have hsm := fun x => sitesF_mem f3 0 x
        obtain ⟨_, _, ey, y2, y3⟩ := id Hx.out
        injection ey with _ ey
        injection ey with _ ey
        injection ey with ey1 ey
        injection ey with ey2 _
        subst ey1 ey2
        dsimp only at y2 y3
        generalize hSS : sitesF 0 f3 = S at *
        have HSm := hide hsm; have Y3 := hide y3; have HSS := hide hSS
        clear hsm y2 y3 hSS
        go_wp2_with fail
        go_region_held3 (fun w' => w'.cell? ⟨w.heap.size, 0, none⟩ = some (.slice (some ⟨b, o, none⟩) l.length c) ∧ w'.cell? ⟨wr.heap.size, 0, none⟩ = some (.int .i64 f0) ∧ w'.cell? ⟨wr.heap.size, 1, none⟩ = some (.int .i64 f1) ∧ w'.cell? ⟨wr.heap.size, 2, none⟩ = some (.slice A2 f2.length c2) ∧ w'.cell? ⟨wr.heap.size, 3, none⟩ = some (.slice A3 f3.length c3)) (first | exact ⟨hKk.out.cell 0, hFb.out.cell 0, hFb.out.cell 1, hFb.out.cell 2, hFb.out.cell 3⟩ | exact ⟨hKk5.out.cell 0, hFb5.out.cell 0, hFb5.out.cell 1, hFb5.out.cell 2, hFb5.out.cell 3⟩ | exact ⟨hKk6.out.cell 0, hFb6.out.cell 0, hFb6.out.cell 1, hFb6.out.cell 2, hFb6.out.cell 3⟩)
          (first
            | (go_at_call 87; refine (Hp1.out).mono ?_; rintro e w5 ⟨pv, rfl, hown5, hb5⟩; replace hb5 := below_undrew hb5; have hKk5 := hide (hKk.out.below hb5); have hFb5 := hide (hFb.out.below hb5); have HB5 := hide (hB.out.trans (hb5.mono hB.out.size)); have HC5 := hide (Hfn.out w5 pv HB5.out (Rd.of_own hown5)); clear hown5 hb5)
            | (go_at_call 89; refine (HC5.out).mono ?_; rintro e w6 ⟨rfl, hb6⟩; have hKk6 := hide (hKk5.out.below hb6); have hFb6 := hide (hFb5.out.below hb6); have HB6 := hide (HB5.out.trans (hb6.mono HB5.out.size)); clear hb6))
        have z0 := hFb6.out.cell 0; have z1 := hFb6.out.cell 1; have z2 := hFb6.out.cell 2; have z3 := hFb6.out.cell 3
        go_wp2_with (go_at_call 90; refine (Hsi.out _ HB6.out).mono ?_; rintro e w7 ⟨sv, rfl, hown7, hb7⟩; obtain ⟨As, cs', rfl⟩ := own_form hown7; have hKk7 := hide (hKk6.out.below hb7); have hFb7 := hide (hFb6.out.below hb7); have HB7 := hide (HB6.out.trans (hb7.mono HB6.out.size)); have HSr := hide (Rd.of_own hown7); clear hown7 hb7)
        clear z0 z1 z2 z3
        go_loopw [41] (fun j wi => ∃ q : Nat, q ≤ S.length ∧ j = .int .i64 q ∧ (S.take q).all (siteZ PP ⟨f0, f1, f2, f3⟩) = true ∧ Below w.heap.size w wi ∧ Rd wi wi.heap.size (.slice As S.length cs') S.length (icells .i64 S) ∧ Bk wi w.heap.size 45 #[.slice (some ⟨b, o, none⟩) l.length c] ∧ Bk wi wr.heap.size 59 #[.int .i64 f0, .int .i64 f1, .slice A2 f2.length c2, .slice A3 f3.length c3]) (fun j _ => S.length - (intOf j).toNat)
        case atStart => exact ⟨0, by omega, rfl, by simp, HB7.out, HSr.out, hKk7.out, hFb7.out⟩
        case round =>
          obtain ⟨q, hq, rfl, hqall, hB8, hS8, hK8, hF8⟩ := hrel
          have HB8 := hide hB8; have HS8 := hide hS8; have HK8 := hide hK8; have HF8 := hide hF8; clear hB8 hS8 hK8 hF8
          by_cases hqt : q < S.length
          · obtain ⟨b9, o9, e9, hb9, t0⟩ := HS8.out.at_ (j := q) (by rw [icells_length]; exact hqt)
            cases e9
            rw [icells_get _ _ hqt] at t0
            obtain ⟨y, hy, hyx, hy3⟩ := (HSm.out S[q]).1 (List.getElem_mem hqt)
            have hyx : S[q] = (y : Int) := by rw [hyx]; simp
            have hp := fun h => all_take_step (p := siteZ PP ⟨f0, f1, f2, f3⟩) hqt hqall h
            have hpf := fun h => all_false (p := siteZ PP ⟨f0, f1, f2, f3⟩) hqt h
            have hsz : siteZ PP ⟨f0, f1, f2, f3⟩ (y : Int) = decide (PP.getD f3[y].qN.toNat 0 = 0) := by have e : f3.getD y st0 = f3[y] := by { simp [List.getD, List.getElem?_eq_getElem hy] }; unfold siteZ; simp only [Int.toNat_natCast, e]
            rw [hyx] at t0 hp hpf
            rw [hsz] at hp hpf
            obtain ⟨hN0, hN1⟩ := Hsn.out y hy hy3
            obtain ⟨b6, o6, _, _, _, _, _, _, e6, hb6, y0, y1, _, _, _, _, _, _⟩ := RStmt_lit Y3.out hy
            cases e6
            have y1' := (HB8.out.cell (p := ⟨b6, o6 + y * 5 + 1, none⟩) hb6).trans y1
            have hyI : (y : Int) < (f3.length : Int) := by omega
            have hyz : (0 : Int) ≤ (y : Int) := by omega
            generalize f3[y].qN = N at *
            obtain ⟨n, rfl⟩ : ∃ n : Nat, N = (n : Int) := ⟨N.toNat, by omega⟩
            have hnl : n < l.length := by omega
            have hnI : (n : Int) < (l.length : Int) := by omega
            have hnz : (0 : Int) ≤ (n : Int) := by omega
            obtain ⟨b7, o7, _, _, _, _, e7, hb7, u0, _, _, _, _⟩ := RFunc_lit H0.out hnl
            cases e7
            rw [Int.toNat_natCast, Hpg.out n hnl] at hp hpf
            have u0' := (HB8.out.cell (p := ⟨b, o + n * 4, none⟩) hbB).trans u0
            have k0 := HK8.out.cell 0; have k3 := HF8.out.cell 3
            clear hqall y0 y1 u0 hy3 hsz hyx
            generalize l[n].qParams = x at *
            by_cases hx0 : x = 0
            · have HP := hide (hp (decide_eq_true hx0))
              have b3 : (x != 0) = false := by subst hx0; rfl
              clear hp hpf hx0
              go_wp2_with fail
              go_quiet (fail)
              go_wp2
              go_roundw
              case rel => exact ⟨q + 1, by omega, by go_num, HP.out, below_drewN HB8.out _, HS8.out.drewN _, HK8.out.drewN _, HF8.out.drewN _⟩
              case measure => simp [intOf]; omega
            · have HF := hide (F4.out (Hfail.out (by rw [Gf.out, hpf (decide_eq_false hx0)]; rfl)))
              have b3 : (x != 0) = true := by rw [bne_iff_ne]; exact hx0
              clear hp hpf hx0
              go_wp2_with fail
              go_quiet (fail)
              go_wp2
              go_ret
              exact ⟨retB HF.out.symm, below_drewN HB8.out _⟩
          · obtain rfl : q = S.length := by omega
            rw [List.take_length] at hqall
            have HS := hide (Hstep.out (by rw [Gf.out]; exact hqall)); clear hqall
            go_wp2
            go_roundw
            case rel => exact ⟨k + 1, by omega, by go_num, HS.out, HB8.out, HK8.out⟩
            case measure => simp [intOf]; omega
    · obtain rfl : k = l.length := by omega
      rw [List.take_length] at hall
      have HF := hide (FT.out hall); have Hb := hide hb; clear hall hb hkk
      go_wp2
      go_ret
      exact ⟨retB HF.out.symm, Hb.out⟩
theorem impl_GoodProg' (cs : List Value) (m : ProgM) (w : World) (hr : RProg w 0 w.heap.size cs m) (hz : szProgN m ≤ 1048576) :
    Calls Try.prog 37 #[.agg cs.toArray] w fun e w' => e = .returned (.bool (progS m.qFuncs)) ∧ Below w.heap.size w w' := by
  rw [prog_eq]; exact impl_GoodProg cs m w hr hz
end Go.Proofs.Ytheddnjhkcpmnaa
set_option linter.unusedSimpArgs false
set_option linter.unusedVariables false
set_option maxRecDepth 100000
namespace Go.Proofs.Ytheddnjhkcpmnaa
open Go.RowKit

theorem fs_le {m : ProgM} (hz : szProgN m ≤ 1048576) : m.qFuncs.length ≤ 1048576 := by
  obtain ⟨l⟩ := m
  have h1 : szProgN ⟨l⟩ = szFuncsN l := rfl
  have h2 : szFuncsN l = l.length + szFuncsL l := rfl
  dsimp only; omega
def parR (fs : List FuncM) : List Int := if progS fs then parL fs else []
theorem parR_length {m : ProgM} (hz : szProgN m ≤ 1048576) : (parR m.qFuncs).length ≤ 1048576 := by
  have := fs_le hz
  unfold parR; split
  · rw [parL_length]; exact this
  · simp
set_option maxHeartbeats 1600000 in
theorem spec_call_ParamsOf (cs : List Value) (m : ProgM) (w : World) (hr : RProg w 0 w.heap.size cs m) (hz : szProgN m ≤ 1048576) :
    Calls Try.prog 35 #[.agg cs.toArray] w fun e w' => ∃ v, e = .returned (.tuple #[v, .bool (progS m.qFuncs)]) ∧ w'.ownsRow w.heap.size 3 1 v (parR m.qFuncs).length (icells .i64 (parR m.qFuncs)) ∧ Below w.heap.size w w' := by
  have hr0 := hr
  obtain ⟨v0, rfl, h0⟩ := hr
  obtain ⟨A, c, rfl⟩ := h0.form
  have hb := (Below.refl w.heap.size w).alloc (Nat.le_refl _) (.cells #[.slice A m.qFuncs.length c] 45)
  have hk := Bk.new w 45 #[.slice A m.qFuncs.length c]
  have hG := spec_GoodProg _ m _ (RProg_stable.here hr0 hb) hz
  have hP := fun W (hW : Below w.heap.size w W) => spec_l3Params _ m W (RProg_stable.here hr0 hW) (fs_le hz)
  have hR : progS m.qFuncs = true → parR m.qFuncs = parL m.qFuncs := fun h => by unfold parR; rw [h]; rfl
  have hR' : progS m.qFuncs = false → parR m.qFuncs = [] := fun h => by unfold parR; rw [h]; rfl
  generalize parR m.qFuncs = L at *
  have Hb := hide hb; have Hk := hide hk; have HP := hide hP
  clear hr0 h0 hb hk hP
  cases hg : progS m.qFuncs
  · rw [hg] at hG
    obtain rfl := hR' hg
    have HG := hide hG; clear hG hg hR hR'
    go_enter Try.func35, Try.ntmps35
    go_wp2_with (go_at_call 38; refine (HG.out).mono ?_; rintro e w1 ⟨rfl, hb1⟩)
    go_ret2
    exact ⟨_, rfl, World.ownsRow_nil _ _ _ _, Hb.out.trans (hb1.mono Hb.out.size)⟩
  · rw [hg] at hG
    obtain rfl := hR hg
    have HG := hide hG; clear hG hg hR hR'
    go_enter Try.func35, Try.ntmps35
    go_wp2_with (first
      | (go_at_call 38; refine (HG.out).mono ?_; rintro e w1 ⟨rfl, hb1⟩; have Hb1 := hide (Hb.out.trans (hb1.mono Hb.out.size)); have q0 := (Hk.out.below hb1).cell 0; clear hb1)
      | (go_at_call 87; refine (HP.out _ Hb1.out).mono ?_; rintro e w2 ⟨v, rfl, hown, hb2⟩))
    go_ret2
    exact ⟨_, rfl, own_base hown Hb1.out.size, Hb1.out.trans (hb2.mono Hb1.out.size)⟩
set_option maxHeartbeats 1600000 in
theorem impl_call_ParamsOf (cs : List Value) (m : ProgM) (w : World) (hr : RProg w 0 w.heap.size cs m) (hz : szProgN m ≤ 1048576) :
    Calls Try.prog 34 #[.agg cs.toArray] w fun e w' => ∃ v, e = .returned (.tuple #[v, .bool (progS m.qFuncs)]) ∧ w'.ownsRow w.heap.size 3 1 v (parR m.qFuncs).length (icells .i64 (parR m.qFuncs)) ∧ Below w.heap.size w w' := by
  have hr0 := hr
  obtain ⟨v0, rfl, h0⟩ := hr
  obtain ⟨A, c, rfl⟩ := h0.form
  have hb := (Below.refl w.heap.size w).alloc (Nat.le_refl _) (.cells #[.slice A m.qFuncs.length c] 45)
  have hk := Bk.new w 45 #[.slice A m.qFuncs.length c]
  have hG := impl_isProg _ m _ (RProg_stable.here hr0 hb) hz
  rw [← prog_eq] at hG
  have hP := fun W (hW : Below w.heap.size w W) => impl_paramsOf _ m W (RProg_stable.here hr0 hW) (fs_le hz)
  have hR : progS m.qFuncs = true → parR m.qFuncs = parL m.qFuncs := fun h => by unfold parR; rw [h]; rfl
  have hR' : progS m.qFuncs = false → parR m.qFuncs = [] := fun h => by unfold parR; rw [h]; rfl
  generalize parR m.qFuncs = L at *
  have Hb := hide hb; have Hk := hide hk; have HP := hide hP
  clear hr0 h0 hb hk hP
  cases hg : progS m.qFuncs
  · rw [hg] at hG
    obtain rfl := hR' hg
    have HG := hide hG; clear hG hg hR hR'
    go_enter Try.func34, Try.ntmps34
    go_wp2_with (go_at_call 78; refine (HG.out).mono ?_; rintro e w1 ⟨rfl, hb1⟩)
    go_ret2
    exact ⟨_, rfl, World.ownsRow_nil _ _ _ _, Hb.out.trans (hb1.mono Hb.out.size)⟩
  · rw [hg] at hG
    obtain rfl := hR hg
    have HG := hide hG; clear hG hg hR hR'
    go_enter Try.func34, Try.ntmps34
    go_wp2_with (first
      | (go_at_call 78; refine (HG.out).mono ?_; rintro e w1 ⟨rfl, hb1⟩; have Hb1 := hide (Hb.out.trans (hb1.mono Hb.out.size)); have q0 := (Hk.out.below hb1).cell 0; clear hb1)
      | (go_at_call 86; refine (HP.out _ Hb1.out).mono ?_; rintro e w2 ⟨v, rfl, hown, hb2⟩))
    go_ret2
    exact ⟨_, rfl, own_base hown Hb1.out.size, Hb1.out.trans (hb2.mono Hb1.out.size)⟩
def fn0 : FuncM := ⟨0, 0, [], []⟩
def okF (fs : List FuncM) (fn : Int) : Bool := progS fs && inB fn 0 (fs.length - 1)
theorem okF_g {fs : List FuncM} {fn : Int} (h : progS fs = false) : okF fs fn = false := by unfold okF; rw [h]; rfl
theorem okF_i {fs : List FuncM} {fn : Int} (h : inB fn 0 (fs.length - 1) = false) : okF fs fn = false := by unfold okF; rw [h]; simp
theorem okF_y {fs : List FuncM} {fn : Int} (h1 : progS fs = true) (h : inB fn 0 (fs.length - 1) = true) : okF fs fn = true := by unfold okF; rw [h, h1]; rfl
theorem prog_sh {fs : List FuncM} (h : progS fs = true) {k : Nat} (hk : k < fs.length) : fs[k].qStmts.length ≤ 16 := by
  unfold progS at h
  simp only [Bool.and_eq_true, List.all_eq_true] at h
  exact (funcB_sh (h.2.2.2 _ (List.getElem_mem hk)).1).1
theorem retBB {a b c d : Bool} (h : a = b) (h2 : c = d) : Ending.returned (.tuple #[.bool a, .bool c]) = .returned (.tuple #[.bool b, .bool d]) := by rw [h, h2]
theorem retIB {a b : Int} {c d : Bool} (h : a = b) (h2 : c = d) : Ending.returned (.tuple #[.int .i64 a, .bool c]) = .returned (.tuple #[.int .i64 b, .bool d]) := by rw [h, h2]
theorem fs_len {fs : List FuncM} {fn : Int} (h : inB fn 0 (fs.length - 1) = true) : ∃ n : Nat, fn = (n : Int) ∧ n < fs.length := by
  have := inB_iff.1 h
  exact ⟨fn.toNat, by omega, by omega⟩
end Go.Proofs.Ytheddnjhkcpmnaa
