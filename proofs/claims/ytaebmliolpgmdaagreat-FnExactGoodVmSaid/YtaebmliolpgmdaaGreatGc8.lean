
/- GoodImage on both sides. No condition. -/
import Derived.Test.YtaebmliolpgmdaaGreatGc7
set_option linter.unusedSimpArgs false
set_option linter.unusedVariables false
set_option maxRecDepth 100000
namespace Go.Proofs.YtaebmliolpgmdaaGreat
open Go.RowKit

theorem codeN_ge (l : List CodeM) (c : CodeM) : 0 ≤ codeN l c := by
  unfold codeN
  split
  · omega
  split
  · omega
  split
  · omega
  split
  · omega
  split
  · omega
  · unfold codeH; split
    · omega
    · split <;> omega
noncomputable def imgB (l : List CodeM) : Bool := sizedB l && (decide ((l.getD 0 c0).qParams = 0) && l.all fun c => decide (codeN l c = 0))
theorem imgB_s {l : List CodeM} (h : sizedB l = false) : imgB l = false := by unfold imgB; rw [h]; rfl
theorem imgB_p {l : List CodeM} (h1 : sizedB l = true) (h0 : 0 < l.length) (h : l[0].qParams ≠ 0) : imgB l = false := by
  have e : l.getD 0 c0 = l[0] := by simp [List.getD, List.getElem?_eq_getElem h0]
  unfold imgB; rw [h1, e, decide_eq_false h]; rfl
theorem imgB_y {l : List CodeM} (h1 : sizedB l = true) (h0 : 0 < l.length) (h : l[0].qParams = 0) : imgB l = (l.drop 0).all fun c => decide (codeN l c = 0) := by
  have e : l.getD 0 c0 = l[0] := by simp [List.getD, List.getElem?_eq_getElem h0]
  unfold imgB; rw [h1, e, decide_eq_true h]; rfl
set_option maxHeartbeats 3200000 in
theorem impl_isImage (xs : List Value) (x : ImageM) (w : World) (hx : RImage w 0 w.heap.size xs x) :
    Calls Tryz.prog 36 #[.agg xs.toArray] w fun e w' => e = .returned (.bool (imgB x.qCodes)) ∧ Below w.heap.size w w' := by
  have hx0 := hx
  obtain ⟨v0, rfl, h0⟩ := hx
  have hl := h0.long
  obtain ⟨A, c, rfl⟩ := h0.form
  have hb := (Below.refl w.heap.size w).alloc (Nat.le_refl _) (.cells #[.slice A x.qCodes.length c] 31)
  have hk := Bk.new w 31 #[.slice A x.qCodes.length c]
  have hS := impl_isSized _ x _ (RImage_stable.here hx0 hb)
  have Hb := hide hb; have Hk := hide hk
  clear hb hk
  cases hs : sizedB x.qCodes
  · rw [imgB_s hs]
    rw [hs] at hS
    have HS := hide hS; clear hS hs hx0 h0
    go_enter Tryz.func36, Tryz.ntmps36
    go_wp2_with (go_at_call 23; refine (HS.out).mono ?_; rintro e w1 ⟨rfl, hb1⟩)
    go_ret
    exact ⟨rfl, Hb.out.trans (hb1.mono Hb.out.size)⟩
  rw [hs] at hS
  have HS := hide hS; clear hS
  have hl1 := (sizedB_iff.1 hs).1
  have hpos : 0 < x.qCodes.length := by omega
  obtain ⟨b, o, v2, v3, v4, e9, hbB, d0, -, -, -, -, -⟩ := RCode_at h0 hpos
  subst e9
  rw [Nat.zero_mul, Nat.add_zero] at d0
  have D0 := hide d0
  clear d0 h0
  have hposI : (0 : Int) < (x.qCodes.length : Int) := by omega
  by_cases hp : x.qCodes[0].qParams = 0
  · rw [imgB_y hs hpos hp]
    rw [hp] at D0
    have hC := fun (n : Nat) (hn : n < x.qCodes.length) W (hW : Below w.heap.size w W) => impl_checkCode _ x n W (RImage_stable.here hx0 hW) hn hs
    generalize hR : ((x.qCodes.drop 0).all fun c => decide (codeN x.qCodes c = 0)) = R
    have HR := hide hR; have HC := Lib.hid hC
    clear hR hC hp hs hx0
    go_enter Tryz.func36, Tryz.ntmps36
    go_wp2_with (go_at_call 23; refine (HS.out).mono ?_; rintro e w1 ⟨rfl, hb1⟩; have Hb1 := hide (Hb.out.trans (hb1.mono Hb.out.size)); have hk1 := Hk.out.below hb1; have q0 := hk1.cell 0; have q0l := hk1.lt; have q1 := (Hb1.out.cell (p := ⟨b, o, none⟩) hbB).trans D0.out; have Hk1 := hide hk1; clear hb1 hk1)
    clear q0 q1 q0l
    go_loopw [20] (fun i wr => ∃ k : Nat, k ≤ x.qCodes.length ∧ i = .int .i64 k ∧ ((x.qCodes.drop k).all fun c => decide (codeN x.qCodes c = 0)) = R ∧ Below w.heap.size w wr ∧ Bk wr w.heap.size 31 #[.slice (some ⟨b, o, none⟩) x.qCodes.length c]) (fun i _ => x.qCodes.length - (intOf i).toNat)
    case atStart => exact ⟨0, by omega, rfl, HR.out, Hb1.out, Hk1.out⟩
    case round =>
      obtain ⟨k, hk, rfl, hall, hb, hbk⟩ := hrel
      by_cases hlt : k < x.qCodes.length
      · rw [all_stepN hlt] at hall
        have hC := HC.out k hlt _ hb
        have q0 := hbk.cell 0
        have q0l := hbk.lt
        have Hbb := hide hb; have Hbk := hide hbk
        clear hb hbk
        generalize codeN x.qCodes x.qCodes[k] = K at *
        have HC' := hide hC; clear hC
        by_cases hK : K = 0
        · subst hK
          have e : decide ((0 : Int) = 0) = true := rfl
          rw [e, Bool.true_and] at hall
          have Hall := hide hall; clear hall e
          go_wp2_with (go_at_call 25; refine (HC'.out).mono ?_; rintro e w3 ⟨v, hs, rfl, -, -, -, hb3⟩; have HB3 := hide (Hbb.out.trans (hb3.mono Hbb.out.size)); have HK3 := hide (Hbk.out.below hb3); clear hb3)
          go_roundw
          case rel => exact ⟨k + 1, by omega, by go_num, Hall.out, HB3.out, HK3.out⟩
          case measure => simp [intOf]; omega
        · rw [decide_eq_false hK, Bool.false_and] at hall
          have hKb : (K != 0) = true := by rw [bne_iff_ne]; exact hK
          have Hall := hide hall; clear hall hK
          go_wp2_with (go_at_call 25; refine (HC'.out).mono ?_; rintro e w3 ⟨v, hs, rfl, -, -, -, hb3⟩; have HB3 := hide (Hbb.out.trans (hb3.mono Hbb.out.size)); clear hb3)
          go_ret
          exact ⟨retB Hall.out, HB3.out⟩
      · obtain rfl : k = x.qCodes.length := by omega
        rw [List.drop_length] at hall
        have Hall := hide hall; have Hbb := hide hb; clear hall hb hbk
        go_wp2
        go_ret
        exact ⟨retB Hall.out, Hbb.out⟩
  · rw [imgB_p hs hpos hp]
    have hpb : (x.qCodes[0].qParams != 0) = true := by rw [bne_iff_ne]; exact hp
    clear hp hs hx0
    generalize x.qCodes[0].qParams = p at *
    go_enter Tryz.func36, Tryz.ntmps36
    go_wp2_with (go_at_call 23; refine (HS.out).mono ?_; rintro e w1 ⟨rfl, hb1⟩; have Hb1 := hide (Hb.out.trans (hb1.mono Hb.out.size)); have hk1 := Hk.out.below hb1; have q0 := hk1.cell 0; have q0l := hk1.lt; have q1 := (Hb1.out.cell (p := ⟨b, o, none⟩) hbB).trans D0.out; clear hb1 hk1)
    go_ret
    exact ⟨rfl, Hb1.out⟩
theorem RCode_lit {w : World} {hi c i : Nat} {A : Option Addr} {l : List CodeM} (h : RL RCode 5 w 0 hi (.slice A l.length c) l) (hl : i < l.length) :
    ∃ (b o : Nat) (A2 : Option Addr) (c2 : Nat) (A3 : Option Addr) (c3 : Nat) (A4 : Option Addr) (c4 : Nat), A = some ⟨b, o, none⟩ ∧ b < hi ∧ w.cell? ⟨b, o + i * 5, none⟩ = some (.int .i64 l[i].qParams) ∧ w.cell? ⟨b, o + i * 5 + 1, none⟩ = some (.int .i64 l[i].qVars) ∧ w.cell? ⟨b, o + i * 5 + 2, none⟩ = some (.slice A2 l[i].qSites.length c2) ∧ w.cell? ⟨b, o + i * 5 + 3, none⟩ = some (.slice A3 l[i].qIns.length c3) ∧ w.cell? ⟨b, o + i * 5 + 4, none⟩ = some (.slice A4 l[i].qRows.length c4) ∧ RCode w 0 hi [.int .i64 l[i].qParams, .int .i64 l[i].qVars, .slice A2 l[i].qSites.length c2, .slice A3 l[i].qIns.length c3, .slice A4 l[i].qRows.length c4] l[i] := by
  obtain ⟨b, o, v2, v3, v4, hA, hb, e0, e1, e2, e3, e4, hx⟩ := RCode_at h hl
  have hx' := hx
  obtain ⟨_, _, _, ey, x2, x3, x4⟩ := hx
  cases ey
  obtain ⟨A2, c2, rfl⟩ := x2.form
  obtain ⟨A3, c3, rfl⟩ := x3.form
  obtain ⟨A4, c4, rfl⟩ := x4.form
  exact ⟨b, o, A2, c2, A3, c3, A4, c4, hA, hb, e0, e1, e2, e3, e4, hx'⟩
set_option maxHeartbeats 3200000 in
theorem spec_GoodImage (xs : List Value) (x : ImageM) (w : World) (hx : RImage w 0 w.heap.size xs x) :
    Calls Tryz.prog 31 #[.agg xs.toArray] w fun e w' => e = .returned (.bool (imgB x.qCodes)) ∧ Below w.heap.size w w' := by
  have hx0 := hx
  obtain ⟨v0, rfl, h0⟩ := hx
  have hl := h0.long
  obtain ⟨A, c, rfl⟩ := h0.form
  have hb := (Below.refl w.heap.size w).alloc (Nat.le_refl _) (.cells #[.slice A x.qCodes.length c] 31)
  have hk := Bk.new w 31 #[.slice A x.qCodes.length c]
  have hS := spec_l5Sized _ x _ (RImage_stable.here hx0 hb)
  have Hb := hide hb; have Hk := hide hk
  clear hb hk
  cases hs : sizedB x.qCodes
  · rw [imgB_s hs]
    rw [hs] at hS
    have HS := hide hS; clear hS hs hx0 h0
    go_enter Tryz.func31, Tryz.ntmps31
    go_wp2_with (go_at_call 41; refine (HS.out).mono ?_; rintro e w1 ⟨rfl, hb1⟩)
    go_ret
    exact ⟨rfl, Hb.out.trans (hb1.mono Hb.out.size)⟩
  rw [hs] at hS
  have HS := hide hS; clear hS
  have hl1 := (sizedB_iff.1 hs).1
  have hpos : 0 < x.qCodes.length := by omega
  obtain ⟨b, o, v2, v3, v4, e9, hbB, d0, -, -, -, -, -⟩ := RCode_at h0 hpos
  subst e9
  rw [Nat.zero_mul, Nat.add_zero] at d0
  have D0 := hide d0; have H0 := hide h0
  clear d0 h0
  have hposI : (0 : Int) < (x.qCodes.length : Int) := by omega
  by_cases hp : x.qCodes[0].qParams = 0
  · rw [imgB_y hs hpos hp]
    rw [hp] at D0
    have hC := fun (n : Nat) (hn : n < x.qCodes.length) cs W (hW : Below w.heap.size w W) (hc : RCode w 0 w.heap.size cs x.qCodes[n]) => spec_l5Code _ cs x x.qCodes[n] W (RImage_stable.here hx0 hW) (RCode_stable.here hc hW) hs (List.getElem_mem hn)
    generalize hR : ((x.qCodes.drop 0).all fun c => decide (codeN x.qCodes c = 0)) = R
    have HR := hide hR; have HC := Lib.hid hC
    clear hR hC hp hs hx0
    go_enter Tryz.func31, Tryz.ntmps31
    go_wp2_with (go_at_call 41; refine (HS.out).mono ?_; rintro e w1 ⟨rfl, hb1⟩; have Hb1 := hide (Hb.out.trans (hb1.mono Hb.out.size)); have hk1 := Hk.out.below hb1; have q0 := hk1.cell 0; have q0l := hk1.lt; have q1 := (Hb1.out.cell (p := ⟨b, o, none⟩) hbB).trans D0.out; have Hk1 := hide hk1; clear hb1 hk1)
    clear q0 q1 q0l
    go_loopw [19] (fun i wr => ∃ k : Nat, k ≤ x.qCodes.length ∧ i = .int .i64 k ∧ ((x.qCodes.drop k).all fun c => decide (codeN x.qCodes c = 0)) = R ∧ Below w.heap.size w wr ∧ Bk wr w.heap.size 31 #[.slice (some ⟨b, o, none⟩) x.qCodes.length c]) (fun i _ => x.qCodes.length - (intOf i).toNat)
    case atStart => exact ⟨0, by omega, rfl, HR.out, Hb1.out, Hk1.out⟩
    case round =>
      obtain ⟨k, hk, rfl, hall, hb, hbk⟩ := hrel
      have hbs := hb.size
      by_cases hlt : k < x.qCodes.length
      · rw [all_stepN hlt] at hall
        obtain ⟨b2, o2, A2, c2, A3, c3, A4, c4, e9, hbB2, d0, d1, d2, d3, d4, hc⟩ := RCode_lit H0.out hlt
        cases e9
        have hC := HC.out k hlt _ _ (hb.alloc hbs (.cells #[.int .i64 x.qCodes[k].qParams, .int .i64 x.qCodes[k].qVars, .slice A2 x.qCodes[k].qSites.length c2, .slice A3 x.qCodes[k].qIns.length c3, .slice A4 x.qCodes[k].qRows.length c4] 58)) hc
        have s0 := (hb.cell (p := ⟨b, o + k * 5, none⟩) hbB2).trans d0
        have s1 := (hb.cell (p := ⟨b, o + k * 5 + 1, none⟩) hbB2).trans d1
        have s2 := (hb.cell (p := ⟨b, o + k * 5 + 2, none⟩) hbB2).trans d2
        have s3 := (hb.cell (p := ⟨b, o + k * 5 + 3, none⟩) hbB2).trans d3
        have s4 := (hb.cell (p := ⟨b, o + k * 5 + 4, none⟩) hbB2).trans d4
        have hbw : b < wr.heap.size := by omega
        have hge := codeN_ge x.qCodes x.qCodes[k]
        have q0 := hbk.cell 0
        have q0l := hbk.lt
        clear d0 d1 d2 d3 d4 hc
        generalize codeN x.qCodes x.qCodes[k] = K at *
        generalize x.qCodes[k] = m at *
        obtain ⟨m0, m1, l2, I, R4⟩ := m
        dsimp only at *
        have Hbb := hide (hb.alloc hbs (.cells #[.int .i64 m0, .int .i64 m1, .slice A2 l2.length c2, .slice A3 I.length c3, .slice A4 R4.length c4] 58))
        have Hbk := hide (hbk.alloc (.cells #[.int .i64 m0, .int .i64 m1, .slice A2 l2.length c2, .slice A3 I.length c3, .slice A4 R4.length c4] 58))
        have HC' := hide hC; clear hC hb hbk
        by_cases hK : K = 0
        · subst hK
          have e : decide ((0 : Int) = 0) = true := rfl
          rw [e, Bool.true_and] at hall
          have Hall := hide hall; clear hall e hge
          go_wp2_with (go_at_call 43; refine (HC'.out).mono ?_; rintro e w3 ⟨rfl, hb3⟩; have HB3 := hide (Hbb.out.trans (hb3.mono Hbb.out.size)); have HK3 := hide (Hbk.out.below hb3); clear hb3)
          go_roundw
          case rel => exact ⟨k + 1, by omega, by go_num, Hall.out, HB3.out, HK3.out⟩
          case measure => simp [intOf]; omega
        · rw [decide_eq_false hK, Bool.false_and] at hall
          have hKb : 0 < K := by omega
          have Hall := hide hall; clear hall hK hge
          go_wp2_with (go_at_call 43; refine (HC'.out).mono ?_; rintro e w3 ⟨rfl, hb3⟩; have HB3 := hide (Hbb.out.trans (hb3.mono Hbb.out.size)); clear hb3)
          go_ret
          exact ⟨retB Hall.out, HB3.out⟩
      · obtain rfl : k = x.qCodes.length := by omega
        rw [List.drop_length] at hall
        have Hall := hide hall; have Hbb := hide hb; clear hall hb hbk
        go_wp2
        go_ret
        exact ⟨retB Hall.out, Hbb.out⟩
  · rw [imgB_p hs hpos hp]
    have hpb : (x.qCodes[0].qParams != 0) = true := by rw [bne_iff_ne]; exact hp
    clear hp hs hx0 H0
    generalize x.qCodes[0].qParams = p at *
    go_enter Tryz.func31, Tryz.ntmps31
    go_wp2_with (go_at_call 41; refine (HS.out).mono ?_; rintro e w1 ⟨rfl, hb1⟩; have Hb1 := hide (Hb.out.trans (hb1.mono Hb.out.size)); have hk1 := Hk.out.below hb1; have q0 := hk1.cell 0; have q0l := hk1.lt; have q1 := (Hb1.out.cell (p := ⟨b, o, none⟩) hbB).trans D0.out; clear hb1 hk1)
    go_ret
    exact ⟨rfl, Hb1.out⟩
end Go.Proofs.YtaebmliolpgmdaaGreat
