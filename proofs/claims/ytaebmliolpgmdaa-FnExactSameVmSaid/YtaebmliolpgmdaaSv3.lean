
/- EqualFunc over frames; SameVm of the program: what the Go text returns. No condition. Printed by wip/tools/mk_sv.py. -/
import Derived.Test.YtaebmliolpgmdaaSv1
import Derived.Test.YtaebmliolpgmdaaNdVm
import Derived.Shelf.Abstract
set_option linter.unusedSimpArgs false
set_option linter.unusedVariables false
set_option maxRecDepth 100000
namespace Go.Proofs.Ytaebmliolpgmdaa
open Go.RowKit


theorem RFrame_lit {w : World} {hi c i : Nat} {A : Option Addr} {l : List FrameM} (h : RL RFrame 11 w 0 hi (.slice A l.length c) l) (hl : i < l.length) :
    ∃ (b o : Nat) (A3 : Option Addr) (c3 : Nat) (A4 : Option Addr) (c4 : Nat) (A5 : Option Addr) (c5 : Nat), A = some ⟨b, o, none⟩ ∧ b < hi ∧ w.cell? ⟨b, o + i * 11, none⟩ = some (.int .i64 l[i].qId) ∧ w.cell? ⟨b, o + i * 11 + 1, none⟩ = some (.int .i64 l[i].qFn) ∧ w.cell? ⟨b, o + i * 11 + 2, none⟩ = some (.int .i64 l[i].qAt) ∧ w.cell? ⟨b, o + i * 11 + 3, none⟩ = some (.slice A3 l[i].qPile.length c3) ∧ w.cell? ⟨b, o + i * 11 + 4, none⟩ = some (.slice A4 l[i].qVars.length c4) ∧ w.cell? ⟨b, o + i * 11 + 5, none⟩ = some (.slice A5 l[i].qFlags.length c5) ∧ w.cell? ⟨b, o + i * 11 + 6, none⟩ = some (.int .i64 l[i].qResult) ∧ w.cell? ⟨b, o + i * 11 + 7, none⟩ = some (.int .i64 l[i].qMode) ∧ w.cell? ⟨b, o + i * 11 + 8, none⟩ = some (.int .i64 l[i].qValue) ∧ w.cell? ⟨b, o + i * 11 + 9, none⟩ = some (.int .i64 l[i].qBase) ∧ w.cell? ⟨b, o + i * 11 + 10, none⟩ = some (.bool l[i].qOff) ∧ RFrame w 0 hi [.int .i64 l[i].qId, .int .i64 l[i].qFn, .int .i64 l[i].qAt, .slice A3 l[i].qPile.length c3, .slice A4 l[i].qVars.length c4, .slice A5 l[i].qFlags.length c5, .int .i64 l[i].qResult, .int .i64 l[i].qMode, .int .i64 l[i].qValue, .int .i64 l[i].qBase, .bool l[i].qOff] l[i] := by
  obtain ⟨b, o, v3, v4, v5, hA, hb, e0, e1, e2, e3, e4, e5, e6, e7, e8, e9, e10, hx⟩ := RFrame_at h hl
  have hx' := hx
  obtain ⟨_, _, _, ey, x3, x4, x5⟩ := hx
  cases ey
  obtain ⟨A3, c3, rfl⟩ := x3.form
  obtain ⟨A4, c4, rfl⟩ := x4.form
  obtain ⟨A5, c5, rfl⟩ := x5.form
  exact ⟨b, o, A3, c3, A4, c4, A5, c5, hA, hb, e0, e1, e2, e3, e4, e5, e6, e7, e8, e9, e10, hx'⟩
set_option maxHeartbeats 3200000 in
theorem eqfFrame (A A2 : Option Addr) (c c2 : Nat) (xs ys : List FrameM) (w : World) (hr : RL RFrame 11 w 0 w.heap.size (.slice A xs.length c) xs) (hr2 : RL RFrame 11 w 0 w.heap.size (.slice A2 ys.length c2) ys) :
    Calls Try.prog 43 #[.slice A xs.length c, .slice A2 ys.length c2, .func (.func 44) #[] #[]] w fun e w' => e = .returned (.bool (all2 frB xs ys)) ∧ Below w.heap.size w w' := by
  have eg := enters_of Try.func44 (by kernel_rfl) rfl
  have hl := hr.long
  have hl2 := hr2.long
  have Hr := hide hr; have Hr2 := hide hr2; clear hr hr2
  by_cases hne : xs.length = ys.length
  · have hst := fun k h1 h2 => all2_step (p := frB) (l := xs) (m := ys) (k := k) h1 h2
    have hen := all2_end (p := frB) hne
    have h0 : all2 frB (xs.drop 0) (ys.drop 0) = all2 frB xs ys := rfl
    generalize all2 frB xs ys = R at *
    have Hst := Lib.hid hst; have Hen := hide hen; have H0 := hide h0; have Hne := hide hne; clear hst hen h0
    have hnb : ((xs.length : Int) != ys.length) = false := by rw [hne]; simp
    clear hne
    go_enter Try.func43, Try.ntmps43
    go_wp2
    go_loopw [17] (fun i wr => ∃ k : Nat, k ≤ xs.length ∧ i = .int .i64 k ∧ all2 frB (xs.drop k) (ys.drop k) = R ∧ Below w.heap.size w wr) (fun i _ => xs.length - (intOf i).toNat)
    case atStart => exact ⟨0, by omega, rfl, H0.out, Below.refl _ _⟩
    case round =>
      obtain ⟨k, hk, rfl, htk, hb⟩ := hrel
      have hbs := hb.size
      by_cases hlt : k < xs.length
      · have hky : k < ys.length := by rw [← Hne.out]; exact hlt
        obtain ⟨g, og, S3, e3, S4, e4, S5, e5, rfl, hbg, x0, x1, x2, x3, x4, x5, x6, x7, x8, x9, x10, hx⟩ := RFrame_lit Hr.out hlt
        obtain ⟨h, oh, T3, f3, T4, f4, T5, f5, rfl, hbh, y0, y1, y2, y3, y4, y5, y6, y7, y8, y9, y10, hy⟩ := RFrame_lit Hr2.out hky
        rw [Hst.out k hlt hky] at htk
        have p0 := (hb.cell (p := ⟨g, og + k * 11, none⟩) hbg).trans x0
        have p1 := (hb.cell (p := ⟨g, og + k * 11 + 1, none⟩) hbg).trans x1
        have p2 := (hb.cell (p := ⟨g, og + k * 11 + 2, none⟩) hbg).trans x2
        have p3 := (hb.cell (p := ⟨g, og + k * 11 + 3, none⟩) hbg).trans x3
        have p4 := (hb.cell (p := ⟨g, og + k * 11 + 4, none⟩) hbg).trans x4
        have p5 := (hb.cell (p := ⟨g, og + k * 11 + 5, none⟩) hbg).trans x5
        have p6 := (hb.cell (p := ⟨g, og + k * 11 + 6, none⟩) hbg).trans x6
        have p7 := (hb.cell (p := ⟨g, og + k * 11 + 7, none⟩) hbg).trans x7
        have p8 := (hb.cell (p := ⟨g, og + k * 11 + 8, none⟩) hbg).trans x8
        have p9 := (hb.cell (p := ⟨g, og + k * 11 + 9, none⟩) hbg).trans x9
        have p10 := (hb.cell (p := ⟨g, og + k * 11 + 10, none⟩) hbg).trans x10
        have r0 := (hb.cell (p := ⟨h, oh + k * 11, none⟩) hbh).trans y0
        have r1 := (hb.cell (p := ⟨h, oh + k * 11 + 1, none⟩) hbh).trans y1
        have r2 := (hb.cell (p := ⟨h, oh + k * 11 + 2, none⟩) hbh).trans y2
        have r3 := (hb.cell (p := ⟨h, oh + k * 11 + 3, none⟩) hbh).trans y3
        have r4 := (hb.cell (p := ⟨h, oh + k * 11 + 4, none⟩) hbh).trans y4
        have r5 := (hb.cell (p := ⟨h, oh + k * 11 + 5, none⟩) hbh).trans y5
        have r6 := (hb.cell (p := ⟨h, oh + k * 11 + 6, none⟩) hbh).trans y6
        have r7 := (hb.cell (p := ⟨h, oh + k * 11 + 7, none⟩) hbh).trans y7
        have r8 := (hb.cell (p := ⟨h, oh + k * 11 + 8, none⟩) hbh).trans y8
        have r9 := (hb.cell (p := ⟨h, oh + k * 11 + 9, none⟩) hbh).trans y9
        have r10 := (hb.cell (p := ⟨h, oh + k * 11 + 10, none⟩) hbh).trans y10
        have hg1 : g < wr.heap.size := by omega
        have hg2 : h < wr.heap.size := by omega
        have hC := impl_sameFrame _ _ xs[k] ys[k] ((wr.alloc (.cells #[.int .i64 xs[k].qId, .int .i64 xs[k].qFn, .int .i64 xs[k].qAt, .slice S3 xs[k].qPile.length e3, .slice S4 xs[k].qVars.length e4, .slice S5 xs[k].qFlags.length e5, .int .i64 xs[k].qResult, .int .i64 xs[k].qMode, .int .i64 xs[k].qValue, .int .i64 xs[k].qBase, .bool xs[k].qOff] 74)).alloc (.cells #[.int .i64 ys[k].qId, .int .i64 ys[k].qFn, .int .i64 ys[k].qAt, .slice T3 ys[k].qPile.length f3, .slice T4 ys[k].qVars.length f4, .slice T5 ys[k].qFlags.length f5, .int .i64 ys[k].qResult, .int .i64 ys[k].qMode, .int .i64 ys[k].qValue, .int .i64 ys[k].qBase, .bool ys[k].qOff] 74)) (RFrame_stable.here hx ((hb.alloc hbs _).alloc (by rw [World.size_alloc]; omega) _)) (RFrame_stable.here hy ((hb.alloc hbs _).alloc (by rw [World.size_alloc]; omega) _))
        have hB := (hb.alloc hbs (.cells #[.int .i64 xs[k].qId, .int .i64 xs[k].qFn, .int .i64 xs[k].qAt, .slice S3 xs[k].qPile.length e3, .slice S4 xs[k].qVars.length e4, .slice S5 xs[k].qFlags.length e5, .int .i64 xs[k].qResult, .int .i64 xs[k].qMode, .int .i64 xs[k].qValue, .int .i64 xs[k].qBase, .bool xs[k].qOff] 74)).alloc (by rw [World.size_alloc]; omega) (.cells #[.int .i64 ys[k].qId, .int .i64 ys[k].qFn, .int .i64 ys[k].qAt, .slice T3 ys[k].qPile.length f3, .slice T4 ys[k].qVars.length f4, .slice T5 ys[k].qFlags.length f5, .int .i64 ys[k].qResult, .int .i64 ys[k].qMode, .int .i64 ys[k].qValue, .int .i64 ys[k].qBase, .bool ys[k].qOff] 74)
        have HB := hide hB; have HC := hide hC
        clear hB hC hb hx hy Hr Hr2 x0 x1 x2 x3 x4 x5 x6 x7 x8 x9 x10 y0 y1 y2 y3 y4 y5 y6 y7 y8 y9 y10
        generalize xs[k] = s at *
        generalize ys[k] = t at *
        obtain ⟨s0, s1, s2, s3, s4, s5, s6, s7, s8, s9, s10⟩ := s
        obtain ⟨t0, t1, t2, t3, t4, t5, t6, t7, t8, t9, t10⟩ := t
        dsimp only at *
        cases hf : frB ⟨s0, s1, s2, s3, s4, s5, s6, s7, s8, s9, s10⟩ ⟨t0, t1, t2, t3, t4, t5, t6, t7, t8, t9, t10⟩
        · rw [hf, Bool.false_and] at htk
          have hc := HC.out
          rw [hf] at hc
          have Hc := hide hc; have Htk := hide htk; clear hc htk hf HC
          go_wp2_with fail
          refine (Hc.out).mono ?_
          rintro e w2 ⟨rfl, hb2⟩
          go_wp2
          go_ret
          exact ⟨retB Htk.out, HB.out.trans (hb2.mono HB.out.size)⟩
        · rw [hf, Bool.true_and] at htk
          have hc := HC.out
          rw [hf] at hc
          have Hc := hide hc; have Htk := hide htk; clear hc htk hf HC
          go_wp2_with fail
          refine (Hc.out).mono ?_
          rintro e w2 ⟨rfl, hb2⟩
          go_wp2
          go_roundw
          case rel => exact ⟨k + 1, by omega, by go_num, Htk.out, HB.out.trans (hb2.mono HB.out.size)⟩
          case measure => simp [intOf]; omega
      · obtain rfl : k = xs.length := by omega
        have Hall := hide (Hen.out.symm.trans htk); have Hb := hide hb; clear htk hb
        go_wp2
        go_ret
        exact ⟨retB Hall.out, Hb.out⟩
  · have hxb : ((xs.length : Int) != ys.length) = true := by rw [bne_iff_ne]; omega
    have Hn := hide (all2_len (p := frB) hne); clear hne
    go_enter Try.func43, Try.ntmps43
    go_wp2
    go_ret
    exact ⟨retB Hn.out.symm, Below.refl _ _⟩
def vmB (a b : VmM) : Bool := all2 frB a.qFrames b.qFrames && (sameB a.qTrace b.qTrace && (decide (a.qUsed = b.qUsed) && (decide (a.qCode = b.qCode) && (decide (a.qValue = b.qValue) && (decide (a.qMade = b.qMade) && (all2 r3eq a.qNotes b.qNotes))))))
set_option maxHeartbeats 6400000 in
theorem impl_SameVm (cs cs2 : List Value) (a b : VmM) (w : World) (hr : RVm w 0 w.heap.size cs a) (hr2 : RVm w 0 w.heap.size cs2 b) :
    Calls Try.prog 17 #[.agg cs.toArray, .agg cs2.toArray] w fun e w' => e = .returned (.bool (vmB a b)) ∧ Below w.heap.size w w' := by
  obtain ⟨mv0, mv1, mv6, rfl, h0, h1, h6⟩ := hr
  obtain ⟨nv0, nv1, nv6, rfl, g0, g1, g6⟩ := hr2
  obtain ⟨m0, m1, m2, m3, m4, m5, m6⟩ := a
  obtain ⟨n0, n1, n2, n3, n4, n5, n6⟩ := b
  have hR : vmB ⟨m0, m1, m2, m3, m4, m5, m6⟩ ⟨n0, n1, n2, n3, n4, n5, n6⟩ = (all2 frB m0 n0 && (sameB m1 n1 && (decide (m2 = n2) && (decide (m3 = n3) && (decide (m4 = n4) && (decide (m5 = n5) && (all2 r3eq m6 n6))))))) := rfl
  dsimp only at h0 h1 h6 g0 g1 g6 ⊢
  generalize vmB ⟨m0, m1, m2, m3, m4, m5, m6⟩ ⟨n0, n1, n2, n3, n4, n5, n6⟩ = R at *
  obtain ⟨A0, c0, rfl⟩ := h0.form
  obtain ⟨B0', d0, rfl⟩ := g0.form
  have hW := ((Below.refl w.heap.size w).alloc (Nat.le_refl _) (.cells #[.slice A0 m0.length c0, mv1, .int .i64 m2, .int .i64 m3, .int .i64 m4, .int .i64 m5, mv6] 46)).alloc (by simp) (.cells #[.slice B0' n0.length d0, nv1, .int .i64 n2, .int .i64 n3, .int .i64 n4, .int .i64 n5, nv6] 46)
  have hk1 := (Bk.new w 46 #[.slice A0 m0.length c0, mv1, .int .i64 m2, .int .i64 m3, .int .i64 m4, .int .i64 m5, mv6]).alloc (.cells #[.slice B0' n0.length d0, nv1, .int .i64 n2, .int .i64 n3, .int .i64 n4, .int .i64 n5, nv6] 46)
  have hk2 := Bk.new (w.alloc (.cells #[.slice A0 m0.length c0, mv1, .int .i64 m2, .int .i64 m3, .int .i64 m4, .int .i64 m5, mv6] 46)) 46 #[.slice B0' n0.length d0, nv1, .int .i64 n2, .int .i64 n3, .int .i64 n4, .int .i64 n5, nv6]
  rw [World.size_alloc] at hk2
  have hP0 : ∀ W, Below w.heap.size w W → Calls Try.prog 43 #[.slice A0 m0.length c0, .slice B0' n0.length d0, .func (.func 44) #[] #[]] W fun e w' => e = .returned (.bool (all2 frB m0 n0)) ∧ Below W.heap.size W w' := fun W hW => eqfFrame A0 B0' c0 d0 m0 n0 W (h0.here RFrame_stable hW) (g0.here RFrame_stable hW)
  have hP1 : ∀ W, Below w.heap.size w W → Calls Try.prog 45 #[mv1, nv1] W fun e w' => e = .returned (.bool (sameB m1 n1)) ∧ ∃ q, w' = W.drewN q := fun W hW => slices_Equal _ _ _ _ W _ _ _ _ rfl rfl (h1.here hW).rd (g1.here hW).rd
  have hP6 : ∀ W, Below w.heap.size w W → Calls Try.prog 46 #[mv6, nv6] W fun e w' => e = .returned (.bool (all2 r3eq m6 n6)) ∧ ∃ q, w' = W.drewN q := fun W hW => slices_EqualN _ _ _ _ W _ _ (h6.here hW).rd (g6.here hW).rd
  generalize all2 frB m0 n0 = B0 at hR hP0
  generalize sameB m1 n1 = B1 at hR hP1
  generalize hB2 : decide (m2 = n2) = B2 at hR
  generalize hB3 : decide (m3 = n3) = B3 at hR
  generalize hB4 : decide (m4 = n4) = B4 at hR
  generalize hB5 : decide (m5 = n5) = B5 at hR
  generalize all2 r3eq m6 n6 = B6 at hR hP6
  have HW := hide hW; have HK1 := hide hk1; have HK2 := hide hk2; clear hW hk1 hk2 h0 h1 h6 g0 g1 g6
  cases B0
  · skip
    have HR := hide (hR.trans (by rfl) : R = false)
    clear hR hP1 hB2 hB3 hB4 hB5 hP6
    have HP0 := Lib.hid hP0; clear hP0
    go_enter Try.func17, Try.ntmps17
    go_wp2_with (first
      | (go_at_call 43; refine ((HP0.out _ (by exact HW.out))).mono ?_; rintro e w1 ⟨rfl, hb1⟩; have HW1 := hide (HW.out.trans (hb1.mono HW.out.size)); have hj1 := HK1.out.below hb1; have hj2 := HK2.out.below hb1; have hj1l := hj1.lt; have hj2l := hj2.lt; have p1 := hj1.cell 1; have r1 := hj2.cell 1; have p2 := hj1.cell 2; have r2 := hj2.cell 2; have p3 := hj1.cell 3; have r3 := hj2.cell 3; have p4 := hj1.cell 4; have r4 := hj2.cell 4; have p5 := hj1.cell 5; have r5 := hj2.cell 5; have p6 := hj1.cell 6; have r6 := hj2.cell 6; clear hb1 hj1 hj2 HP0))
    go_ret
    exact ⟨retB HR.out.symm, HW1.out⟩
  cases B1
  · skip
    have HR := hide (hR.trans (by rfl) : R = false)
    clear hR hB2 hB3 hB4 hB5 hP6
    have HP0 := Lib.hid hP0; clear hP0
    have HP1 := Lib.hid hP1; clear hP1
    go_enter Try.func17, Try.ntmps17
    go_wp2_with (first
      | (go_at_call 43; refine ((HP0.out _ (by exact HW.out))).mono ?_; rintro e w1 ⟨rfl, hb1⟩; have HW1 := hide (HW.out.trans (hb1.mono HW.out.size)); have hj1 := HK1.out.below hb1; have hj2 := HK2.out.below hb1; have hj1l := hj1.lt; have hj2l := hj2.lt; have p1 := hj1.cell 1; have r1 := hj2.cell 1; have p2 := hj1.cell 2; have r2 := hj2.cell 2; have p3 := hj1.cell 3; have r3 := hj2.cell 3; have p4 := hj1.cell 4; have r4 := hj2.cell 4; have p5 := hj1.cell 5; have r5 := hj2.cell 5; have p6 := hj1.cell 6; have r6 := hj2.cell 6; clear hb1 hj1 hj2 HP0)
      | (go_at_call 45; refine ((HP1.out _ (by exact HW1.out))).mono ?_; rintro e w2 ⟨rfl, q1, rfl⟩; clear HP1))
    go_ret
    exact ⟨retB HR.out.symm, below_drewN HW1.out _⟩
  cases B2
  · have b2 := beq_eq_false_iff_ne.2 (of_decide_eq_false hB2); clear hB2
    have HR := hide (hR.trans (by rfl) : R = false)
    clear hR hB3 hB4 hB5 hP6
    have HP0 := Lib.hid hP0; clear hP0
    have HP1 := Lib.hid hP1; clear hP1
    go_enter Try.func17, Try.ntmps17
    go_wp2_with (first
      | (go_at_call 43; refine ((HP0.out _ (by exact HW.out))).mono ?_; rintro e w1 ⟨rfl, hb1⟩; have HW1 := hide (HW.out.trans (hb1.mono HW.out.size)); have hj1 := HK1.out.below hb1; have hj2 := HK2.out.below hb1; have hj1l := hj1.lt; have hj2l := hj2.lt; have p1 := hj1.cell 1; have r1 := hj2.cell 1; have p2 := hj1.cell 2; have r2 := hj2.cell 2; have p3 := hj1.cell 3; have r3 := hj2.cell 3; have p4 := hj1.cell 4; have r4 := hj2.cell 4; have p5 := hj1.cell 5; have r5 := hj2.cell 5; have p6 := hj1.cell 6; have r6 := hj2.cell 6; clear hb1 hj1 hj2 HP0)
      | (go_at_call 45; refine ((HP1.out _ (by exact HW1.out))).mono ?_; rintro e w2 ⟨rfl, q1, rfl⟩; clear HP1))
    go_ret
    exact ⟨retB HR.out.symm, below_drewN HW1.out _⟩
  have e2 := of_decide_eq_true hB2; clear hB2; subst e2
  cases B3
  · have b3 := beq_eq_false_iff_ne.2 (of_decide_eq_false hB3); clear hB3
    have HR := hide (hR.trans (by rfl) : R = false)
    clear hR hB4 hB5 hP6
    have HP0 := Lib.hid hP0; clear hP0
    have HP1 := Lib.hid hP1; clear hP1
    go_enter Try.func17, Try.ntmps17
    go_wp2_with (first
      | (go_at_call 43; refine ((HP0.out _ (by exact HW.out))).mono ?_; rintro e w1 ⟨rfl, hb1⟩; have HW1 := hide (HW.out.trans (hb1.mono HW.out.size)); have hj1 := HK1.out.below hb1; have hj2 := HK2.out.below hb1; have hj1l := hj1.lt; have hj2l := hj2.lt; have p1 := hj1.cell 1; have r1 := hj2.cell 1; have p2 := hj1.cell 2; have r2 := hj2.cell 2; have p3 := hj1.cell 3; have r3 := hj2.cell 3; have p4 := hj1.cell 4; have r4 := hj2.cell 4; have p5 := hj1.cell 5; have r5 := hj2.cell 5; have p6 := hj1.cell 6; have r6 := hj2.cell 6; clear hb1 hj1 hj2 HP0)
      | (go_at_call 45; refine ((HP1.out _ (by exact HW1.out))).mono ?_; rintro e w2 ⟨rfl, q1, rfl⟩; clear HP1))
    go_ret
    exact ⟨retB HR.out.symm, below_drewN HW1.out _⟩
  have e3 := of_decide_eq_true hB3; clear hB3; subst e3
  cases B4
  · have b4 := beq_eq_false_iff_ne.2 (of_decide_eq_false hB4); clear hB4
    have HR := hide (hR.trans (by rfl) : R = false)
    clear hR hB5 hP6
    have HP0 := Lib.hid hP0; clear hP0
    have HP1 := Lib.hid hP1; clear hP1
    go_enter Try.func17, Try.ntmps17
    go_wp2_with (first
      | (go_at_call 43; refine ((HP0.out _ (by exact HW.out))).mono ?_; rintro e w1 ⟨rfl, hb1⟩; have HW1 := hide (HW.out.trans (hb1.mono HW.out.size)); have hj1 := HK1.out.below hb1; have hj2 := HK2.out.below hb1; have hj1l := hj1.lt; have hj2l := hj2.lt; have p1 := hj1.cell 1; have r1 := hj2.cell 1; have p2 := hj1.cell 2; have r2 := hj2.cell 2; have p3 := hj1.cell 3; have r3 := hj2.cell 3; have p4 := hj1.cell 4; have r4 := hj2.cell 4; have p5 := hj1.cell 5; have r5 := hj2.cell 5; have p6 := hj1.cell 6; have r6 := hj2.cell 6; clear hb1 hj1 hj2 HP0)
      | (go_at_call 45; refine ((HP1.out _ (by exact HW1.out))).mono ?_; rintro e w2 ⟨rfl, q1, rfl⟩; clear HP1))
    go_ret
    exact ⟨retB HR.out.symm, below_drewN HW1.out _⟩
  have e4 := of_decide_eq_true hB4; clear hB4; subst e4
  cases B5
  · have b5 := beq_eq_false_iff_ne.2 (of_decide_eq_false hB5); clear hB5
    have HR := hide (hR.trans (by rfl) : R = false)
    clear hR hP6
    have HP0 := Lib.hid hP0; clear hP0
    have HP1 := Lib.hid hP1; clear hP1
    go_enter Try.func17, Try.ntmps17
    go_wp2_with (first
      | (go_at_call 43; refine ((HP0.out _ (by exact HW.out))).mono ?_; rintro e w1 ⟨rfl, hb1⟩; have HW1 := hide (HW.out.trans (hb1.mono HW.out.size)); have hj1 := HK1.out.below hb1; have hj2 := HK2.out.below hb1; have hj1l := hj1.lt; have hj2l := hj2.lt; have p1 := hj1.cell 1; have r1 := hj2.cell 1; have p2 := hj1.cell 2; have r2 := hj2.cell 2; have p3 := hj1.cell 3; have r3 := hj2.cell 3; have p4 := hj1.cell 4; have r4 := hj2.cell 4; have p5 := hj1.cell 5; have r5 := hj2.cell 5; have p6 := hj1.cell 6; have r6 := hj2.cell 6; clear hb1 hj1 hj2 HP0)
      | (go_at_call 45; refine ((HP1.out _ (by exact HW1.out))).mono ?_; rintro e w2 ⟨rfl, q1, rfl⟩; clear HP1))
    go_ret
    exact ⟨retB HR.out.symm, below_drewN HW1.out _⟩
  have e5 := of_decide_eq_true hB5; clear hB5; subst e5
  cases B6
  · skip
    have HR := hide (hR.trans (by rfl) : R = false)
    clear hR 
    have HP0 := Lib.hid hP0; clear hP0
    have HP1 := Lib.hid hP1; clear hP1
    have HP6 := Lib.hid hP6; clear hP6
    go_enter Try.func17, Try.ntmps17
    go_wp2_with (first
      | (go_at_call 43; refine ((HP0.out _ (by exact HW.out))).mono ?_; rintro e w1 ⟨rfl, hb1⟩; have HW1 := hide (HW.out.trans (hb1.mono HW.out.size)); have hj1 := HK1.out.below hb1; have hj2 := HK2.out.below hb1; have hj1l := hj1.lt; have hj2l := hj2.lt; have p1 := hj1.cell 1; have r1 := hj2.cell 1; have p2 := hj1.cell 2; have r2 := hj2.cell 2; have p3 := hj1.cell 3; have r3 := hj2.cell 3; have p4 := hj1.cell 4; have r4 := hj2.cell 4; have p5 := hj1.cell 5; have r5 := hj2.cell 5; have p6 := hj1.cell 6; have r6 := hj2.cell 6; clear hb1 hj1 hj2 HP0)
      | (go_at_call 45; refine ((HP1.out _ (by exact HW1.out))).mono ?_; rintro e w2 ⟨rfl, q1, rfl⟩; clear HP1)
      | (go_at_call 46; refine ((HP6.out _ (by exact below_drewN HW1.out _))).mono ?_; rintro e w3 ⟨rfl, q3, rfl⟩; clear HP6))
    go_ret
    exact ⟨retB HR.out.symm, below_drewN HW1.out _⟩
  have HR := hide (hR.trans (by rfl) : R = true)
  clear hR 
  have HP0 := Lib.hid hP0; clear hP0
  have HP1 := Lib.hid hP1; clear hP1
  have HP6 := Lib.hid hP6; clear hP6
  go_enter Try.func17, Try.ntmps17
  go_wp2_with (first
    | (go_at_call 43; refine ((HP0.out _ (by exact HW.out))).mono ?_; rintro e w1 ⟨rfl, hb1⟩; have HW1 := hide (HW.out.trans (hb1.mono HW.out.size)); have hj1 := HK1.out.below hb1; have hj2 := HK2.out.below hb1; have hj1l := hj1.lt; have hj2l := hj2.lt; have p1 := hj1.cell 1; have r1 := hj2.cell 1; have p2 := hj1.cell 2; have r2 := hj2.cell 2; have p3 := hj1.cell 3; have r3 := hj2.cell 3; have p4 := hj1.cell 4; have r4 := hj2.cell 4; have p5 := hj1.cell 5; have r5 := hj2.cell 5; have p6 := hj1.cell 6; have r6 := hj2.cell 6; clear hb1 hj1 hj2 HP0)
    | (go_at_call 45; refine ((HP1.out _ (by exact HW1.out))).mono ?_; rintro e w2 ⟨rfl, q1, rfl⟩; clear HP1)
    | (go_at_call 46; refine ((HP6.out _ (by exact below_drewN HW1.out _))).mono ?_; rintro e w3 ⟨rfl, q3, rfl⟩; clear HP6))
  go_ret
  exact ⟨retB HR.out.symm, below_drewN HW1.out _⟩
end Go.Proofs.Ytaebmliolpgmdaa
