
/- SameVm of the reference: what the Go text returns. No condition. Printed by wip/tools/mk_sv.py. -/
import Derived.Test.YtaebmliolpgmdaaSv2
import Derived.Test.YtaebmliolpgmdaaSv3
import Derived.Deep.RegionHeld3
import Derived.Deep.RegionWith
set_option linter.unusedSimpArgs false
set_option linter.unusedVariables false
set_option maxRecDepth 100000
namespace Go.Proofs.Ytaebmliolpgmdaa
open Go.RowKit


theorem below_undrew {B : Nat} {a w : World} (h : Below B a.drew w) : Below B a w := ⟨h.os, h.tape, h.output, h.size, h.block⟩
set_option maxHeartbeats 6400000 in
theorem spec_SameVm (cs cs2 : List Value) (a b : VmM) (w : World) (hr : RVm w 0 w.heap.size cs a) (hr2 : RVm w 0 w.heap.size cs2 b) :
    Calls Try.prog 15 #[.agg cs.toArray, .agg cs2.toArray] w fun e w' => e = .returned (.bool (vmB a b)) ∧ Below w.heap.size w w' := by
  obtain ⟨mv0, mv1, mv6, rfl, h0, h1, h6⟩ := hr
  obtain ⟨nv0, nv1, nv6, rfl, g0, g1, g6⟩ := hr2
  obtain ⟨m0, m1, m2, m3, m4, m5, m6⟩ := a
  obtain ⟨n0, n1, n2, n3, n4, n5, n6⟩ := b
  have hR : vmB ⟨m0, m1, m2, m3, m4, m5, m6⟩ ⟨n0, n1, n2, n3, n4, n5, n6⟩ = (all2 frB m0 n0 && (sameB m1 n1 && (decide (m2 = n2) && (decide (m3 = n3) && (decide (m4 = n4) && (decide (m5 = n5) && (all2 r3eq m6 n6))))))) := rfl
  dsimp only at h0 h1 h6 g0 g1 g6 ⊢
  generalize vmB ⟨m0, m1, m2, m3, m4, m5, m6⟩ ⟨n0, n1, n2, n3, n4, n5, n6⟩ = R at *
  obtain ⟨A0, c0, rfl⟩ := h0.form
  obtain ⟨B0', d0, rfl⟩ := g0.form
  obtain ⟨A6, c6, rfl⟩ := h6.form
  obtain ⟨B6', d6, rfl⟩ := g6.form
  have hW := ((Below.refl w.heap.size w).alloc (Nat.le_refl _) (.cells #[.slice A0 m0.length c0, mv1, .int .i64 m2, .int .i64 m3, .int .i64 m4, .int .i64 m5, .slice A6 m6.length c6] 46)).alloc (by simp) (.cells #[.slice B0' n0.length d0, nv1, .int .i64 n2, .int .i64 n3, .int .i64 n4, .int .i64 n5, .slice B6' n6.length d6] 46)
  have hk1 := (Bk.new w 46 #[.slice A0 m0.length c0, mv1, .int .i64 m2, .int .i64 m3, .int .i64 m4, .int .i64 m5, .slice A6 m6.length c6]).alloc (.cells #[.slice B0' n0.length d0, nv1, .int .i64 n2, .int .i64 n3, .int .i64 n4, .int .i64 n5, .slice B6' n6.length d6] 46)
  have hk2 := Bk.new (w.alloc (.cells #[.slice A0 m0.length c0, mv1, .int .i64 m2, .int .i64 m3, .int .i64 m4, .int .i64 m5, .slice A6 m6.length c6] 46)) 46 #[.slice B0' n0.length d0, nv1, .int .i64 n2, .int .i64 n3, .int .i64 n4, .int .i64 n5, .slice B6' n6.length d6]
  rw [World.size_alloc] at hk2
  have hl0 := h0.long; have hl0' := g0.long; have hl6 := h6.long; have hl6' := g6.long
  have hP1 : ∀ W, Below w.heap.size w W → Calls Try.prog 39 #[mv1, nv1] W fun e w' => e = .returned (.bool (sameB m1 n1)) ∧ ∃ q, w' = W.drewN q := fun W hW => spec_l1Same _ _ _ _ W _ _ _ _ rfl rfl (h1.here hW).rd (g1.here hW).rd
  have hn0 : all2 frB m0 n0 = false → R = false := fun h => by rw [hR, h]; rfl
  have hn6 : all2 r3eq m6 n6 = false → R = false := fun h => by rw [hR, h]; simp
  have hy : all2 frB m0 n0 = true → all2 r3eq m6 n6 = true → R = (true && (sameB m1 n1 && (decide (m2 = n2) && (decide (m3 = n3) && (decide (m4 = n4) && (decide (m5 = n5) && true)))))) := fun h h' => by rw [hR, h, h']
  have HW := hide hW; have HK1 := hide hk1; have HK2 := hide hk2; have H0 := hide h0; have G0 := hide g0; have H6 := hide h6.rd; have G6 := hide g6.rd; have HY := hide hy
  clear hW hk1 hk2 h0 h1 h6 g0 g1 g6 hR hy
  by_cases hne0 : m0.length = n0.length
  case neg =>
    have HN := hide (hn0 (all2_len hne0))
    have hnb : ((m0.length : Int) != n0.length) = true := by rw [bne_iff_ne]; omega
    clear hn0 hn6 hne0 hP1
    go_enter Try.func15, Try.ntmps15
    go_wp2
    go_ret
    exact ⟨retB HN.out.symm, HW.out⟩
  have hnb0 : ((m0.length : Int) != n0.length) = false := by rw [hne0]; simp
  by_cases hne6 : m6.length = n6.length
  case neg =>
    have HN := hide (hn6 (all2_len hne6))
    have hnb : ((m6.length : Int) != n6.length) = true := by rw [bne_iff_ne]; omega
    clear hn0 hn6 hne0 hne6 hP1
    go_enter Try.func15, Try.ntmps15
    go_wp2
    go_ret
    exact ⟨retB HN.out.symm, HW.out⟩
  have hnb6 : ((m6.length : Int) != n6.length) = false := by rw [hne6]; simp
  have hst := fun k h1 h2 => all2_step (p := frB) (l := m0) (m := n0) (k := k) h1 h2
  have hen := all2_end (p := frB) hne0
  have hst6 := fun k h1 h2 => all2_step (p := r3eq) (l := m6) (m := n6) (k := k) h1 h2
  have hen6 := all2_end (p := r3eq) hne6
  have h00 : all2 frB (m0.drop 0) (n0.drop 0) = all2 frB m0 n0 := rfl
  have h06 : all2 r3eq (m6.drop 0) (n6.drop 0) = all2 r3eq m6 n6 := rfl
  generalize all2 frB m0 n0 = B0 at *
  generalize all2 r3eq m6 n6 = B6 at *
  have Hst := Lib.hid hst; have Hen := hide hen; have H00 := hide h00; have Hst6 := Lib.hid hst6; have Hen6 := hide hen6; have H06 := hide h06; have Hne0 := hide hne0; have Hne6 := hide hne6; have HN0 := hide hn0; have HN6 := hide hn6; have HP1 := Lib.hid hP1
  clear hst hen h00 hst6 hen6 h06 hne0 hne6 hn0 hn6 hP1
  go_enter Try.func15, Try.ntmps15
  go_wp2
  go_loopw [26] (fun i wr => ∃ k : Nat, k ≤ m0.length ∧ i = .int .i64 k ∧ all2 frB (m0.drop k) (n0.drop k) = B0 ∧ Below w.heap.size w wr ∧ Bk wr w.heap.size 46 #[.slice A0 m0.length c0, mv1, .int .i64 m2, .int .i64 m3, .int .i64 m4, .int .i64 m5, .slice A6 m6.length c6] ∧ Bk wr (w.heap.size + 1) 46 #[.slice B0' n0.length d0, nv1, .int .i64 n2, .int .i64 n3, .int .i64 n4, .int .i64 n5, .slice B6' n6.length d6]) (fun i _ => m0.length - (intOf i).toNat)
  case atStart => exact ⟨0, by omega, rfl, H00.out, HW.out, HK1.out, HK2.out⟩
  case round =>
    obtain ⟨k, hk, rfl, htk, hb, hk1, hk2⟩ := hrel
    have hl1 := hk1.lt; have hl2 := hk2.lt
    by_cases hlt : k < m0.length
    · have hky : k < n0.length := by rw [← Hne0.out]; exact hlt
      obtain ⟨g, og, S3, e3, S4, e4, S5, e5, rfl, hbg, x0, x1, x2, x3, x4, x5, x6, x7, x8, x9, x10, hx⟩ := RFrame_lit H0.out hlt
      obtain ⟨h, oh, T3, f3, T4, f4, T5, f5, rfl, hbh, y0, y1, y2, y3, y4, y5, y6, y7, y8, y9, y10, hy⟩ := RFrame_lit G0.out hky
      rw [Hst.out k hlt hky] at htk
      have HF := hide (fun W (hW : Below w.heap.size w W) => (⟨(hW.cell (p := ⟨g, og + k * 11, none⟩) hbg).trans x0, (hW.cell (p := ⟨g, og + k * 11 + 1, none⟩) hbg).trans x1, (hW.cell (p := ⟨g, og + k * 11 + 2, none⟩) hbg).trans x2, (hW.cell (p := ⟨g, og + k * 11 + 3, none⟩) hbg).trans x3, (hW.cell (p := ⟨g, og + k * 11 + 4, none⟩) hbg).trans x4, (hW.cell (p := ⟨g, og + k * 11 + 5, none⟩) hbg).trans x5, (hW.cell (p := ⟨g, og + k * 11 + 6, none⟩) hbg).trans x6, (hW.cell (p := ⟨g, og + k * 11 + 7, none⟩) hbg).trans x7, (hW.cell (p := ⟨g, og + k * 11 + 8, none⟩) hbg).trans x8, (hW.cell (p := ⟨g, og + k * 11 + 9, none⟩) hbg).trans x9, (hW.cell (p := ⟨g, og + k * 11 + 10, none⟩) hbg).trans x10, (hW.cell (p := ⟨h, oh + k * 11, none⟩) hbh).trans y0, (hW.cell (p := ⟨h, oh + k * 11 + 1, none⟩) hbh).trans y1, (hW.cell (p := ⟨h, oh + k * 11 + 2, none⟩) hbh).trans y2, (hW.cell (p := ⟨h, oh + k * 11 + 3, none⟩) hbh).trans y3, (hW.cell (p := ⟨h, oh + k * 11 + 4, none⟩) hbh).trans y4, (hW.cell (p := ⟨h, oh + k * 11 + 5, none⟩) hbh).trans y5, (hW.cell (p := ⟨h, oh + k * 11 + 6, none⟩) hbh).trans y6, (hW.cell (p := ⟨h, oh + k * 11 + 7, none⟩) hbh).trans y7, (hW.cell (p := ⟨h, oh + k * 11 + 8, none⟩) hbh).trans y8, (hW.cell (p := ⟨h, oh + k * 11 + 9, none⟩) hbh).trans y9, (hW.cell (p := ⟨h, oh + k * 11 + 10, none⟩) hbh).trans y10⟩ : W.cell? ⟨g, og + k * 11, none⟩ = some (.int .i64 m0[k].qId) ∧ W.cell? ⟨g, og + k * 11 + 1, none⟩ = some (.int .i64 m0[k].qFn) ∧ W.cell? ⟨g, og + k * 11 + 2, none⟩ = some (.int .i64 m0[k].qAt) ∧ W.cell? ⟨g, og + k * 11 + 3, none⟩ = some (.slice S3 m0[k].qPile.length e3) ∧ W.cell? ⟨g, og + k * 11 + 4, none⟩ = some (.slice S4 m0[k].qVars.length e4) ∧ W.cell? ⟨g, og + k * 11 + 5, none⟩ = some (.slice S5 m0[k].qFlags.length e5) ∧ W.cell? ⟨g, og + k * 11 + 6, none⟩ = some (.int .i64 m0[k].qResult) ∧ W.cell? ⟨g, og + k * 11 + 7, none⟩ = some (.int .i64 m0[k].qMode) ∧ W.cell? ⟨g, og + k * 11 + 8, none⟩ = some (.int .i64 m0[k].qValue) ∧ W.cell? ⟨g, og + k * 11 + 9, none⟩ = some (.int .i64 m0[k].qBase) ∧ W.cell? ⟨g, og + k * 11 + 10, none⟩ = some (.bool m0[k].qOff) ∧ W.cell? ⟨h, oh + k * 11, none⟩ = some (.int .i64 n0[k].qId) ∧ W.cell? ⟨h, oh + k * 11 + 1, none⟩ = some (.int .i64 n0[k].qFn) ∧ W.cell? ⟨h, oh + k * 11 + 2, none⟩ = some (.int .i64 n0[k].qAt) ∧ W.cell? ⟨h, oh + k * 11 + 3, none⟩ = some (.slice T3 n0[k].qPile.length f3) ∧ W.cell? ⟨h, oh + k * 11 + 4, none⟩ = some (.slice T4 n0[k].qVars.length f4) ∧ W.cell? ⟨h, oh + k * 11 + 5, none⟩ = some (.slice T5 n0[k].qFlags.length f5) ∧ W.cell? ⟨h, oh + k * 11 + 6, none⟩ = some (.int .i64 n0[k].qResult) ∧ W.cell? ⟨h, oh + k * 11 + 7, none⟩ = some (.int .i64 n0[k].qMode) ∧ W.cell? ⟨h, oh + k * 11 + 8, none⟩ = some (.int .i64 n0[k].qValue) ∧ W.cell? ⟨h, oh + k * 11 + 9, none⟩ = some (.int .i64 n0[k].qBase) ∧ W.cell? ⟨h, oh + k * 11 + 10, none⟩ = some (.bool n0[k].qOff)))
      have Hx := hide hx; have Hy := hide hy; have Hk1 := hide hk1; have Hk2 := hide hk2; have Hb := hide hb
      clear hb hx hy H0 G0 hk1 hk2 x0 x1 x2 x3 x4 x5 x6 x7 x8 x9 x10 y0 y1 y2 y3 y4 y5 y6 y7 y8 y9 y10
      generalize m0[k] = s at *
      generalize n0[k] = t at *
      obtain ⟨s0, s1, s2, s3, s4, s5, s6, s7, s8, s9, s10⟩ := s
      obtain ⟨t0, t1, t2, t3, t4, t5, t6, t7, t8, t9, t10⟩ := t
      dsimp only at *
      have HG : Hid (∀ W, Below w.heap.size w W → W.cell? ⟨g, og + k * 11, none⟩ = some (.int .i64 s0) ∧ W.cell? ⟨g, og + k * 11 + 1, none⟩ = some (.int .i64 s1) ∧ W.cell? ⟨g, og + k * 11 + 2, none⟩ = some (.int .i64 s2) ∧ W.cell? ⟨g, og + k * 11 + 3, none⟩ = some (.slice S3 s3.length e3) ∧ W.cell? ⟨g, og + k * 11 + 4, none⟩ = some (.slice S4 s4.length e4) ∧ W.cell? ⟨g, og + k * 11 + 5, none⟩ = some (.slice S5 s5.length e5) ∧ W.cell? ⟨g, og + k * 11 + 6, none⟩ = some (.int .i64 s6) ∧ W.cell? ⟨g, og + k * 11 + 7, none⟩ = some (.int .i64 s7) ∧ W.cell? ⟨g, og + k * 11 + 8, none⟩ = some (.int .i64 s8) ∧ W.cell? ⟨g, og + k * 11 + 9, none⟩ = some (.int .i64 s9) ∧ W.cell? ⟨g, og + k * 11 + 10, none⟩ = some (.bool s10) ∧ W.cell? ⟨h, oh + k * 11, none⟩ = some (.int .i64 t0) ∧ W.cell? ⟨h, oh + k * 11 + 1, none⟩ = some (.int .i64 t1) ∧ W.cell? ⟨h, oh + k * 11 + 2, none⟩ = some (.int .i64 t2) ∧ W.cell? ⟨h, oh + k * 11 + 3, none⟩ = some (.slice T3 t3.length f3) ∧ W.cell? ⟨h, oh + k * 11 + 4, none⟩ = some (.slice T4 t4.length f4) ∧ W.cell? ⟨h, oh + k * 11 + 5, none⟩ = some (.slice T5 t5.length f5) ∧ W.cell? ⟨h, oh + k * 11 + 6, none⟩ = some (.int .i64 t6) ∧ W.cell? ⟨h, oh + k * 11 + 7, none⟩ = some (.int .i64 t7) ∧ W.cell? ⟨h, oh + k * 11 + 8, none⟩ = some (.int .i64 t8) ∧ W.cell? ⟨h, oh + k * 11 + 9, none⟩ = some (.int .i64 t9) ∧ W.cell? ⟨h, oh + k * 11 + 10, none⟩ = some (.bool t10)) := hide HF.out
      clear HF
      have hC : ∀ W, Below w.heap.size w W → Calls Try.prog 38 #[.agg #[.int .i64 s0, .int .i64 s1, .int .i64 s2, .slice S3 s3.length e3, .slice S4 s4.length e4, .slice S5 s5.length e5, .int .i64 s6, .int .i64 s7, .int .i64 s8, .int .i64 s9, .bool s10], .agg #[.int .i64 t0, .int .i64 t1, .int .i64 t2, .slice T3 t3.length f3, .slice T4 t4.length f4, .slice T5 t5.length f5, .int .i64 t6, .int .i64 t7, .int .i64 t8, .int .i64 t9, .bool t10]] W fun e w' => e = .returned (.bool (frB ⟨s0, s1, s2, s3, s4, s5, s6, s7, s8, s9, s10⟩ ⟨t0, t1, t2, t3, t4, t5, t6, t7, t8, t9, t10⟩)) ∧ Below W.heap.size W w' := fun W hW => spec_l8SameFrame _ _ ⟨s0, s1, s2, s3, s4, s5, s6, s7, s8, s9, s10⟩ ⟨t0, t1, t2, t3, t4, t5, t6, t7, t8, t9, t10⟩ W (RFrame_stable.here Hx.out hW) (RFrame_stable.here Hy.out hW)
      cases hf : frB ⟨s0, s1, s2, s3, s4, s5, s6, s7, s8, s9, s10⟩ ⟨t0, t1, t2, t3, t4, t5, t6, t7, t8, t9, t10⟩
      · rw [hf, Bool.false_and] at htk
        rw [hf] at hC
        have Hc := Lib.hid hC; have HR := hide (HN0.out htk.symm); clear hC htk hf
        go_wp2_with fail
        go_region_held3 (fun w' => w'.cell? ⟨w.heap.size, 0, none⟩ = some (.slice (some ⟨g, og, none⟩) m0.length c0) ∧ w'.cell? ⟨w.heap.size + 1, 0, none⟩ = some (.slice (some ⟨h, oh, none⟩) n0.length d0) ∧ w'.cell? ⟨g, og + k * 11, none⟩ = some (.int .i64 s0) ∧ w'.cell? ⟨g, og + k * 11 + 1, none⟩ = some (.int .i64 s1) ∧ w'.cell? ⟨g, og + k * 11 + 2, none⟩ = some (.int .i64 s2) ∧ w'.cell? ⟨g, og + k * 11 + 3, none⟩ = some (.slice S3 s3.length e3) ∧ w'.cell? ⟨g, og + k * 11 + 4, none⟩ = some (.slice S4 s4.length e4) ∧ w'.cell? ⟨g, og + k * 11 + 5, none⟩ = some (.slice S5 s5.length e5) ∧ w'.cell? ⟨g, og + k * 11 + 6, none⟩ = some (.int .i64 s6) ∧ w'.cell? ⟨g, og + k * 11 + 7, none⟩ = some (.int .i64 s7) ∧ w'.cell? ⟨g, og + k * 11 + 8, none⟩ = some (.int .i64 s8) ∧ w'.cell? ⟨g, og + k * 11 + 9, none⟩ = some (.int .i64 s9) ∧ w'.cell? ⟨g, og + k * 11 + 10, none⟩ = some (.bool s10) ∧ w'.cell? ⟨h, oh + k * 11, none⟩ = some (.int .i64 t0) ∧ w'.cell? ⟨h, oh + k * 11 + 1, none⟩ = some (.int .i64 t1) ∧ w'.cell? ⟨h, oh + k * 11 + 2, none⟩ = some (.int .i64 t2) ∧ w'.cell? ⟨h, oh + k * 11 + 3, none⟩ = some (.slice T3 t3.length f3) ∧ w'.cell? ⟨h, oh + k * 11 + 4, none⟩ = some (.slice T4 t4.length f4) ∧ w'.cell? ⟨h, oh + k * 11 + 5, none⟩ = some (.slice T5 t5.length f5) ∧ w'.cell? ⟨h, oh + k * 11 + 6, none⟩ = some (.int .i64 t6) ∧ w'.cell? ⟨h, oh + k * 11 + 7, none⟩ = some (.int .i64 t7) ∧ w'.cell? ⟨h, oh + k * 11 + 8, none⟩ = some (.int .i64 t8) ∧ w'.cell? ⟨h, oh + k * 11 + 9, none⟩ = some (.int .i64 t9) ∧ w'.cell? ⟨h, oh + k * 11 + 10, none⟩ = some (.bool t10)) (first | exact ⟨Hk1.out.cell 0, Hk2.out.cell 0, HG.out _ Hb.out⟩ | exact ⟨Hk1.out.cell 0, Hk2.out.cell 0, HG.out _ Hb.out.drew⟩ | exact ⟨HK61.out.cell 0, HK62.out.cell 0, HG.out _ HB6.out⟩)
          ((go_at_call 38; refine (Hc.out _ (by exact Hb.out.drew)).mono ?_; rintro e w6 ⟨rfl, hb6⟩; replace hb6 := below_undrew hb6; have HB6 := hide (Hb.out.trans (hb6.mono Hb.out.size)); have HK61 := hide (Hk1.out.below hb6); have HK62 := hide (Hk2.out.below hb6); clear hb6))
        go_wp2
        go_ret
        exact ⟨retB HR.out.symm, HB6.out⟩
      · rw [hf, Bool.true_and] at htk
        rw [hf] at hC
        have Hc := Lib.hid hC; have Htk := hide htk; clear hC htk hf
        go_wp2_with fail
        go_region_held3 (fun w' => w'.cell? ⟨w.heap.size, 0, none⟩ = some (.slice (some ⟨g, og, none⟩) m0.length c0) ∧ w'.cell? ⟨w.heap.size + 1, 0, none⟩ = some (.slice (some ⟨h, oh, none⟩) n0.length d0) ∧ w'.cell? ⟨g, og + k * 11, none⟩ = some (.int .i64 s0) ∧ w'.cell? ⟨g, og + k * 11 + 1, none⟩ = some (.int .i64 s1) ∧ w'.cell? ⟨g, og + k * 11 + 2, none⟩ = some (.int .i64 s2) ∧ w'.cell? ⟨g, og + k * 11 + 3, none⟩ = some (.slice S3 s3.length e3) ∧ w'.cell? ⟨g, og + k * 11 + 4, none⟩ = some (.slice S4 s4.length e4) ∧ w'.cell? ⟨g, og + k * 11 + 5, none⟩ = some (.slice S5 s5.length e5) ∧ w'.cell? ⟨g, og + k * 11 + 6, none⟩ = some (.int .i64 s6) ∧ w'.cell? ⟨g, og + k * 11 + 7, none⟩ = some (.int .i64 s7) ∧ w'.cell? ⟨g, og + k * 11 + 8, none⟩ = some (.int .i64 s8) ∧ w'.cell? ⟨g, og + k * 11 + 9, none⟩ = some (.int .i64 s9) ∧ w'.cell? ⟨g, og + k * 11 + 10, none⟩ = some (.bool s10) ∧ w'.cell? ⟨h, oh + k * 11, none⟩ = some (.int .i64 t0) ∧ w'.cell? ⟨h, oh + k * 11 + 1, none⟩ = some (.int .i64 t1) ∧ w'.cell? ⟨h, oh + k * 11 + 2, none⟩ = some (.int .i64 t2) ∧ w'.cell? ⟨h, oh + k * 11 + 3, none⟩ = some (.slice T3 t3.length f3) ∧ w'.cell? ⟨h, oh + k * 11 + 4, none⟩ = some (.slice T4 t4.length f4) ∧ w'.cell? ⟨h, oh + k * 11 + 5, none⟩ = some (.slice T5 t5.length f5) ∧ w'.cell? ⟨h, oh + k * 11 + 6, none⟩ = some (.int .i64 t6) ∧ w'.cell? ⟨h, oh + k * 11 + 7, none⟩ = some (.int .i64 t7) ∧ w'.cell? ⟨h, oh + k * 11 + 8, none⟩ = some (.int .i64 t8) ∧ w'.cell? ⟨h, oh + k * 11 + 9, none⟩ = some (.int .i64 t9) ∧ w'.cell? ⟨h, oh + k * 11 + 10, none⟩ = some (.bool t10)) (first | exact ⟨Hk1.out.cell 0, Hk2.out.cell 0, HG.out _ Hb.out⟩ | exact ⟨Hk1.out.cell 0, Hk2.out.cell 0, HG.out _ Hb.out.drew⟩ | exact ⟨HK61.out.cell 0, HK62.out.cell 0, HG.out _ HB6.out⟩)
          ((go_at_call 38; refine (Hc.out _ (by exact Hb.out.drew)).mono ?_; rintro e w6 ⟨rfl, hb6⟩; replace hb6 := below_undrew hb6; have HB6 := hide (Hb.out.trans (hb6.mono Hb.out.size)); have HK61 := hide (Hk1.out.below hb6); have HK62 := hide (Hk2.out.below hb6); clear hb6))
        go_wp2
        go_roundw
        case rel => exact ⟨k + 1, by omega, by go_num, Htk.out, HB6.out, HK61.out, HK62.out⟩
        case measure => simp [intOf]; omega
    · obtain rfl : k = m0.length := by omega
      have HB0 := hide (htk.symm.trans Hen.out)
      have Hk1 := hide hk1; have Hk2 := hide hk2; have Hb := hide hb
      have p6 := hk1.cell 6
      clear htk hk1 hk2 hb Hst Hen H00 HN0 H0 G0
      go_wp2
      clear p6
      go_loopw [45] (fun i wi => ∃ k : Nat, k ≤ m6.length ∧ i = .int .i64 k ∧ all2 r3eq (m6.drop k) (n6.drop k) = B6 ∧ Below w.heap.size w wi ∧ Bk wi w.heap.size 46 #[.slice A0 m0.length c0, mv1, .int .i64 m2, .int .i64 m3, .int .i64 m4, .int .i64 m5, .slice A6 m6.length c6] ∧ Bk wi (w.heap.size + 1) 46 #[.slice B0' n0.length d0, nv1, .int .i64 n2, .int .i64 n3, .int .i64 n4, .int .i64 n5, .slice B6' n6.length d6]) (fun i _ => m6.length - (intOf i).toNat)
      case atStart => exact ⟨0, by omega, rfl, H06.out, Hb.out, Hk1.out, Hk2.out⟩
      case round =>
        obtain ⟨k, hk, rfl, htk, hb, hk1, hk2⟩ := hrel
        have hl1 := hk1.lt; have hl2 := hk2.lt
        by_cases hlt : k < m6.length
        · have hky : k < n6.length := by rw [← Hne6.out]; exact hlt
          obtain ⟨g, og, rfl, hbg, s0, s1, s2⟩ := three_at H6.out hlt
          obtain ⟨h, oh, rfl, hbh, t0, t1, t2⟩ := three_at G6.out hky
          rw [Hst6.out k hlt hky] at htk
          have z0 := (hb.cell (p := ⟨g, og + k * 3, none⟩) hbg).trans s0
          have z1 := (hb.cell (p := ⟨g, og + k * 3 + 1, none⟩) hbg).trans s1
          have z2 := (hb.cell (p := ⟨g, og + k * 3 + 2, none⟩) hbg).trans s2
          have y0 := (hb.cell (p := ⟨h, oh + k * 3, none⟩) hbh).trans t0
          have y1 := (hb.cell (p := ⟨h, oh + k * 3 + 1, none⟩) hbh).trans t1
          have y2 := (hb.cell (p := ⟨h, oh + k * 3 + 2, none⟩) hbh).trans t2
          have p6 := hk1.cell 6
          have r6 := hk2.cell 6
          have Hk1 := hide hk1; have Hk2 := hide hk2; have Hb := hide hb
          clear s0 s1 s2 t0 t1 t2 hk1 hk2 hb H6 G6
          generalize m6[k] = x at *
          generalize n6[k] = y at *
          obtain ⟨u0, u1, u2⟩ := x
          obtain ⟨v0, v1, v2⟩ := y
          dsimp only at *
          by_cases hxy : u0 = v0 ∧ u1 = v1 ∧ u2 = v2
          · have hd : r3eq ⟨u0, u1, u2⟩ ⟨v0, v1, v2⟩ = true := decide_eq_true hxy
            rw [hd, Bool.true_and] at htk
            obtain ⟨rfl, rfl, rfl⟩ := hxy
            have Htk := hide htk; clear htk hd
            go_wp2
            go_quiet (fail)
            go_wp2
            go_roundw
            case rel => exact ⟨k + 1, by omega, by go_num, Htk.out, below_drewN Hb.out _, Hk1.out.drewN _, Hk2.out.drewN _⟩
            case measure => simp [intOf]; omega
          · have hd : r3eq ⟨u0, u1, u2⟩ ⟨v0, v1, v2⟩ = false := decide_eq_false hxy
            rw [hd, Bool.false_and] at htk
            have HR := hide (HN6.out htk.symm)
            clear htk hd
            by_cases e0 : u0 = v0
            · by_cases e1 : u1 = v1
              · have e2 : u2 ≠ v2 := fun e2 => hxy ⟨e0, e1, e2⟩
                have b2 : (u2 == v2) = false := beq_eq_false_iff_ne.2 e2
                subst e0 e1
                clear hxy e2
                go_wp2
                go_quiet (fail)
                go_wp2
                go_ret
                exact ⟨retB HR.out.symm, below_drewN Hb.out _⟩
              · have b1 : (u1 == v1) = false := beq_eq_false_iff_ne.2 e1
                subst e0
                clear hxy e1
                go_wp2
                go_quiet (fail)
                go_wp2
                go_ret
                exact ⟨retB HR.out.symm, below_drewN Hb.out _⟩
            · have b0 : (u0 == v0) = false := beq_eq_false_iff_ne.2 e0
              clear hxy e0
              go_wp2
              go_quiet (fail)
              go_wp2
              go_ret
              exact ⟨retB HR.out.symm, below_drewN Hb.out _⟩
        · obtain rfl : k = m6.length := by omega
          have hR := HY.out HB0.out (htk.symm.trans Hen6.out)
          have Hb := hide hb
          have hP1 := HP1.out
          have p1 := hk1.cell 1; have r1 := hk2.cell 1; have p2 := hk1.cell 2; have r2 := hk2.cell 2; have p3 := hk1.cell 3; have r3 := hk2.cell 3; have p4 := hk1.cell 4; have r4 := hk2.cell 4; have p5 := hk1.cell 5; have r5 := hk2.cell 5
          clear htk hb hk1 hk2 Hst6 Hen6 H06 HN6 H6 G6 HP1 HY HB0
          generalize sameB m1 n1 = B1 at hR hP1
          generalize hB2 : decide (m2 = n2) = B2 at hR
          generalize hB3 : decide (m3 = n3) = B3 at hR
          generalize hB4 : decide (m4 = n4) = B4 at hR
          generalize hB5 : decide (m5 = n5) = B5 at hR
          cases B1
          · skip
            have HR := hide (hR.trans (by rfl) : R = false)
            clear hR hB2 hB3 hB4 hB5
            have HP1 := Lib.hid hP1; clear hP1
            go_wp2_with (go_at_call 39; refine (HP1.out _ (by exact Hb.out)).mono ?_; rintro e w2 ⟨rfl, q1, rfl⟩)
            go_ret
            exact ⟨retB HR.out.symm, below_drewN Hb.out _⟩
          cases B2
          · have b2 := beq_eq_false_iff_ne.2 (of_decide_eq_false hB2); clear hB2
            have HR := hide (hR.trans (by rfl) : R = false)
            clear hR hB3 hB4 hB5
            have HP1 := Lib.hid hP1; clear hP1
            go_wp2_with (go_at_call 39; refine (HP1.out _ (by exact Hb.out)).mono ?_; rintro e w2 ⟨rfl, q1, rfl⟩)
            go_ret
            exact ⟨retB HR.out.symm, below_drewN Hb.out _⟩
          have e2 := of_decide_eq_true hB2; clear hB2; subst e2
          cases B3
          · have b3 := beq_eq_false_iff_ne.2 (of_decide_eq_false hB3); clear hB3
            have HR := hide (hR.trans (by rfl) : R = false)
            clear hR hB4 hB5
            have HP1 := Lib.hid hP1; clear hP1
            go_wp2_with (go_at_call 39; refine (HP1.out _ (by exact Hb.out)).mono ?_; rintro e w2 ⟨rfl, q1, rfl⟩)
            go_ret
            exact ⟨retB HR.out.symm, below_drewN Hb.out _⟩
          have e3 := of_decide_eq_true hB3; clear hB3; subst e3
          cases B4
          · have b4 := beq_eq_false_iff_ne.2 (of_decide_eq_false hB4); clear hB4
            have HR := hide (hR.trans (by rfl) : R = false)
            clear hR hB5
            have HP1 := Lib.hid hP1; clear hP1
            go_wp2_with (go_at_call 39; refine (HP1.out _ (by exact Hb.out)).mono ?_; rintro e w2 ⟨rfl, q1, rfl⟩)
            go_ret
            exact ⟨retB HR.out.symm, below_drewN Hb.out _⟩
          have e4 := of_decide_eq_true hB4; clear hB4; subst e4
          cases B5
          · have b5 := beq_eq_false_iff_ne.2 (of_decide_eq_false hB5); clear hB5
            have HR := hide (hR.trans (by rfl) : R = false)
            clear hR 
            have HP1 := Lib.hid hP1; clear hP1
            go_wp2_with (go_at_call 39; refine (HP1.out _ (by exact Hb.out)).mono ?_; rintro e w2 ⟨rfl, q1, rfl⟩)
            go_ret
            exact ⟨retB HR.out.symm, below_drewN Hb.out _⟩
          have e5 := of_decide_eq_true hB5; clear hB5; subst e5
          have HR := hide (hR.trans (by rfl) : R = true)
          clear hR 
          have HP1 := Lib.hid hP1; clear hP1
          go_wp2_with (go_at_call 39; refine (HP1.out _ (by exact Hb.out)).mono ?_; rintro e w2 ⟨rfl, q1, rfl⟩)
          go_ret
          exact ⟨retB HR.out.symm, below_drewN Hb.out _⟩
end Go.Proofs.Ytaebmliolpgmdaa
