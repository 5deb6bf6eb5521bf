
/- l8SameFrame: what the Go text returns. No condition. Printed by wip/tools/mk_sv.py. -/
import Derived.Test.YtaebmliolpgmdaaSv0
set_option linter.unusedSimpArgs false
set_option linter.unusedVariables false
set_option maxRecDepth 100000
namespace Go.Proofs.Ytaebmliolpgmdaa
open Go.RowKit

set_option maxHeartbeats 6400000 in
theorem spec_l8SameFrame (cs cs2 : List Value) (a b : FrameM) (w : World) (hr : RFrame w 0 w.heap.size cs a) (hr2 : RFrame w 0 w.heap.size cs2 b) :
    Calls Try.prog 38 #[.agg cs.toArray, .agg cs2.toArray] w fun e w' => e = .returned (.bool (frB a b)) ∧ Below w.heap.size w w' := by
  obtain ⟨mv3, mv4, mv5, rfl, h3, h4, h5⟩ := hr
  obtain ⟨nv3, nv4, nv5, rfl, g3, g4, g5⟩ := hr2
  obtain ⟨m0, m1, m2, m3, m4, m5, m6, m7, m8, m9, m10⟩ := a
  obtain ⟨n0, n1, n2, n3, n4, n5, n6, n7, n8, n9, n10⟩ := b
  have hR : frB ⟨m0, m1, m2, m3, m4, m5, m6, m7, m8, m9, m10⟩ ⟨n0, n1, n2, n3, n4, n5, n6, n7, n8, n9, n10⟩ = (decide (m0 = n0) && (decide (m1 = n1) && (decide (m2 = n2) && (sameB m3 n3 && (sameB m4 n4 && (sameBB m5 n5 && (decide (m6 = n6) && (decide (m7 = n7) && (decide (m8 = n8) && (decide (m9 = n9) && (decide (m10 = n10)))))))))))) := rfl
  dsimp only at h3 h4 h5 g3 g4 g5 ⊢
  generalize frB ⟨m0, m1, m2, m3, m4, m5, m6, m7, m8, m9, m10⟩ ⟨n0, n1, n2, n3, n4, n5, n6, n7, n8, n9, n10⟩ = R at *
  obtain ⟨A5, c5, rfl⟩ := h5.form
  obtain ⟨C5, d5, rfl⟩ := g5.form
  have hl := h5.long
  have hl2 := g5.long
  have hW := ((Below.refl w.heap.size w).alloc (Nat.le_refl _) (.cells #[.int .i64 m0, .int .i64 m1, .int .i64 m2, mv3, mv4, .slice A5 m5.length c5, .int .i64 m6, .int .i64 m7, .int .i64 m8, .int .i64 m9, .bool m10] 74)).alloc (by simp) (.cells #[.int .i64 n0, .int .i64 n1, .int .i64 n2, nv3, nv4, .slice C5 n5.length d5, .int .i64 n6, .int .i64 n7, .int .i64 n8, .int .i64 n9, .bool n10] 74)
  have hk1 := (Bk.new w 74 #[.int .i64 m0, .int .i64 m1, .int .i64 m2, mv3, mv4, .slice A5 m5.length c5, .int .i64 m6, .int .i64 m7, .int .i64 m8, .int .i64 m9, .bool m10]).alloc (.cells #[.int .i64 n0, .int .i64 n1, .int .i64 n2, nv3, nv4, .slice C5 n5.length d5, .int .i64 n6, .int .i64 n7, .int .i64 n8, .int .i64 n9, .bool n10] 74)
  have hk2 := Bk.new (w.alloc (.cells #[.int .i64 m0, .int .i64 m1, .int .i64 m2, mv3, mv4, .slice A5 m5.length c5, .int .i64 m6, .int .i64 m7, .int .i64 m8, .int .i64 m9, .bool m10] 74)) 74 #[.int .i64 n0, .int .i64 n1, .int .i64 n2, nv3, nv4, .slice C5 n5.length d5, .int .i64 n6, .int .i64 n7, .int .i64 n8, .int .i64 n9, .bool n10]
  rw [World.size_alloc] at hk2
  have hP3 : ∀ W, Below w.heap.size w W → Calls Try.prog 39 #[mv3, nv3] W fun e w' => e = .returned (.bool (sameB m3 n3)) ∧ ∃ q, w' = W.drewN q := fun W hW => spec_l1Same _ _ _ _ W _ _ _ _ rfl rfl (h3.here hW).rd (g3.here hW).rd
  have hP4 : ∀ W, Below w.heap.size w W → Calls Try.prog 39 #[mv4, nv4] W fun e w' => e = .returned (.bool (sameB m4 n4)) ∧ ∃ q, w' = W.drewN q := fun W hW => spec_l1Same _ _ _ _ W _ _ _ _ rfl rfl (h4.here hW).rd (g4.here hW).rd
  have hno : sameBB m5 n5 = false → R = false := fun h => by rw [hR, h]; simp
  have hyes : sameBB m5 n5 = true → R = (decide (m0 = n0) && (decide (m1 = n1) && (decide (m2 = n2) && (sameB m3 n3 && (sameB m4 n4 && (true && (decide (m6 = n6) && (decide (m7 = n7) && (decide (m8 = n8) && (decide (m9 = n9) && (decide (m10 = n10)))))))))))) := fun h => by rw [hR, h]
  have H5 := hide h5.rd; have G5 := hide g5.rd; have HW := hide hW; have HK1 := hide hk1; have HK2 := hide hk2
  clear hW hk1 hk2 h3 h4 h5 g3 g4 g5 hR
  by_cases hne : m5.length = n5.length
  · have hno2 := fun k h1 h2 h => hno (sameBB_ne (xs := m5) (ys := n5) (k := k) h1 h2 h).symm
    have hall := fun h => hyes (sameBB_all (xs := m5) (ys := n5) hne h).symm
    have Hno := Lib.hid hno2; have Hall := Lib.hid hall; have Hne := hide hne
    have hnb : ((m5.length : Int) != n5.length) = false := by rw [hne]; simp
    have HP3 := Lib.hid hP3; have HP4 := Lib.hid hP4
    clear hno hno2 hall hyes hne hP3 hP4
    go_enter Try.func38, Try.ntmps38
    go_wp2
    go_loopw [16] (fun i wr => ∃ k : Nat, k ≤ m5.length ∧ i = .int .i64 k ∧ m5.take k = n5.take k ∧ Below w.heap.size w wr ∧ Bk wr w.heap.size 74 #[.int .i64 m0, .int .i64 m1, .int .i64 m2, mv3, mv4, .slice A5 m5.length c5, .int .i64 m6, .int .i64 m7, .int .i64 m8, .int .i64 m9, .bool m10] ∧ Bk wr (w.heap.size + 1) 74 #[.int .i64 n0, .int .i64 n1, .int .i64 n2, nv3, nv4, .slice C5 n5.length d5, .int .i64 n6, .int .i64 n7, .int .i64 n8, .int .i64 n9, .bool n10]) (fun i _ => m5.length - (intOf i).toNat)
    case atStart => exact ⟨0, by omega, rfl, rfl, HW.out, HK1.out, HK2.out⟩
    case round =>
      obtain ⟨k, hk, rfl, htk, hb, hk1, hk2⟩ := hrel
      have Htk := hide htk; clear htk
      have hl1 := hk1.lt; have hl2' := hk2.lt
      by_cases hlt : k < m5.length
      · have hky : k < n5.length := by rw [← Hne.out]; exact hlt
        obtain ⟨b, o, rfl, hbB, s0⟩ := H5.out.at_ (j := k) (by rw [bbcells_length]; exact hlt)
        obtain ⟨b2, o2, rfl, hbB2, t0⟩ := G5.out.at_ (j := k) (by rw [bbcells_length]; exact hky)
        rw [bbcells_get _ hlt] at s0
        rw [bbcells_get _ hky] at t0
        have e0 := (hb.cell (p := ⟨b, o + k, none⟩) hbB).trans s0
        have e1 := (hb.cell (p := ⟨b2, o2 + k, none⟩) hbB2).trans t0
        have p5 := hk1.cell 5
        have r5 := hk2.cell 5
        have hstep := fun h => take_snoc2B hlt hky h Htk.out
        have hfail := Hno.out k hlt hky
        have Hb := hide hb; have Hk1 := hide hk1; have Hk2 := hide hk2
        clear s0 t0 hb hk1 hk2 Hno Hall Htk
        generalize m5[k] = x at *
        generalize n5[k] = y at *
        by_cases hxy : x = y
        · have Hs := hide (hstep hxy); clear hstep hfail
          subst hxy
          go_wp2
          go_quiet (fail)
          go_wp2
          go_roundw
          case rel => exact ⟨k + 1, by omega, by go_num, Hs.out, below_drewN Hb.out _, Hk1.out.drewN _, Hk2.out.drewN _⟩
          case measure => simp [intOf]; omega
        · have HN := hide (hfail hxy); clear hstep hfail
          have hxb : (x != y) = true := by rw [bne_iff_ne]; exact hxy
          have hxc : (x == y) = false := by rw [beq_eq_false_iff_ne]; exact hxy
          clear hxy
          go_wp2
          go_quiet (fail)
          go_wp2
          go_ret
          exact ⟨retB HN.out.symm, below_drewN Hb.out _⟩
      · obtain rfl : k = m5.length := by omega
        have hR := Hall.out Htk.out
        have hP3 := HP3.out; have hP4 := HP4.out
        have Hb := hide hb
        have p0 := hk1.cell 0; have p1 := hk1.cell 1; have p2 := hk1.cell 2; have p3 := hk1.cell 3; have p4 := hk1.cell 4; have p6 := hk1.cell 6; have p7 := hk1.cell 7; have p8 := hk1.cell 8; have p9 := hk1.cell 9; have p10 := hk1.cell 10
        have r0 := hk2.cell 0; have r1 := hk2.cell 1; have r2 := hk2.cell 2; have r3 := hk2.cell 3; have r4 := hk2.cell 4; have r6 := hk2.cell 6; have r7 := hk2.cell 7; have r8 := hk2.cell 8; have r9 := hk2.cell 9; have r10 := hk2.cell 10
        clear hb hk1 hk2 Hno Hall Htk HP3 HP4 H5 G5 HK1 HK2 HW
        generalize hB0 : decide (m0 = n0) = B0 at hR
        generalize hB1 : decide (m1 = n1) = B1 at hR
        generalize hB2 : decide (m2 = n2) = B2 at hR
        generalize sameB m3 n3 = B3 at hR hP3
        generalize sameB m4 n4 = B4 at hR hP4
        generalize hB6 : decide (m6 = n6) = B6 at hR
        generalize hB7 : decide (m7 = n7) = B7 at hR
        generalize hB8 : decide (m8 = n8) = B8 at hR
        generalize hB9 : decide (m9 = n9) = B9 at hR
        generalize hB10 : decide (m10 = n10) = B10 at hR
        cases B0
        · have b0 := beq_eq_false_iff_ne.2 (of_decide_eq_false hB0); clear hB0
          have HR := hide (hR.trans (by rfl) : R = false)
          clear hR hB1 hB2 hB6 hB7 hB8 hB9 hB10 hP3 hP4
          go_wp2
          go_ret
          exact ⟨retB HR.out.symm, Hb.out⟩
        have e0 := of_decide_eq_true hB0; clear hB0; subst e0
        cases B1
        · have b1 := beq_eq_false_iff_ne.2 (of_decide_eq_false hB1); clear hB1
          have HR := hide (hR.trans (by rfl) : R = false)
          clear hR hB2 hB6 hB7 hB8 hB9 hB10 hP3 hP4
          go_wp2
          go_ret
          exact ⟨retB HR.out.symm, Hb.out⟩
        have e1 := of_decide_eq_true hB1; clear hB1; subst e1
        cases B2
        · have b2 := beq_eq_false_iff_ne.2 (of_decide_eq_false hB2); clear hB2
          have HR := hide (hR.trans (by rfl) : R = false)
          clear hR hB6 hB7 hB8 hB9 hB10 hP3 hP4
          go_wp2
          go_ret
          exact ⟨retB HR.out.symm, Hb.out⟩
        have e2 := of_decide_eq_true hB2; clear hB2; subst e2
        cases B3
        · skip
          have HR := hide (hR.trans (by rfl) : R = false)
          clear hR hB6 hB7 hB8 hB9 hB10 hP4
          have HP3 := hide hP3; clear hP3
          go_wp2_with (first
            | (go_at_call 39; refine ((HP3.out _ (by exact Hb.out))).mono ?_; rintro e w1 ⟨rfl, q1, rfl⟩; clear HP3))
          go_ret
          exact ⟨retB HR.out.symm, below_drewN Hb.out _⟩
        cases B4
        · skip
          have HR := hide (hR.trans (by rfl) : R = false)
          clear hR hB6 hB7 hB8 hB9 hB10
          have HP3 := hide hP3; clear hP3
          have HP4 := hide hP4; clear hP4
          go_wp2_with (first
            | (go_at_call 39; refine ((HP3.out _ (by exact Hb.out))).mono ?_; rintro e w1 ⟨rfl, q1, rfl⟩; clear HP3)
            | (go_at_call 39; refine ((HP4.out _ (by exact below_drewN Hb.out _))).mono ?_; rintro e w2 ⟨rfl, q2, rfl⟩; clear HP4))
          go_ret
          exact ⟨retB HR.out.symm, below_drewN Hb.out _⟩
        cases B6
        · have b6 := beq_eq_false_iff_ne.2 (of_decide_eq_false hB6); clear hB6
          have HR := hide (hR.trans (by rfl) : R = false)
          clear hR hB7 hB8 hB9 hB10
          have HP3 := hide hP3; clear hP3
          have HP4 := hide hP4; clear hP4
          go_wp2_with (first
            | (go_at_call 39; refine ((HP3.out _ (by exact Hb.out))).mono ?_; rintro e w1 ⟨rfl, q1, rfl⟩; clear HP3)
            | (go_at_call 39; refine ((HP4.out _ (by exact below_drewN Hb.out _))).mono ?_; rintro e w2 ⟨rfl, q2, rfl⟩; clear HP4))
          go_ret
          exact ⟨retB HR.out.symm, below_drewN Hb.out _⟩
        have e6 := of_decide_eq_true hB6; clear hB6; subst e6
        cases B7
        · have b7 := beq_eq_false_iff_ne.2 (of_decide_eq_false hB7); clear hB7
          have HR := hide (hR.trans (by rfl) : R = false)
          clear hR hB8 hB9 hB10
          have HP3 := hide hP3; clear hP3
          have HP4 := hide hP4; clear hP4
          go_wp2_with (first
            | (go_at_call 39; refine ((HP3.out _ (by exact Hb.out))).mono ?_; rintro e w1 ⟨rfl, q1, rfl⟩; clear HP3)
            | (go_at_call 39; refine ((HP4.out _ (by exact below_drewN Hb.out _))).mono ?_; rintro e w2 ⟨rfl, q2, rfl⟩; clear HP4))
          go_ret
          exact ⟨retB HR.out.symm, below_drewN Hb.out _⟩
        have e7 := of_decide_eq_true hB7; clear hB7; subst e7
        cases B8
        · have b8 := beq_eq_false_iff_ne.2 (of_decide_eq_false hB8); clear hB8
          have HR := hide (hR.trans (by rfl) : R = false)
          clear hR hB9 hB10
          have HP3 := hide hP3; clear hP3
          have HP4 := hide hP4; clear hP4
          go_wp2_with (first
            | (go_at_call 39; refine ((HP3.out _ (by exact Hb.out))).mono ?_; rintro e w1 ⟨rfl, q1, rfl⟩; clear HP3)
            | (go_at_call 39; refine ((HP4.out _ (by exact below_drewN Hb.out _))).mono ?_; rintro e w2 ⟨rfl, q2, rfl⟩; clear HP4))
          go_ret
          exact ⟨retB HR.out.symm, below_drewN Hb.out _⟩
        have e8 := of_decide_eq_true hB8; clear hB8; subst e8
        cases B9
        · have b9 := beq_eq_false_iff_ne.2 (of_decide_eq_false hB9); clear hB9
          have HR := hide (hR.trans (by rfl) : R = false)
          clear hR hB10
          have HP3 := hide hP3; clear hP3
          have HP4 := hide hP4; clear hP4
          go_wp2_with (first
            | (go_at_call 39; refine ((HP3.out _ (by exact Hb.out))).mono ?_; rintro e w1 ⟨rfl, q1, rfl⟩; clear HP3)
            | (go_at_call 39; refine ((HP4.out _ (by exact below_drewN Hb.out _))).mono ?_; rintro e w2 ⟨rfl, q2, rfl⟩; clear HP4))
          go_ret
          exact ⟨retB HR.out.symm, below_drewN Hb.out _⟩
        have e9 := of_decide_eq_true hB9; clear hB9; subst e9
        cases B10
        · have b10 := beq_eq_false_iff_ne.2 (of_decide_eq_false hB10); clear hB10
          have HR := hide (hR.trans (by rfl) : R = false)
          clear hR
          have HP3 := hide hP3; clear hP3
          have HP4 := hide hP4; clear hP4
          go_wp2_with (first
            | (go_at_call 39; refine ((HP3.out _ (by exact Hb.out))).mono ?_; rintro e w1 ⟨rfl, q1, rfl⟩; clear HP3)
            | (go_at_call 39; refine ((HP4.out _ (by exact below_drewN Hb.out _))).mono ?_; rintro e w2 ⟨rfl, q2, rfl⟩; clear HP4))
          go_ret
          exact ⟨retB HR.out.symm, below_drewN Hb.out _⟩
        have e10 := of_decide_eq_true hB10; clear hB10; subst e10
        have HR := hide (hR.trans (by rfl) : R = true)
        clear hR
        have HP3 := hide hP3; clear hP3
        have HP4 := hide hP4; clear hP4
        go_wp2_with (first
          | (go_at_call 39; refine ((HP3.out _ (by exact Hb.out))).mono ?_; rintro e w1 ⟨rfl, q1, rfl⟩; clear HP3)
          | (go_at_call 39; refine ((HP4.out _ (by exact below_drewN Hb.out _))).mono ?_; rintro e w2 ⟨rfl, q2, rfl⟩; clear HP4))
        go_ret
        exact ⟨retB HR.out.symm, below_drewN Hb.out _⟩
  · have HN := hide (hno (sameBB_len hne).symm)
    have hnb : ((m5.length : Int) != n5.length) = true := by rw [bne_iff_ne]; omega
    clear hno hyes hne hP3 hP4
    go_enter Try.func38, Try.ntmps38
    go_wp2
    go_ret
    exact ⟨retB HN.out.symm, HW.out⟩
end Go.Proofs.Ytaebmliolpgmdaa
