
/- areNamed, l5Named: what the Go text returns. No condition. -/
import Derived.Test.YtaebmliolpgmdaaNx
import Derived.Test.YtaebmliolpgmdaaIm2
import Derived.Test.YtaebmliolpgmdaaHtC
set_option linter.unusedSimpArgs false
set_option linter.unusedVariables false
set_option maxRecDepth 100000
namespace Go.Proofs.Ytaebmliolpgmdaa
open Go.RowKit

theorem raise_yes {o : Int} (h : raiseB o = true) : o = 4 ∨ o = 7 ∨ o = 13 ∨ o = 14 ∨ o = 16 ∨ o = 17 := of_decide_eq_true h
theorem raise_no {o : Int} (h : raiseB o = false) : o ≠ 4 ∧ o ≠ 7 ∧ o ≠ 13 ∧ o ≠ 14 ∧ o ≠ 16 ∧ o ≠ 17 := by
  have := of_decide_eq_false h; omega
theorem impl_mayRaise (o : Int) (w : World) : Calls Try.prog 76 #[.int .i64 o] w fun e w' => e = .returned (.bool (raiseB o)) ∧ w = w' := by
  cases h : raiseB o
  · obtain ⟨d1, d2, d3, d4, d5, d6⟩ := raise_no h
    have b1 := int_ne d1; have b2 := int_ne d2; have b3 := int_ne d3; have b4 := int_ne d4; have b5 := int_ne d5; have b6 := int_ne d6
    clear h d1 d2 d3 d4 d5 d6
    go_enter Try.func76, Try.ntmps76
    go_wp2
    go_ret
    exact ⟨rfl, rfl⟩
  · rcases raise_yes h with rfl | rfl | rfl | rfl | rfl | rfl
    all_goals
      clear h
      go_enter Try.func76, Try.ntmps76
      go_wp2
      go_ret
      exact ⟨rfl, rfl⟩
theorem spec_l5Raises (o : Int) (w : World) : Calls Try.prog 64 #[.int .i64 o] w fun e w' => e = .returned (.bool (raiseB o)) ∧ w = w' := by
  cases h : raiseB o
  · obtain ⟨d1, d2, d3, d4, d5, d6⟩ := raise_no h
    have b1 := int_ne d1; have b2 := int_ne d2; have b3 := int_ne d3; have b4 := int_ne d4; have b5 := int_ne d5; have b6 := int_ne d6
    clear h d1 d2 d3 d4 d5 d6
    go_enter Try.func64, Try.ntmps64
    go_wp2
    go_ret
    exact ⟨rfl, rfl⟩
  · rcases raise_yes h with rfl | rfl | rfl | rfl | rfl | rfl
    all_goals
      clear h
      go_enter Try.func64, Try.ntmps64
      go_wp2
      go_ret
      exact ⟨rfl, rfl⟩
theorem dec_lt {a b : Int} (h : a < b) : decide (a < b) = true := decide_eq_true h
theorem dec_ge {a b : Int} (h : ¬ a < b) : decide (a < b) = false := decide_eq_false h
set_option maxHeartbeats 3200000 in
theorem areNamed1 (o n nf vars : Int) (m0 : Int) (A A2 : Option Addr) (N c sn c2 : Nat) (v3 v4 : Value) (g2 g3 : Nat) (w : World) (hN : (N : Int) = nf) (h3 : Bk w g3 63 #[.int .i64 m0, .int .i64 vars, .slice A2 sn c2, v3, v4]) (h2 : Bk w g2 30 #[.slice A N c]) :
    Calls Try.prog 100 #[.agg #[.int .i64 o, .int .i64 n], .pointer (some ⟨g3, 0, none⟩), .pointer (some ⟨g2, 0, none⟩)] w fun e w' => e = .returned (.bool (!namedP nf vars sn ⟨o, n⟩)) ∧ Below w.heap.size w w' := by
  have hl3 := h3.lt
  have hl2 := h2.lt
  have p1 := h3.cell 1
  have p2 := h3.cell 2
  have q0 := h2.cell 0
  have Hb := hide ((Below.refl w.heap.size w).alloc (Nat.le_refl _) (.cells #[.int .i64 o, .int .i64 n] 93))
  subst hN
  clear h3 h2
  by_cases c1 : o = 2 ∨ o = 3
  · rw [named_var c1]
    rcases c1 with rfl | rfl
    all_goals
      by_cases h : n < vars
      · rw [dec_lt h]
        go_enter Try.func100, Try.ntmps100
        go_wp2
        go_ret
        exact ⟨retB (by first | (simp; omega) | simp), Hb.out⟩
      · rw [dec_ge h]
        go_enter Try.func100, Try.ntmps100
        go_wp2
        go_ret
        exact ⟨retB (by first | (simp; omega) | simp), Hb.out⟩
  by_cases c2' : o = 12 ∨ o = 17
  · rw [named_site c2']
    clear c1
    rcases c2' with rfl | rfl
    all_goals
      by_cases h : n < sn
      · rw [dec_lt h]
        go_enter Try.func100, Try.ntmps100
        go_wp2
        go_ret
        exact ⟨retB (by first | (simp; omega) | simp), Hb.out⟩
      · rw [dec_ge h]
        go_enter Try.func100, Try.ntmps100
        go_wp2
        go_ret
        exact ⟨retB (by first | (simp; omega) | simp), Hb.out⟩
  by_cases c3 : o = 7
  · subst c3
    rw [named_call]
    clear c1 c2'
    by_cases h : n < N
    · rw [dec_lt h]
      go_enter Try.func100, Try.ntmps100
      go_wp2
      go_ret
      exact ⟨retB (by first | (simp; omega) | simp), Hb.out⟩
    · rw [dec_ge h]
      go_enter Try.func100, Try.ntmps100
      go_wp2
      go_ret
      exact ⟨retB (by first | (simp; omega) | simp), Hb.out⟩
  · rw [named_other c1 c2' c3]
    have b1 : (o == 2) = false := int_ne (by omega)
    have b2 : (o == 3) = false := int_ne (by omega)
    have b3 : (o == 12) = false := int_ne (by omega)
    have b4 : (o == 17) = false := int_ne (by omega)
    have b5 : (o == 7) = false := int_ne (by omega)
    clear c1 c2' c3
    go_enter Try.func100, Try.ntmps100
    go_wp2
    go_ret
    exact ⟨rfl, Hb.out⟩
set_option maxHeartbeats 1600000 in
theorem impl_areNamed (xs cs : List Value) (x : ImageM) (m : CodeM) (w : World) (hx : RImage w 0 w.heap.size xs x) (hc : RCode w 0 w.heap.size cs m) :
    Calls Try.prog 69 #[.agg xs.toArray, .agg cs.toArray] w fun e w' => e = .returned (.bool (m.qIns.all (namedI x.qCodes.length m))) ∧ Below w.heap.size w w' := by
  obtain ⟨v0, rfl, h0⟩ := hx
  obtain ⟨l⟩ := x
  obtain ⟨m0, m1, l2, l3, l4⟩ := m
  obtain ⟨v2, v3, v4, rfl, h2, h3, h4⟩ := hc
  dsimp only at *
  obtain ⟨A, c, rfl⟩ := h0.form
  obtain ⟨A2, c2, rfl⟩ := h2.form
  obtain ⟨A3, c3, rfl⟩ := h3.form
  obtain ⟨A4, c4, rfl⟩ := h4.form
  have hb1 := (Below.refl w.heap.size w).alloc (Nat.le_refl _) (.cells #[.slice A l.length c] 30)
  have hb := hb1.alloc (by rw [World.size_alloc]; omega) (.cells #[.int .i64 m0, .int .i64 m1, .slice A2 l2.length c2, .slice A3 l3.length c3, .slice A4 l4.length c4] 63)
  have hk1 := (Bk.new w 30 #[.slice A l.length c]).alloc (.cells #[.int .i64 m0, .int .i64 m1, .slice A2 l2.length c2, .slice A3 l3.length c3, .slice A4 l4.length c4] 63)
  have hk2 := Bk.new (w.alloc (.cells #[.slice A l.length c] 30)) 63 #[.int .i64 m0, .int .i64 m1, .slice A2 l2.length c2, .slice A3 l3.length c3, .slice A4 l4.length c4]
  rw [World.size_alloc] at hk2
  have hC := anyIns (.slice A3 l3.length c3) l3 (fun t => !namedP l.length m1 l2.length t) 100 #[.pointer (some ⟨w.heap.size + 1, 0, none⟩), .pointer (some ⟨w.heap.size, 0, none⟩)] (enters_of Try.func100 (by kernel_rfl) rfl) _ ((h3.here hb).rd) (fun o n W hW => areNamed1 o n l.length m1 m0 A A2 l.length c l2.length c2 _ _ w.heap.size (w.heap.size + 1) W rfl (hk2.below hW) (hk1.below hW))
  have hR : l3.all (namedI l.length ⟨m0, m1, l2, l3, l4⟩) = !(l3.any fun t => !namedP l.length m1 l2.length t) := by
    rw [List.all_eq_not_any_not]; rfl
  rw [hR]
  generalize (l3.any fun t => !namedP l.length m1 l2.length t) = R at *
  have HC := hide hC; have Hb := hide hb; have Hk2 := hide hk2
  clear hC hb hb1 hk1 hk2 h0 h2 h3 h4 hR
  go_enter Try.func69, Try.ntmps69
  go_wp2_with (go_at_call 97; refine (HC.out).mono ?_; rintro e w1 ⟨rfl, hb1⟩)
  go_ret
  exact ⟨rfl, Hb.out.trans (hb1.mono Hb.out.size)⟩
theorem all_stepN {α : Type} {p : α → Bool} {l : List α} {k : Nat} (h : k < l.length) : (l.drop k).all p = (p l[k] && (l.drop (k + 1)).all p) := by
  rw [List.drop_eq_getElem_cons h]; rfl
set_option maxHeartbeats 3200000 in
theorem spec_l5Named (xs cs : List Value) (x : ImageM) (m : CodeM) (w : World) (hx : RImage w 0 w.heap.size xs x) (hc : RCode w 0 w.heap.size cs m) :
    Calls Try.prog 58 #[.agg xs.toArray, .agg cs.toArray] w fun e w' => e = .returned (.bool (m.qIns.all (namedI x.qCodes.length m))) ∧ Below w.heap.size w w' := by
  obtain ⟨v0, rfl, h0⟩ := hx
  obtain ⟨l⟩ := x
  obtain ⟨m0, m1, l2, l3, l4⟩ := m
  obtain ⟨v2, v3, v4, rfl, h2, h3, h4⟩ := hc
  dsimp only at *
  have hl := h0.long
  have hl2 := h2.long
  have hl3 := h3.long
  obtain ⟨A, c, rfl⟩ := h0.form
  obtain ⟨A2, c2, rfl⟩ := h2.form
  obtain ⟨A3, c3, rfl⟩ := h3.form
  obtain ⟨A4, c4, rfl⟩ := h4.form
  have hb1 := (Below.refl w.heap.size w).alloc (Nat.le_refl _) (.cells #[.slice A l.length c] 30)
  have hb := hb1.alloc (by rw [World.size_alloc]; omega) (.cells #[.int .i64 m0, .int .i64 m1, .slice A2 l2.length c2, .slice A3 l3.length c3, .slice A4 l4.length c4] 63)
  have hk1 := (Bk.new w 30 #[.slice A l.length c]).alloc (.cells #[.int .i64 m0, .int .i64 m1, .slice A2 l2.length c2, .slice A3 l3.length c3, .slice A4 l4.length c4] 63)
  have hk2 := Bk.new (w.alloc (.cells #[.slice A l.length c] 30)) 63 #[.int .i64 m0, .int .i64 m1, .slice A2 l2.length c2, .slice A3 l3.length c3, .slice A4 l4.length c4]
  rw [World.size_alloc] at hk2
  have hR : l3.all (namedI l.length ⟨m0, m1, l2, l3, l4⟩) = (l3.drop 0).all (namedP l.length m1 l2.length) := rfl
  rw [hR]
  generalize hR' : (l3.drop 0).all (namedP l.length m1 l2.length) = R
  have HR := hide hR'; have Hb := hide hb; have Hk1 := hide hk1; have Hk2 := hide hk2; have H3 := hide h3.rd
  clear hb hb1 hk1 hk2 h0 h2 h3 h4 hR hR'
  go_enter Try.func58, Try.ntmps58
  go_wp2
  go_loopw [10] (fun i wr => ∃ k : Nat, k ≤ l3.length ∧ i = .int .i64 k ∧ (l3.drop k).all (namedP l.length m1 l2.length) = R ∧ Below w.heap.size w wr ∧ Bk wr w.heap.size 30 #[.slice A l.length c] ∧ Bk wr (w.heap.size + 1) 63 #[.int .i64 m0, .int .i64 m1, .slice A2 l2.length c2, .slice A3 l3.length c3, .slice A4 l4.length c4]) (fun i _ => l3.length - (intOf i).toNat)
  case atStart => exact ⟨0, by omega, rfl, HR.out, Hb.out, Hk1.out, Hk2.out⟩
  case round =>
    obtain ⟨k, hk, rfl, hall, hb, hk1, hk2⟩ := hrel
    have hbs := hb.size
    have hl1 := hk1.lt
    have hl2' := hk2.lt
    by_cases hlt : k < l3.length
    · obtain ⟨b, o, rfl, hbB, t0, t1⟩ := H3.out.two hlt
      have s0 := (hb.cell (p := ⟨b, o + k * 2, none⟩) hbB).trans t0
      have s1 := (hb.cell (p := ⟨b, o + k * 2 + 1, none⟩) hbB).trans t1
      have hbw : b < wr.heap.size := by omega
      rw [all_stepN hlt] at hall
      have p1 := hk2.cell 1
      have p2 := hk2.cell 2
      have q0 := hk1.cell 0
      have HB := hide (hb.alloc hbs (.cells #[.int .i64 l3[k].o, .int .i64 l3[k].n] 93))
      have HK1 := hide (hk1.alloc (.cells #[.int .i64 l3[k].o, .int .i64 l3[k].n] 93))
      have HK2 := hide (hk2.alloc (.cells #[.int .i64 l3[k].o, .int .i64 l3[k].n] 93))
      clear hb hk1 hk2 t0 t1 H3
      generalize l3[k] = t at *
      obtain ⟨to, tn⟩ := t
      dsimp only at *
      have hyes : namedP l.length m1 l2.length ⟨to, tn⟩ = true → (l3.drop (k + 1)).all (namedP l.length m1 l2.length) = R := fun h => by rw [← hall, h, Bool.true_and]
      have hno : namedP l.length m1 l2.length ⟨to, tn⟩ = false → R = false := fun h => by rw [← hall, h, Bool.false_and]
      clear hall
      have Hyes := hide hyes; have Hno := hide hno; clear hyes hno
      by_cases c1 : to = 2 ∨ to = 3
      · rw [named_var c1] at Hyes Hno
        rcases c1 with rfl | rfl
        all_goals
          by_cases h : tn < m1
          · have HY := hide (Hyes.out (dec_lt h)); clear Hyes Hno
            go_wp2
            go_roundw
            case rel => exact ⟨k + 1, by omega, by go_num, HY.out, HB.out, HK1.out, HK2.out⟩
            case measure => simp [intOf]; omega
          · have HN := hide (Hno.out (dec_ge h)); clear Hyes Hno
            go_wp2
            go_ret
            exact ⟨retB HN.out.symm, HB.out⟩
      by_cases c2' : to = 12 ∨ to = 17
      · rw [named_site c2'] at Hyes Hno
        clear c1
        rcases c2' with rfl | rfl
        all_goals
          by_cases h : tn < l2.length
          · have HY := hide (Hyes.out (dec_lt h)); clear Hyes Hno
            go_wp2
            go_roundw
            case rel => exact ⟨k + 1, by omega, by go_num, HY.out, HB.out, HK1.out, HK2.out⟩
            case measure => simp [intOf]; omega
          · have HN := hide (Hno.out (dec_ge h)); clear Hyes Hno
            go_wp2
            go_ret
            exact ⟨retB HN.out.symm, HB.out⟩
      by_cases c3' : to = 7
      · subst c3'
        rw [named_call] at Hyes Hno
        clear c1 c2'
        by_cases h : tn < l.length
        · have HY := hide (Hyes.out (dec_lt h)); clear Hyes Hno
          go_wp2
          go_roundw
          case rel => exact ⟨k + 1, by omega, by go_num, HY.out, HB.out, HK1.out, HK2.out⟩
          case measure => simp [intOf]; omega
        · have HN := hide (Hno.out (dec_ge h)); clear Hyes Hno
          go_wp2
          go_ret
          exact ⟨retB HN.out.symm, HB.out⟩
      · have HY := hide (Hyes.out (named_other c1 c2' c3')); clear Hyes Hno
        have b1 : (to == 2) = false := int_ne (by omega)
        have b2 : (to == 3) = false := int_ne (by omega)
        have b3 : (to == 12) = false := int_ne (by omega)
        have b4 : (to == 17) = false := int_ne (by omega)
        have b5 : (to == 7) = false := int_ne (by omega)
        clear c1 c2' c3'
        go_wp2
        go_roundw
        case rel => exact ⟨k + 1, by omega, by go_num, HY.out, HB.out, HK1.out, HK2.out⟩
        case measure => simp [intOf]; omega
    · obtain rfl : k = l3.length := by omega
      rw [List.drop_length] at hall
      have HA := hide hall; have HB := hide hb; clear hall hb hk1 hk2
      go_wp2
      go_ret
      exact ⟨retB HA.out, HB.out⟩
end Go.Proofs.Ytaebmliolpgmdaa
