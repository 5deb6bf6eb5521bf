
/- areNamed, l5Named: what the Go text returns. No condition. -/
import Derived.Test.YtaebmliolpgmdaaGreatNx
import Derived.Test.YtaebmliolpgmdaaGreatIm2
import Derived.Test.YtaebmliolpgmdaaGreatHtC
import Derived.Deep.RegionHeld3
set_option linter.unusedSimpArgs false
set_option linter.unusedVariables false
set_option maxRecDepth 100000
namespace Go.Proofs.YtaebmliolpgmdaaGreat
open Go.RowKit

theorem raise_yes {o : Int} (h : raiseB o = true) : o = 4 ∨ o = 7 ∨ o = 13 ∨ o = 14 ∨ o = 16 ∨ o = 17 := of_decide_eq_true h
theorem raise_no {o : Int} (h : raiseB o = false) : o ≠ 4 ∧ o ≠ 7 ∧ o ≠ 13 ∧ o ≠ 14 ∧ o ≠ 16 ∧ o ≠ 17 := by
  have := of_decide_eq_false h; omega
theorem impl_mayRaise (o : Int) (w : World) : Calls Tryz.prog 57 #[.int .i64 o] w fun e w' => e = .returned (.bool (raiseB o)) ∧ w = w' := by
  cases h : raiseB o
  · obtain ⟨d1, d2, d3, d4, d5, d6⟩ := raise_no h
    have b1 := int_ne d1; have b2 := int_ne d2; have b3 := int_ne d3; have b4 := int_ne d4; have b5 := int_ne d5; have b6 := int_ne d6
    clear h d1 d2 d3 d4 d5 d6
    go_enter Tryz.func57, Tryz.ntmps57
    go_wp2
    go_ret
    exact ⟨rfl, rfl⟩
  · rcases raise_yes h with rfl | rfl | rfl | rfl | rfl | rfl
    all_goals
      clear h
      go_enter Tryz.func57, Tryz.ntmps57
      go_wp2
      go_ret
      exact ⟨rfl, rfl⟩
theorem spec_l5Raises (o : Int) (w : World) : Calls Tryz.prog 81 #[.int .i64 o] w fun e w' => e = .returned (.bool (raiseB o)) ∧ w = w' := by
  cases h : raiseB o
  · obtain ⟨d1, d2, d3, d4, d5, d6⟩ := raise_no h
    have b1 := int_ne d1; have b2 := int_ne d2; have b3 := int_ne d3; have b4 := int_ne d4; have b5 := int_ne d5; have b6 := int_ne d6
    clear h d1 d2 d3 d4 d5 d6
    go_enter Tryz.func81, Tryz.ntmps81
    go_wp2
    go_ret
    exact ⟨rfl, rfl⟩
  · rcases raise_yes h with rfl | rfl | rfl | rfl | rfl | rfl
    all_goals
      clear h
      go_enter Tryz.func81, Tryz.ntmps81
      go_wp2
      go_ret
      exact ⟨rfl, rfl⟩
theorem dec_lt {a b : Int} (h : a < b) : decide (a < b) = true := decide_eq_true h
theorem dec_ge {a b : Int} (h : ¬ a < b) : decide (a < b) = false := decide_eq_false h
set_option maxHeartbeats 3200000 in
theorem areNamed1 (o n nf vars : Int) (m0 : Int) (A A2 : Option Addr) (N c sn c2 : Nat) (v3 v4 : Value) (g2 g3 : Nat) (w : World) (hN : (N : Int) = nf) (h3 : Bk w g3 58 #[.int .i64 m0, .int .i64 vars, .slice A2 sn c2, v3, v4]) (h2 : Bk w g2 31 #[.slice A N c]) :
    Calls Tryz.prog 89 #[.agg #[.int .i64 o, .int .i64 n], .pointer (some ⟨g3, 0, none⟩), .pointer (some ⟨g2, 0, none⟩)] w fun e w' => e = .returned (.bool (!namedP nf vars sn ⟨o, n⟩)) ∧ Below w.heap.size w w' := by
  have hl3 := h3.lt
  have hl2 := h2.lt
  have p1 := h3.cell 1
  have p2 := h3.cell 2
  have q0 := h2.cell 0
  have Hb := hide ((Below.refl w.heap.size w).alloc (Nat.le_refl _) (.cells #[.int .i64 o, .int .i64 n] 84))
  subst hN
  clear h3 h2
  by_cases c1 : o = 2 ∨ o = 3
  · rw [named_var c1]
    rcases c1 with rfl | rfl
    all_goals
      by_cases h : n < vars
      · rw [dec_lt h]
        go_enter Tryz.func89, Tryz.ntmps89
        go_wp2
        go_ret
        exact ⟨retB (by first | (simp; omega) | simp), Hb.out⟩
      · rw [dec_ge h]
        go_enter Tryz.func89, Tryz.ntmps89
        go_wp2
        go_ret
        exact ⟨retB (by first | (simp; omega) | simp), Hb.out⟩
  by_cases c2' : o = 12 ∨ o = 17
  · rw [named_site c2']
    clear c1
    rcases c2' with rfl | rfl
    all_goals
      by_cases h : n < sn
      · rw [dec_lt h]
        go_enter Tryz.func89, Tryz.ntmps89
        go_wp2
        go_ret
        exact ⟨retB (by first | (simp; omega) | simp), Hb.out⟩
      · rw [dec_ge h]
        go_enter Tryz.func89, Tryz.ntmps89
        go_wp2
        go_ret
        exact ⟨retB (by first | (simp; omega) | simp), Hb.out⟩
  by_cases c3 : o = 7
  · subst c3
    rw [named_call]
    clear c1 c2'
    by_cases h : n < N
    · rw [dec_lt h]
      go_enter Tryz.func89, Tryz.ntmps89
      go_wp2
      go_ret
      exact ⟨retB (by first | (simp; omega) | simp), Hb.out⟩
    · rw [dec_ge h]
      go_enter Tryz.func89, Tryz.ntmps89
      go_wp2
      go_ret
      exact ⟨retB (by first | (simp; omega) | simp), Hb.out⟩
  · rw [named_other c1 c2' c3]
    have b1 : (o == 2) = false := int_ne (by omega)
    have b2 : (o == 3) = false := int_ne (by omega)
    have b3 : (o == 12) = false := int_ne (by omega)
    have b4 : (o == 17) = false := int_ne (by omega)
    have b5 : (o == 7) = false := int_ne (by omega)
    clear c1 c2' c3
    go_enter Tryz.func89, Tryz.ntmps89
    go_wp2
    go_ret
    exact ⟨rfl, Hb.out⟩
set_option maxHeartbeats 1600000 in
theorem impl_areNamed (xs cs : List Value) (x : ImageM) (m : CodeM) (w : World) (hx : RImage w 0 w.heap.size xs x) (hc : RCode w 0 w.heap.size cs m) :
    Calls Tryz.prog 50 #[.agg xs.toArray, .agg cs.toArray] w fun e w' => e = .returned (.bool (m.qIns.all (namedI x.qCodes.length m))) ∧ Below w.heap.size w w' := by
  obtain ⟨v0, rfl, h0⟩ := hx
  obtain ⟨l⟩ := x
  obtain ⟨m0, m1, l2, l3, l4⟩ := m
  obtain ⟨v2, v3, v4, rfl, h2, h3, h4⟩ := hc
  dsimp only at *
  obtain ⟨A, c, rfl⟩ := h0.form
  obtain ⟨A2, c2, rfl⟩ := h2.form
  obtain ⟨A3, c3, rfl⟩ := h3.form
  obtain ⟨A4, c4, rfl⟩ := h4.form
  have hb1 := (Below.refl w.heap.size w).alloc (Nat.le_refl _) (.cells #[.slice A l.length c] 31)
  have hb := hb1.alloc (by rw [World.size_alloc]; omega) (.cells #[.int .i64 m0, .int .i64 m1, .slice A2 l2.length c2, .slice A3 l3.length c3, .slice A4 l4.length c4] 58)
  have hk1 := (Bk.new w 31 #[.slice A l.length c]).alloc (.cells #[.int .i64 m0, .int .i64 m1, .slice A2 l2.length c2, .slice A3 l3.length c3, .slice A4 l4.length c4] 58)
  have hk2 := Bk.new (w.alloc (.cells #[.slice A l.length c] 31)) 58 #[.int .i64 m0, .int .i64 m1, .slice A2 l2.length c2, .slice A3 l3.length c3, .slice A4 l4.length c4]
  rw [World.size_alloc] at hk2
  have hC := anyIns (.slice A3 l3.length c3) l3 (fun t => !namedP l.length m1 l2.length t) 89 #[.pointer (some ⟨w.heap.size + 1, 0, none⟩), .pointer (some ⟨w.heap.size, 0, none⟩)] (enters_of Tryz.func89 (by kernel_rfl) rfl) _ ((h3.here hb).rd) (fun o n W hW => areNamed1 o n l.length m1 m0 A A2 l.length c l2.length c2 _ _ w.heap.size (w.heap.size + 1) W rfl (hk2.below hW) (hk1.below hW))
  have hR : l3.all (namedI l.length ⟨m0, m1, l2, l3, l4⟩) = !(l3.any fun t => !namedP l.length m1 l2.length t) := by
    rw [List.all_eq_not_any_not]; rfl
  rw [hR]
  generalize (l3.any fun t => !namedP l.length m1 l2.length t) = R at *
  have HC := hide hC; have Hb := hide hb; have Hk2 := hide hk2
  clear hC hb hb1 hk1 hk2 h0 h2 h3 h4 hR
  go_enter Tryz.func50, Tryz.ntmps50
  go_wp2_with (go_at_call 86; refine (HC.out).mono ?_; rintro e w1 ⟨rfl, hb1⟩)
  go_ret
  exact ⟨rfl, Hb.out.trans (hb1.mono Hb.out.size)⟩
theorem all_stepN {α : Type} {p : α → Bool} {l : List α} {k : Nat} (h : k < l.length) : (l.drop k).all p = (p l[k] && (l.drop (k + 1)).all p) := by
  rw [List.drop_eq_getElem_cons h]; rfl
set_option maxHeartbeats 3200000 in
theorem spec_l5Named (xs cs : List Value) (x : ImageM) (m : CodeM) (w : World) (hx : RImage w 0 w.heap.size xs x) (hc : RCode w 0 w.heap.size cs m) :
    Calls Tryz.prog 76 #[.agg xs.toArray, .agg cs.toArray] w fun e w' => e = .returned (.bool (m.qIns.all (namedI x.qCodes.length m))) ∧ Below w.heap.size w w' := by
  obtain ⟨v0, rfl, h0⟩ := hx
  obtain ⟨l⟩ := x
  obtain ⟨m0, m1, l2, l3, l4⟩ := m
  obtain ⟨v2, v3, v4, rfl, h2, h3, h4⟩ := hc
  dsimp only at *
  have hl := h0.long
  have hl2 := h2.long
  have hl3 := h3.long
  obtain ⟨A, c, rfl⟩ := h0.form
  obtain ⟨A2, c2, rfl⟩ := h2.form
  obtain ⟨A3, c3, rfl⟩ := h3.form
  obtain ⟨A4, c4, rfl⟩ := h4.form
  have hb1 := (Below.refl w.heap.size w).alloc (Nat.le_refl _) (.cells #[.slice A l.length c] 31)
  have hb := hb1.alloc (by rw [World.size_alloc]; omega) (.cells #[.int .i64 m0, .int .i64 m1, .slice A2 l2.length c2, .slice A3 l3.length c3, .slice A4 l4.length c4] 58)
  have hk1 := (Bk.new w 31 #[.slice A l.length c]).alloc (.cells #[.int .i64 m0, .int .i64 m1, .slice A2 l2.length c2, .slice A3 l3.length c3, .slice A4 l4.length c4] 58)
  have hk2 := Bk.new (w.alloc (.cells #[.slice A l.length c] 31)) 58 #[.int .i64 m0, .int .i64 m1, .slice A2 l2.length c2, .slice A3 l3.length c3, .slice A4 l4.length c4]
  rw [World.size_alloc] at hk2
  have hR : l3.all (namedI l.length ⟨m0, m1, l2, l3, l4⟩) = (l3.drop 0).all (namedP l.length m1 l2.length) := rfl
  rw [hR]
  generalize hR' : (l3.drop 0).all (namedP l.length m1 l2.length) = R
  have HR := hide hR'; have Hb := hide hb; have Hk1 := hide hk1; have Hk2 := hide hk2; have H3 := hide h3.rd
  clear hb hb1 hk1 hk2 h0 h2 h3 h4 hR hR'
  go_enter Tryz.func76, Tryz.ntmps76
  go_wp2
  go_loopw [10] (fun i wr => ∃ k : Nat, k ≤ l3.length ∧ i = .int .i64 k ∧ (l3.drop k).all (namedP l.length m1 l2.length) = R ∧ Below w.heap.size w wr ∧ Bk wr w.heap.size 31 #[.slice A l.length c] ∧ Bk wr (w.heap.size + 1) 58 #[.int .i64 m0, .int .i64 m1, .slice A2 l2.length c2, .slice A3 l3.length c3, .slice A4 l4.length c4]) (fun i _ => l3.length - (intOf i).toNat)
  case atStart => exact ⟨0, by omega, rfl, HR.out, Hb.out, Hk1.out, Hk2.out⟩
  case round =>
    obtain ⟨k, hk, rfl, hall, hb, hk1, hk2⟩ := hrel
    have hbs := hb.size
    have hl1 := hk1.lt
    have hl2' := hk2.lt
    by_cases hlt : k < l3.length
    · obtain ⟨b, o, rfl, hbB, t0, t1⟩ := H3.out.two hlt
      have s0 := (hb.cell (p := ⟨b, o + k * 2, none⟩) hbB).trans t0
      have s1 := (hb.cell (p := ⟨b, o + k * 2 + 1, none⟩) hbB).trans t1
      have hbw : b < wr.heap.size := by omega
      rw [all_stepN hlt] at hall
      have p1 := hk2.cell 1
      have p2 := hk2.cell 2
      have q0 := hk1.cell 0
      have HB := hide (hb.alloc hbs (.cells #[.int .i64 l3[k].o, .int .i64 l3[k].n] 84))
      have HK1 := hide (hk1.alloc (.cells #[.int .i64 l3[k].o, .int .i64 l3[k].n] 84))
      have HK2 := hide (hk2.alloc (.cells #[.int .i64 l3[k].o, .int .i64 l3[k].n] 84))
      clear hb hk1 hk2 t0 t1 H3
      generalize l3[k] = t at *
      obtain ⟨to, tn⟩ := t
      dsimp only at *
      have hyes : namedP l.length m1 l2.length ⟨to, tn⟩ = true → (l3.drop (k + 1)).all (namedP l.length m1 l2.length) = R := fun h => by rw [← hall, h, Bool.true_and]
      have hno : namedP l.length m1 l2.length ⟨to, tn⟩ = false → R = false := fun h => by rw [← hall, h, Bool.false_and]
      clear hall
      have Hyes := hide hyes; have Hno := hide hno; clear hyes hno
      by_cases c1 : to = 2 ∨ to = 3
      · rw [named_var c1] at Hyes Hno
        rcases c1 with rfl | rfl
        all_goals
          by_cases h : tn < m1
          · have HY := hide (Hyes.out (dec_lt h)); clear Hyes Hno
            go_wp2
            go_roundw
            case rel => exact ⟨k + 1, by omega, by go_num, HY.out, HB.out, HK1.out, HK2.out⟩
            case measure => simp [intOf]; omega
          · have HN := hide (Hno.out (dec_ge h)); clear Hyes Hno
            go_wp2
            go_ret
            exact ⟨retB HN.out.symm, HB.out⟩
      by_cases c2' : to = 12 ∨ to = 17
      · rw [named_site c2'] at Hyes Hno
        clear c1
        rcases c2' with rfl | rfl
        all_goals
          by_cases h : tn < l2.length
          · have HY := hide (Hyes.out (dec_lt h)); clear Hyes Hno
            go_wp2
            go_roundw
            case rel => exact ⟨k + 1, by omega, by go_num, HY.out, HB.out, HK1.out, HK2.out⟩
            case measure => simp [intOf]; omega
          · have HN := hide (Hno.out (dec_ge h)); clear Hyes Hno
            go_wp2
            go_ret
            exact ⟨retB HN.out.symm, HB.out⟩
      by_cases c3' : to = 7
      · subst c3'
        rw [named_call] at Hyes Hno
        clear c1 c2'
        by_cases h : tn < l.length
        · have HY := hide (Hyes.out (dec_lt h)); clear Hyes Hno
          go_wp2
          go_roundw
          case rel => exact ⟨k + 1, by omega, by go_num, HY.out, HB.out, HK1.out, HK2.out⟩
          case measure => simp [intOf]; omega
        · have HN := hide (Hno.out (dec_ge h)); clear Hyes Hno
          go_wp2
          go_ret
          exact ⟨retB HN.out.symm, HB.out⟩
      · have HY := hide (Hyes.out (named_other c1 c2' c3')); clear Hyes Hno
        have b1 : (to == 2) = false := int_ne (by omega)
        have b2 : (to == 3) = false := int_ne (by omega)
        have b3 : (to == 12) = false := int_ne (by omega)
        have b4 : (to == 17) = false := int_ne (by omega)
        have b5 : (to == 7) = false := int_ne (by omega)
        clear c1 c2' c3'
        go_wp2
        go_roundw
        case rel => exact ⟨k + 1, by omega, by go_num, HY.out, HB.out, HK1.out, HK2.out⟩
        case measure => simp [intOf]; omega
    · obtain rfl : k = l3.length := by omega
      rw [List.drop_length] at hall
      have HA := hide hall; have HB := hide hb; clear hall hb hk1 hk2
      go_wp2
      go_ret
      exact ⟨retB HA.out, HB.out⟩
end Go.Proofs.YtaebmliolpgmdaaGreat
set_option linter.unusedSimpArgs false
set_option linter.unusedVariables false
set_option maxRecDepth 100000
namespace Go.Proofs.YtaebmliolpgmdaaGreat
open Go.RowKit

theorem anyIntC (v : Value) (l : List Int) (p : Int → Bool) (g : Nat) (lb : Array Value) (eg : ∀ args w, (callFunc g args).run Tryz.prog w = .ok (.enter g args) w) (w : World) (hr : Rd w w.heap.size v l.length (icells .i64 l))
    (hp : ∀ n W, Below w.heap.size w W → Calls Tryz.prog g (#[.int .i64 n] ++ lb) W fun e w' => e = .returned (.bool (p n)) ∧ Below W.heap.size W w') :
    Calls Tryz.prog 51 #[v, .func (.func g) #[] lb] w fun e w' => e = .returned (.bool (l.any p)) ∧ Below w.heap.size w w' := by
  have hl := hr.long
  obtain ⟨A, c, rfl, hn, hc, hcell⟩ := id hr
  rw [← anyq_list (q := fun j => p (l.getD j 0)) (p := p) (l := l) (fun j hj => by simp [List.getD, List.getElem?_eq_getElem hj])]
  refine cfI A l.length c (fun j => .int .i64 (l.getD j 0)) _ g lb eg w hl (fun j hj => ?_) (fun j hj W hW => hp _ W hW)
  obtain ⟨b, o, hA, hbB, hs⟩ := hr.at_ (j := j) (by rw [icells_length]; exact hj)
  rw [icells_get _ _ hj] at hs
  exact ⟨b, o, hA, hbB, by rw [hs]; simp [List.getD, List.getElem?_eq_getElem hj]⟩
theorem site_out {l : List CodeM} {n : Int} (h : inB n 0 (l.length - 1) = false) : siteI l n = false := by unfold siteI; rw [h]; rfl
theorem site_in {l : List CodeM} {k : Nat} (h : inB (k : Int) 0 (l.length - 1) = true) (hk : k < l.length) : siteI l k = decide (l[k].qParams = 0) := by
  unfold siteI; rw [h, Bool.true_and, Int.toNat_natCast]
  simp [List.getD, List.getElem?_eq_getElem hk]
theorem in_nat {n : Int} {N : Nat} (h : inB n 0 (N - 1) = true) : ∃ k : Nat, n = (k : Int) ∧ k < N := by
  have := inB_iff.1 h
  exact ⟨n.toNat, by omega, by omega⟩
set_option maxHeartbeats 1600000 in
theorem checkCode1 (n : Int) (A : Option Addr) (c : Nat) (l : List CodeM) (g : Nat) (w : World) (hk : Bk w g 31 #[.slice A l.length c]) (hr : RL RCode 5 w 0 w.heap.size (.slice A l.length c) l) (hl : l.length ≤ 5) :
    Calls Tryz.prog 52 #[.int .i64 n, .pointer (some ⟨g, 0, none⟩)] w fun e w' => e = .returned (.bool (!siteI l n)) ∧ Below w.heap.size w w' := by
  have hgl := hk.lt
  have q0 := hk.cell 0
  have hw := impl_within n 0 (l.length - 1) w
  clear hk
  cases h : inB n 0 (l.length - 1)
  · rw [h] at hw
    rw [site_out h]
    have HW := hide hw; clear h hw hr
    go_enter Tryz.func52, Tryz.ntmps52
    go_wp2_with (go_at_call 24; refine (HW.out).mono ?_; rintro e w1 ⟨rfl, rfl⟩)
    go_ret
    exact ⟨rfl, Below.refl _ _⟩
  · obtain ⟨k, rfl, hkl⟩ := in_nat h
    rw [h] at hw
    rw [site_in h hkl]
    obtain ⟨b, o, v2, v3, v4, rfl, hbB, e0, -, -, -, -, -⟩ := RCode_at hr hkl
    have HW := hide hw; clear h hw hr
    have hkI : (k : Int) < (l.length : Int) := by omega
    have hk0 : (0 : Int) ≤ (k : Int) := by omega
    generalize l[k].qParams = p at *
    by_cases hp : p = 0
    · subst hp
      go_enter Tryz.func52, Tryz.ntmps52
      go_wp2_with (go_at_call 24; refine (HW.out).mono ?_; rintro e w1 ⟨rfl, rfl⟩)
      go_ret
      exact ⟨rfl, Below.refl _ _⟩
    · have hpb : (p != 0) = true := by rw [bne_iff_ne]; exact hp
      rw [decide_eq_false hp]
      clear hp
      go_enter Tryz.func52, Tryz.ntmps52
      go_wp2_with (go_at_call 24; refine (HW.out).mono ?_; rintro e w1 ⟨rfl, rfl⟩)
      go_ret
      exact ⟨rfl, Below.refl _ _⟩
set_option maxHeartbeats 3200000 in
theorem spec_l5SitesGood (xs cs : List Value) (x : ImageM) (m : CodeM) (w : World) (hx : RImage w 0 w.heap.size xs x) (hc : RCode w 0 w.heap.size cs m) (hl5 : x.qCodes.length ≤ 5) :
    Calls Tryz.prog 77 #[.agg xs.toArray, .agg cs.toArray] w fun e w' => e = .returned (.bool (m.qSites.all (siteI x.qCodes))) ∧ Below w.heap.size w w' := by
  obtain ⟨v0, rfl, h0⟩ := hx
  obtain ⟨l⟩ := x
  obtain ⟨m0, m1, l2, l3, l4⟩ := m
  obtain ⟨v2, v3, v4, rfl, h2, h3, h4⟩ := hc
  dsimp only at *
  have hl2 := h2.long
  obtain ⟨A, c, rfl⟩ := h0.form
  obtain ⟨A2, c2, rfl⟩ := h2.form
  obtain ⟨A3, c3, rfl⟩ := h3.form
  obtain ⟨A4, c4, rfl⟩ := h4.form
  have hb1 := (Below.refl w.heap.size w).alloc (Nat.le_refl _) (.cells #[.slice A l.length c] 31)
  have hb := hb1.alloc (by rw [World.size_alloc]; omega) (.cells #[.int .i64 m0, .int .i64 m1, .slice A2 l2.length c2, .slice A3 l3.length c3, .slice A4 l4.length c4] 58)
  have hk1 := (Bk.new w 31 #[.slice A l.length c]).alloc (.cells #[.int .i64 m0, .int .i64 m1, .slice A2 l2.length c2, .slice A3 l3.length c3, .slice A4 l4.length c4] 58)
  generalize hR' : (l2.drop 0).all (siteI l) = R
  have hR : l2.all (siteI l) = R := hR'
  rw [hR]
  have HR := hide hR'; have Hb := hide hb; have Hk1 := hide hk1; have H2 := hide h2.rd; have H0 := hide h0
  clear hb hb1 hk1 h0 h2 h3 h4 hR hR'
  go_enter Tryz.func77, Tryz.ntmps77
  go_wp2
  go_loop [10] (fun i => ∃ k : Nat, k ≤ l2.length ∧ i = .int .i64 k ∧ (l2.drop k).all (siteI l) = R) (fun i => l2.length - (intOf i).toNat)
  case atStart => exact ⟨0, by omega, rfl, HR.out⟩
  case round =>
    obtain ⟨k, hk, rfl, hall⟩ := hrel
    by_cases hlt : k < l2.length
    · obtain ⟨b, o, rfl, hbB, s0⟩ := H2.out.at_ (j := k) (by rw [icells_length]; exact hlt)
      rw [icells_get _ _ hlt] at s0
      rw [all_stepN hlt] at hall
      generalize l2[k] = n at *
      have hyes : siteI l n = true → (l2.drop (k + 1)).all (siteI l) = R := fun h => by rw [← hall, h, Bool.true_and]
      have hno : siteI l n = false → R = false := fun h => by rw [← hall, h, Bool.false_and]
      have hw := fun w => spec_l1In n 0 (l.length - 1) w
      have q0 := Hk1.out.cell 0
      have s0' := (Hb.out.cell (p := ⟨b, o + k, none⟩) hbB).trans s0
      clear hall H2 s0
      cases h : inB n 0 (l.length - 1)
      · simp only [h] at hw
        have HN := hide (hno (site_out h)); have HW := Lib.hid hw; clear hyes hno hw h
        go_wp2_with (go_at_call 42; refine (HW.out _).mono ?_; rintro e w1 ⟨rfl, rfl⟩)
        go_ret
        exact ⟨retB HN.out.symm, Hb.out⟩
      · obtain ⟨j, rfl, hj⟩ := in_nat h
        simp only [h] at hw
        have hsi := site_in h hj
        obtain ⟨b2, o2, v2, v3, v4, rfl, hbB2, e0, -, -, -, -, -⟩ := RCode_at H0.out hj
        have e0' := (Hb.out.cell (p := ⟨b2, o2 + j * 5, none⟩) hbB2).trans e0
        have hjI : (j : Int) < (l.length : Int) := by omega
        have hj0 : (0 : Int) ≤ (j : Int) := by omega
        rw [hsi] at hyes hno
        have HW := Lib.hid hw; clear hw h hsi e0 H0
        generalize l[j].qParams = p at *
        by_cases hp : p = 0
        · have HY := hide (hyes (decide_eq_true hp)); clear hyes hno
          subst hp
          go_wp2_with (go_at_call 42; refine (HW.out _).mono ?_; rintro e w1 ⟨rfl, rfl⟩)
          go_round
          case rel => exact ⟨k + 1, by omega, by go_num, HY.out⟩
          case measure => simp [intOf]; omega
        · have hpb : (p != 0) = true := by rw [bne_iff_ne]; exact hp
          have HN := hide (hno (decide_eq_false hp)); clear hyes hno hp
          go_wp2_with (go_at_call 42; refine (HW.out _).mono ?_; rintro e w1 ⟨rfl, rfl⟩)
          go_ret
          exact ⟨retB HN.out.symm, Hb.out⟩
    · obtain rfl : k = l2.length := by omega
      rw [List.drop_length] at hall
      have HA := hide hall; clear hall
      go_wp2
      go_ret
      exact ⟨retB HA.out, Hb.out⟩

theorem below_undrewG {B : Nat} {a w : World} (h : Below B a.drew w) : Below B a w := ⟨h.os, h.tape, h.output, h.size, h.block⟩
theorem next_ge {t : P2} {a : Int} (h : insOk t = true) (ha : 0 ≤ a) : ∀ n ∈ nextI t a, 0 ≤ n := by
  obtain ⟨o, n⟩ := t
  have hn : o = 10 ∨ o = 11 → 0 ≤ n := fun ho => by
    rw [insOk_n (by omega) (by omega) (by unfold hasNB; exact decide_eq_true (by omega))] at h
    exact (inB_iff.1 h).1
  intro m hm
  unfold nextI at hm
  dsimp only at hm
  split at hm
  · next ho => rw [List.mem_singleton] at hm; have := hn (.inl ho); omega
  split at hm
  · next ho =>
    have := hn (.inr ho)
    simp only [putL] at hm
    split at hm
    · simp at hm; omega
    · split at hm
      · simp at hm; omega
      · simp at hm; omega
  split at hm
  · cases hm
  · rw [List.mem_singleton] at hm; omega
theorem any_out {t : P2} {a : Int} {N : Nat} (h : insOk t = true) (ha : 0 ≤ a) : ((nextI t a).any fun n => decide ((N : Int) ≤ n)) = !((nextI t a).all fun n => inB n 0 (N - 1)) := by
  have hg := next_ge h ha
  rw [List.all_eq_not_any_not, Bool.not_not]
  generalize nextI t a = L at *
  clear h
  induction L with
  | nil => rfl
  | cons x L ih =>
    rw [List.any_cons, List.any_cons, ih (fun n hn => hg n (List.mem_cons_of_mem _ hn))]
    congr 1
    have h0 := hg x List.mem_cons_self
    unfold inB
    by_cases hx : (N : Int) ≤ x
    · rw [decide_eq_true hx, decide_eq_false (by omega)]; rfl
    · rw [decide_eq_false hx, decide_eq_true (by omega)]; rfl
theorem goesOn1 (n : Int) (A : Option Addr) (c N g : Nat) (w : World) (hk : Bk w g 55 #[.slice A N c]) :
    Calls Tryz.prog 92 #[.int .i64 n, .pointer (some ⟨g, 0, none⟩)] w fun e w' => e = .returned (.bool (decide ((N : Int) ≤ n))) ∧ Below w.heap.size w w' := by
  have hgl := hk.lt
  have q0 := hk.cell 0
  clear hk
  by_cases h : (N : Int) ≤ n
  · rw [decide_eq_true h]
    go_enter Tryz.func92, Tryz.ntmps92
    go_wp2
    go_ret
    exact ⟨retB (by first | (simp; omega) | simp), Below.refl _ _⟩
  · rw [decide_eq_false h]
    go_enter Tryz.func92, Tryz.ntmps92
    go_wp2
    go_ret
    exact ⟨retB (by first | (simp; omega) | simp), Below.refl _ _⟩
set_option maxHeartbeats 3200000 in
theorem impl_goesOn (v : Value) (l : List P2) (w : World) (hr : Rd w w.heap.size v l.length (pcells l)) (hl : l.length ≤ 300) (hok : ∀ t ∈ l, insOk t = true) :
    Calls Tryz.prog 53 #[v] w fun e w' => e = .returned (.bool (goesL l.length 0 l)) ∧ Below w.heap.size w w' := by
  obtain ⟨A, c, rfl, _, _, _⟩ := id hr
  have eg := enters_of Tryz.func92 (by kernel_rfl) rfl
  generalize hR' : goesL l.length 0 (l.drop 0) = R
  have hR : goesL l.length 0 l = R := hR'
  rw [hR]
  have HR := hide hR'; have Hr := hide hr; have Hok := hide hok
  have Hb := hide ((Below.refl w.heap.size w).alloc (Nat.le_refl _) (.cells #[.slice A l.length c] 55))
  have Hk := hide (Bk.new w 55 #[.slice A l.length c])
  have Eg := Lib.hid eg
  clear hR hR' hr hok eg
  go_enter Tryz.func53, Tryz.ntmps53
  go_wp2
  go_loopw [7] (fun i wr => ∃ k : Nat, k ≤ l.length ∧ i = .int .i64 k ∧ goesL l.length k (l.drop k) = R ∧ Below w.heap.size w wr ∧ Bk wr w.heap.size 55 #[.slice A l.length c]) (fun i _ => l.length - (intOf i).toNat)
  case atStart => exact ⟨0, by omega, rfl, HR.out, Hb.out, Hk.out⟩
  case round =>
    obtain ⟨k, hk, rfl, hg, hb, hbk⟩ := hrel
    have hbs := hb.size
    by_cases hlt : k < l.length
    · obtain ⟨b, o, rfl, hbB, t0, t1⟩ := Hr.out.two hlt
      have s0 := (hb.cell (p := ⟨b, o + k * 2, none⟩) hbB).trans t0
      have s1 := (hb.cell (p := ⟨b, o + k * 2 + 1, none⟩) hbB).trans t1
      have hbw : b < wr.heap.size := by omega
      rw [goesL_step hlt] at hg
      have hins := Hok.out _ (List.getElem_mem hlt)
      have HB := hide (hb.alloc hbs (.cells #[.int .i64 l[k].o, .int .i64 l[k].n] 84))
      have HK := hide (hbk.alloc (.cells #[.int .i64 l[k].o, .int .i64 l[k].n] 84))
      clear hb hbk t0 t1 Hr
      generalize l[k] = t at *
      have hany := any_out (N := l.length) hins (a := k) (by omega)
      obtain ⟨to, tn⟩ := t
      dsimp only at *
      have hC := fun W => impl_nextOf to tn k W (by omega) (by omega)
      have hA := fun v W (hW : Bk W w.heap.size 55 #[.slice (some ⟨b, o, none⟩) l.length c]) hrd => anyIntC v (nextI ⟨to, tn⟩ k) (fun n => decide ((l.length : Int) ≤ n)) 92 #[.pointer (some ⟨w.heap.size, 0, none⟩)] Eg.out W hrd (fun n W' hW' => goesOn1 n _ c l.length w.heap.size W' (hW.below hW'))
      rw [hany] at hA
      generalize nextI ⟨to, tn⟩ k = L at *
      have HC := Lib.hid hC
      cases hall : L.all (fun n => inB n 0 (l.length - 1))
      · rw [hall] at hA hg
        rw [Bool.false_and] at hg
        have HA := Lib.hid hA; have HF := hide hg; clear hA hC hall hg hany hins Hok Eg
        go_wp2_with (first
          | (go_at_call 91; refine (HC.out _).mono ?_; rintro e w5 ⟨v5, rfl, hown5, hb5⟩; have HB5 := hide (HB.out.trans (hb5.mono HB.out.size)); have HA5 := hide (HA.out v5 w5 (HK.out.below hb5) (Rd.of_own hown5)); clear hown5 hb5)
          | (go_at_call 51; refine (HA5.out).mono ?_; rintro e w6 ⟨rfl, hb6⟩))
        go_ret
        exact ⟨retB HF.out, HB5.out.trans (hb6.mono HB5.out.size)⟩
      · rw [hall] at hA hg
        rw [Bool.true_and] at hg
        have HA := Lib.hid hA; have HF := hide hg; clear hA hC hall hg hany hins Hok Eg
        go_wp2_with (first
          | (go_at_call 91; refine (HC.out _).mono ?_; rintro e w5 ⟨v5, rfl, hown5, hb5⟩; have HB5 := hide (HB.out.trans (hb5.mono HB.out.size)); have HK5 := hide (HK.out.below hb5); have HA5 := hide (HA.out v5 w5 HK5.out (Rd.of_own hown5)); clear hown5 hb5)
          | (go_at_call 51; refine (HA5.out).mono ?_; rintro e w6 ⟨rfl, hb6⟩; have HB6 := hide (HB5.out.trans (hb6.mono HB5.out.size)); have HK6 := hide (HK5.out.below hb6); clear hb6))
        go_roundw
        case rel => exact ⟨k + 1, by omega, by go_num, HF.out, HB6.out, HK6.out⟩
        case measure => simp [intOf]; omega
    · obtain rfl : k = l.length := by omega
      rw [List.drop_length] at hg
      have HA := hide hg; have HB := hide hb; clear hg hb hbk
      go_wp2
      go_ret
      exact ⟨retB HA.out, HB.out⟩
set_option maxHeartbeats 3200000 in
theorem spec_l5Goes (cs : List Value) (m : CodeM) (w : World) (hc : RCode w 0 w.heap.size cs m) (hl : m.qIns.length ≤ 300) :
    Calls Tryz.prog 78 #[.agg cs.toArray] w fun e w' => e = .returned (.bool (goesL m.qIns.length 0 m.qIns)) ∧ Below w.heap.size w w' := by
  obtain ⟨m0, m1, l2, l, l4⟩ := m
  obtain ⟨v2, v3, v4, rfl, h2, h3, h4⟩ := hc
  dsimp only at *
  obtain ⟨A2, c2, rfl⟩ := h2.form
  obtain ⟨A3, c3, rfl⟩ := h3.form
  obtain ⟨A4, c4, rfl⟩ := h4.form
  generalize hR' : goesL l.length 0 (l.drop 0) = R
  have hR : goesL l.length 0 l = R := hR'
  rw [hR]
  have HR := hide hR'; have Hr := hide h3.rd
  have Hb := hide ((Below.refl w.heap.size w).alloc (Nat.le_refl _) (.cells #[.int .i64 m0, .int .i64 m1, .slice A2 l2.length c2, .slice A3 l.length c3, .slice A4 l4.length c4] 58))
  have Hk := hide (Bk.new w 58 #[.int .i64 m0, .int .i64 m1, .slice A2 l2.length c2, .slice A3 l.length c3, .slice A4 l4.length c4])
  clear hR hR' h2 h3 h4
  go_enter Tryz.func78, Tryz.ntmps78
  go_wp2
  go_loopw [8] (fun i wr => ∃ k : Nat, k ≤ l.length ∧ i = .int .i64 k ∧ goesL l.length k (l.drop k) = R ∧ Below w.heap.size w wr ∧ Bk wr w.heap.size 58 #[.int .i64 m0, .int .i64 m1, .slice A2 l2.length c2, .slice A3 l.length c3, .slice A4 l4.length c4]) (fun i _ => l.length - (intOf i).toNat)
  case atStart => exact ⟨0, by omega, rfl, HR.out, Hb.out, Hk.out⟩
  case round =>
    obtain ⟨k, hk, rfl, hg, hb, hbk⟩ := hrel
    have hbs := hb.size
    by_cases hlt : k < l.length
    · obtain ⟨b, o, rfl, hbB, t0, t1⟩ := Hr.out.two hlt
      have s0 := (hb.cell (p := ⟨b, o + k * 2, none⟩) hbB).trans t0
      have s1 := (hb.cell (p := ⟨b, o + k * 2 + 1, none⟩) hbB).trans t1
      have hbw : b < wr.heap.size := by omega
      rw [goesL_step hlt] at hg
      have HB := hide (hb.alloc hbs (.cells #[.int .i64 l[k].o, .int .i64 l[k].n] 84))
      have HK := hide (hbk.alloc (.cells #[.int .i64 l[k].o, .int .i64 l[k].n] 84))
      have HI := hide (Bk.new wr 84 #[.int .i64 l[k].o, .int .i64 l[k].n])
      clear hb hbk t0 t1 Hr
      generalize l[k] = t at *
      obtain ⟨to, tn⟩ := t
      dsimp only at *
      have hwr : IntKind.i64.wrap ((l.length : Int) - 1) = (l.length : Int) - 1 := by simp [IntKind.wrap, IntKind.bits, IntKind.signed]; omega
      have Hwr := hide hwr; clear hwr
      have hC := fun W => spec_l5Next to tn k W (by omega) (by omega)
      have hA : ∀ (v : Value) (W : World), Rd W W.heap.size v (nextI ⟨to, tn⟩ k).length (icells .i64 (nextI ⟨to, tn⟩ k)) → Calls Tryz.prog 100 #[v, .int .i64 0, .int .i64 (l.length - 1)] W fun e w' => e = .returned (.bool ((nextI ⟨to, tn⟩ k).all fun n => inB n 0 (l.length - 1))) ∧ W = w' := fun v W hrd => spec_l1All v _ 0 (l.length - 1) W _ hrd
      generalize nextI ⟨to, tn⟩ k = L at *
      have HC := Lib.hid hC
      cases hall : L.all (fun n => inB n 0 (l.length - 1))
      · rw [hall] at hA hg
        rw [Bool.false_and] at hg
        have HA := Lib.hid hA; have HF := hide hg; clear hA hC hall hg
        go_wp2_with fail
        go_region_held3 (fun w' => w'.cell? ⟨w.heap.size, 3, none⟩ = some (.slice (some ⟨b, o, none⟩) l.length c3) ∧ w'.cell? ⟨wr.heap.size, 0, none⟩ = some (.int .i64 to) ∧ w'.cell? ⟨wr.heap.size, 1, none⟩ = some (.int .i64 tn)) (first | exact ⟨HK.out.cell 3, HI.out.cell 0, HI.out.cell 1⟩ | exact ⟨HK5.out.cell 3, HI5.out.cell 0, HI5.out.cell 1⟩)
          (first
            | (go_at_call 45; refine (HC.out _).mono ?_; rintro e w5 ⟨v5, rfl, hown5, hb5⟩; replace hb5 := below_undrewG hb5; have HB5 := hide (HB.out.trans (hb5.mono HB.out.size)); have HK5 := hide (HK.out.below hb5); have HI5 := hide (HI.out.below hb5); have HA5 := hide (HA.out v5 w5 (Rd.of_own hown5)); clear hown5 hb5)
            | (go_at_call 100; rw [Hwr.out]; refine (HA5.out).mono ?_; rintro e w6 ⟨rfl, rfl⟩))
        go_wp2
        go_ret
        exact ⟨retB HF.out, HB5.out⟩
      · rw [hall] at hA hg
        rw [Bool.true_and] at hg
        have HA := Lib.hid hA; have HF := hide hg; clear hA hC hall hg
        go_wp2_with fail
        go_region_held3 (fun w' => w'.cell? ⟨w.heap.size, 3, none⟩ = some (.slice (some ⟨b, o, none⟩) l.length c3) ∧ w'.cell? ⟨wr.heap.size, 0, none⟩ = some (.int .i64 to) ∧ w'.cell? ⟨wr.heap.size, 1, none⟩ = some (.int .i64 tn)) (first | exact ⟨HK.out.cell 3, HI.out.cell 0, HI.out.cell 1⟩ | exact ⟨HK5.out.cell 3, HI5.out.cell 0, HI5.out.cell 1⟩)
          (first
            | (go_at_call 45; refine (HC.out _).mono ?_; rintro e w5 ⟨v5, rfl, hown5, hb5⟩; replace hb5 := below_undrewG hb5; have HB5 := hide (HB.out.trans (hb5.mono HB.out.size)); have HK5 := hide (HK.out.below hb5); have HI5 := hide (HI.out.below hb5); have HA5 := hide (HA.out v5 w5 (Rd.of_own hown5)); clear hown5 hb5)
            | (go_at_call 100; rw [Hwr.out]; refine (HA5.out).mono ?_; rintro e w6 ⟨rfl, rfl⟩))
        go_wp2
        go_roundw
        case rel => exact ⟨k + 1, by omega, by go_num, HF.out, HB5.out, HK5.out⟩
        case measure => simp [intOf]; omega
    · obtain rfl : k = l.length := by omega
      rw [List.drop_length] at hg
      have HA := hide hg; have HB := hide hb; clear hg hb hbk
      go_wp2
      go_ret
      exact ⟨retB HA.out, HB.out⟩
end Go.Proofs.YtaebmliolpgmdaaGreat
