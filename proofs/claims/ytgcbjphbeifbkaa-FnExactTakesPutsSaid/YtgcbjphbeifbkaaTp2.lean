
/- TakesPuts: what the Go text returns. No condition. -/
import Derived.Test.YtgcbjphbeifbkaaTp
set_option linter.unusedSimpArgs false
set_option linter.unusedVariables false
set_option maxRecDepth 100000
namespace Go.Proofs.Ytgcbjphbeifbkaa
open Go.RowKit

def tkGood (l : List CodeM) (t : P2) : Prop := t.o = 7 → 0 ≤ t.n ∧ t.n < l.length
set_option maxHeartbeats 1600000 in
theorem spec_l5Takes (cs : List Value) (x : ImageM) (o n : Int) (w : World) (hr : RImage w 0 w.heap.size cs x) (ho : 1 ≤ o ∧ o ≤ 18) (hn : tkGood x.qCodes ⟨o, n⟩) :
    Calls Try.prog 79 #[.agg cs.toArray, .agg #[.int .i64 o, .int .i64 n]] w fun e w' => e = .returned (.tuple #[.int .i64 (takes x.qCodes ⟨o, n⟩), .int .i64 (puts ⟨o, n⟩)]) ∧ Below w.heap.size w w' := by
  obtain ⟨v0, rfl, h0⟩ := hr
  obtain ⟨l⟩ := x
  dsimp only at *
  have hl := h0.long
  obtain ⟨A, c, rfl⟩ := h0.form
  have hb := ((Below.refl w.heap.size w).alloc (Nat.le_refl _) (.cells #[.slice A l.length c] 71)).alloc (by simp) (.cells #[.int .i64 o, .int .i64 n] 73)
  have h0' := h0.here RCode_stable hb
  by_cases o7 : o = 7
  · subst o7
    obtain ⟨k, rfl⟩ := Int.eq_ofNat_of_zero_le (hn rfl).1
    have hk : k < l.length := by have := (hn rfl).2; dsimp only at this; omega
    obtain ⟨b, o, v2, v3, v4, rfl, hbB, e0, e1, e2, e3, e4, hx⟩ := RCode_at h0' hk
    have ht := takes_call hk
    have hp : puts ⟨7, (k : Int)⟩ = 1 := rfl
    rw [show ((k : Nat) : Int) = Int.ofNat k from rfl] at *
    simp only [Int.ofNat_eq_natCast] at *
    rw [ht, hp]
    generalize l[k] = m at *
    have Hb := hide hb; clear hb h0 h0' hx hn ht hp
    have q : ((k : Int)).toNat = k := by omega
    go_enter Try.func79, Try.ntmps79
    go_wp2
    go_ret2
    exact ⟨rfl, Hb.out⟩
  · have Hb := hide hb; clear hb h0 h0'
    rcases op_ways ho with rfl | rfl | rfl | rfl | rfl | rfl | rfl | rfl | rfl | rfl | rfl | rfl | rfl | rfl | rfl | rfl | rfl | rfl
    all_goals first | exact absurd rfl o7 | (go_enter Try.func79, Try.ntmps79; go_wp2; go_ret2; exact ⟨rfl, Hb.out⟩)

set_option maxHeartbeats 1600000 in
theorem impl_takesPuts (cs : List Value) (x : ImageM) (o n : Int) (w : World) (hr : RImage w 0 w.heap.size cs x) (ho : 1 ≤ o ∧ o ≤ 18) (hn : tkGood x.qCodes ⟨o, n⟩) :
    Calls Try.prog 83 #[.agg cs.toArray, .agg #[.int .i64 o, .int .i64 n]] w fun e w' => e = .returned (.tuple #[.int .i64 (takes x.qCodes ⟨o, n⟩), .int .i64 (puts ⟨o, n⟩)]) ∧ Below w.heap.size w w' := by
  obtain ⟨v0, rfl, h0⟩ := hr
  obtain ⟨l⟩ := x
  dsimp only at *
  have hl := h0.long
  obtain ⟨A, c, rfl⟩ := h0.form
  have hb := ((Below.refl w.heap.size w).alloc (Nat.le_refl _) (.cells #[.slice A l.length c] 71)).alloc (by simp) (.cells #[.int .i64 o, .int .i64 n] 73)
  have h0' := h0.here RCode_stable hb
  by_cases o7 : o = 7
  · subst o7
    obtain ⟨k, rfl⟩ := Int.eq_ofNat_of_zero_le (hn rfl).1
    have hk : k < l.length := by have := (hn rfl).2; dsimp only at this; omega
    obtain ⟨b, o, v2, v3, v4, rfl, hbB, e0, e1, e2, e3, e4, hx⟩ := RCode_at h0' hk
    have ht := takes_call hk
    have hp : puts ⟨7, (k : Int)⟩ = 1 := rfl
    rw [show ((k : Nat) : Int) = Int.ofNat k from rfl] at *
    simp only [Int.ofNat_eq_natCast] at *
    rw [ht, hp]
    generalize l[k] = m at *
    have Hb := hide hb; clear hb h0 h0' hx hn ht hp
    have q : ((k : Int)).toNat = k := by omega
    go_enter Try.func83, Try.ntmps83
    go_wp2
    go_ret2
    exact ⟨rfl, Hb.out⟩
  · have Hb := hide hb; clear hb h0 h0'
    rcases op_ways ho with rfl | rfl | rfl | rfl | rfl | rfl | rfl | rfl | rfl | rfl | rfl | rfl | rfl | rfl | rfl | rfl | rfl | rfl
    all_goals first | exact absurd rfl o7 | (go_enter Try.func83, Try.ntmps83; go_wp2; go_ret2; exact ⟨rfl, Hb.out⟩)

theorem tpF_yes {l : List CodeM} {t : P2} (h : sizedB l = true) (h2 : insOk t = true) (h3 : t.o ≠ 7 ∨ t.n < l.length) : tpF l t = (takes l t, puts t, true) := by
  unfold tpF tpOk; rw [h, h2, decide_eq_true h3]; rfl
theorem tpF_s {l : List CodeM} {t : P2} (h : sizedB l = false) : tpF l t = (0, 0, false) := by unfold tpF tpOk; rw [h]; rfl
theorem tpF_i {l : List CodeM} {t : P2} (h : insOk t = false) : tpF l t = (0, 0, false) := by unfold tpF tpOk; rw [h]; simp
theorem tpF_7 {l : List CodeM} {t : P2} (h : t.o = 7) (h2 : ¬ t.n < l.length) : tpF l t = (0, 0, false) := by unfold tpF tpOk; rw [decide_eq_false (by omega)]; simp
theorem insOk_7 {n : Int} (h : insOk ⟨7, n⟩ = true) : 0 ≤ n := by
  rw [insOk_n (by decide) (by decide) rfl] at h; exact (inB_iff.1 h).1
theorem retTp {p : Int × Int × Bool} {a b : Int} {c : Bool} (h : p = (a, b, c)) : Ending.returned (.tuple #[.int .i64 a, .int .i64 b, .bool c]) = .returned (.tuple #[.int .i64 p.1, .int .i64 p.2.1, .bool p.2.2]) := by rw [h]

set_option maxHeartbeats 1600000 in
theorem spec_TakesPuts (cs : List Value) (x : ImageM) (o n : Int) (w : World) (hr : RImage w 0 w.heap.size cs x) :
    Calls Try.prog 37 #[.agg cs.toArray, .agg #[.int .i64 o, .int .i64 n]] w fun e w' => e = .returned (.tuple #[.int .i64 (tpF x.qCodes ⟨o, n⟩).1, .int .i64 (tpF x.qCodes ⟨o, n⟩).2.1, .bool (tpF x.qCodes ⟨o, n⟩).2.2]) ∧ Below w.heap.size w w' := by
  obtain ⟨v0, rfl, h0⟩ := id hr
  have hx := hr
  obtain ⟨l⟩ := x
  dsimp only at *
  have hl := h0.long
  obtain ⟨A, c, rfl⟩ := h0.form
  have hb := ((Below.refl w.heap.size w).alloc (Nat.le_refl _) (.cells #[.slice A l.length c] 71)).alloc (by simp) (.cells #[.int .i64 o, .int .i64 n] 73)
  have hbk1 := (Bk.new w 71 #[.slice A l.length c]).alloc (.cells #[.int .i64 o, .int .i64 n] 73)
  have hbk2 := Bk.new (w.alloc (.cells #[.slice A l.length c] 71)) 73 #[.int .i64 o, .int .i64 n]
  rw [World.size_alloc] at hbk2
  have hx' := RImage_stable.here hx hb
  have Hx := hide hx'; have Hb := hide hb; have K1 := hide hbk1; have K2 := hide hbk2
  clear hr hx hx' h0 hb hbk1 hbk2
  have hs := @tpF_s l ⟨o, n⟩
  have hi := @tpF_i l ⟨o, n⟩
  have h7 := @tpF_7 l ⟨o, n⟩
  have hy := @tpF_yes l ⟨o, n⟩
  generalize tpF l ⟨o, n⟩ = R at *
  have Hs := hide hs; have Hi := hide hi; have H7 := hide h7; have Hy := hide hy; clear hs hi h7 hy
  go_enter Try.func37, Try.ntmps37
  go_wp2_with fail
  refine (spec_l5Sized _ ⟨l⟩ _ Hx.out).mono ?_
  rintro e w1 ⟨rfl, hb1⟩
  dsimp only
  have Hb1 := hide (Hb.out.trans (hb1.mono Hb.out.size))
  have Hx1 := hide (RImage_stable.here Hx.out hb1)
  have K1a := hide (K1.out.below hb1); have K2a := hide (K2.out.below hb1); clear hb1
  have c0 := K2a.out.cell 0; have c1 := K2a.out.cell 1; have d0 := K1a.out.cell 0
  cases hsz : sizedB l with
  | false =>
    have HF := hide (Hs.out hsz)
    go_wp2
    go_ret3
    exact ⟨retTp HF.out, Hb1.out⟩
  | true =>
    go_wp2_with fail
    refine (spec_l5Ins o n _).mono ?_
    rintro e w2 ⟨rfl, hb2⟩
    have Hb2 := hide (Hb1.out.trans (hb2.mono Hb1.out.size))
    have Hx2 := hide (RImage_stable.here Hx1.out hb2)
    have K1b := hide (K1a.out.below hb2); have K2b := hide (K2a.out.below hb2); clear hb2 c0 c1 d0
    have c0 := K2b.out.cell 0; have c1 := K2b.out.cell 1; have d0 := K1b.out.cell 0
    cases hio : insOk ⟨o, n⟩ with
    | false =>
      have HF := hide (Hi.out hio)
      go_wp2
      go_ret3
      exact ⟨retTp HF.out, Hb2.out⟩
    | true =>
      have hob := insOk_bd hio
      dsimp only at hob
      by_cases o7 : o = 7
      · subst o7
        have hn0 := insOk_7 hio
        by_cases hlt : n < l.length
        · have HF := hide (Hy.out hsz hio (Or.inr hlt))
          have Hg := hide (show tkGood l ⟨7, n⟩ from fun _ => ⟨hn0, hlt⟩)
          go_wp2_with fail
          refine (spec_l5Takes _ ⟨l⟩ 7 n _ Hx2.out (by omega) Hg.out).mono ?_
          rintro e w3 ⟨rfl, hb3⟩
          have Hb3 := hide (Hb2.out.trans (hb3.mono Hb2.out.size))
          dsimp only
          clear hb3 c0 c1 d0
          go_wp2
          go_ret3
          exact ⟨retTp HF.out, Hb3.out⟩
        · have HF := hide (H7.out rfl (by first | exact hlt | omega))
          go_wp2
          go_ret3
          exact ⟨retTp HF.out, Hb2.out⟩
      · have HF := hide (Hy.out hsz hio (Or.inl o7))
        have Hg := hide (show tkGood l ⟨o, n⟩ from fun h => absurd h o7)
        have b7 : (o == 7) = false := by rw [beq_eq_false_iff_ne]; exact o7
        go_wp2_with fail
        refine (spec_l5Takes _ ⟨l⟩ o n _ Hx2.out hob Hg.out).mono ?_
        rintro e w3 ⟨rfl, hb3⟩
        have Hb3 := hide (Hb2.out.trans (hb3.mono Hb2.out.size))
        dsimp only
        clear hb3 c0 c1 d0
        go_wp2
        go_ret3
        exact ⟨retTp HF.out, Hb3.out⟩

set_option maxHeartbeats 1600000 in
theorem impl_TakesPuts (cs : List Value) (x : ImageM) (o n : Int) (w : World) (hr : RImage w 0 w.heap.size cs x) :
    Calls Try.prog 40 #[.agg cs.toArray, .agg #[.int .i64 o, .int .i64 n]] w fun e w' => e = .returned (.tuple #[.int .i64 (tpF x.qCodes ⟨o, n⟩).1, .int .i64 (tpF x.qCodes ⟨o, n⟩).2.1, .bool (tpF x.qCodes ⟨o, n⟩).2.2]) ∧ Below w.heap.size w w' := by
  obtain ⟨v0, rfl, h0⟩ := id hr
  have hx := hr
  obtain ⟨l⟩ := x
  dsimp only at *
  have hl := h0.long
  obtain ⟨A, c, rfl⟩ := h0.form
  have hb := ((Below.refl w.heap.size w).alloc (Nat.le_refl _) (.cells #[.slice A l.length c] 71)).alloc (by simp) (.cells #[.int .i64 o, .int .i64 n] 73)
  have hbk1 := (Bk.new w 71 #[.slice A l.length c]).alloc (.cells #[.int .i64 o, .int .i64 n] 73)
  have hbk2 := Bk.new (w.alloc (.cells #[.slice A l.length c] 71)) 73 #[.int .i64 o, .int .i64 n]
  rw [World.size_alloc] at hbk2
  have hx' := RImage_stable.here hx hb
  have Hx := hide hx'; have Hb := hide hb; have K1 := hide hbk1; have K2 := hide hbk2
  clear hr hx hx' h0 hb hbk1 hbk2
  have hs := @tpF_s l ⟨o, n⟩
  have hi := @tpF_i l ⟨o, n⟩
  have h7 := @tpF_7 l ⟨o, n⟩
  have hy := @tpF_yes l ⟨o, n⟩
  generalize tpF l ⟨o, n⟩ = R at *
  have Hs := hide hs; have Hi := hide hi; have H7 := hide h7; have Hy := hide hy; clear hs hi h7 hy
  go_enter Try.func40, Try.ntmps40
  go_wp2_with fail
  refine (impl_isSized _ ⟨l⟩ _ Hx.out).mono ?_
  rintro e w1 ⟨rfl, hb1⟩
  dsimp only
  have Hb1 := hide (Hb.out.trans (hb1.mono Hb.out.size))
  have Hx1 := hide (RImage_stable.here Hx.out hb1)
  have K1a := hide (K1.out.below hb1); have K2a := hide (K2.out.below hb1); clear hb1
  have c0 := K2a.out.cell 0; have c1 := K2a.out.cell 1; have d0 := K1a.out.cell 0
  cases hsz : sizedB l with
  | false =>
    have HF := hide (Hs.out hsz)
    go_wp2
    go_ret3
    exact ⟨retTp HF.out, Hb1.out⟩
  | true =>
    go_wp2_with fail
    refine (impl_isIns o n _).mono ?_
    rintro e w2 ⟨rfl, hb2⟩
    have Hb2 := hide (Hb1.out.trans (hb2.mono Hb1.out.size))
    have Hx2 := hide (RImage_stable.here Hx1.out hb2)
    have K1b := hide (K1a.out.below hb2); have K2b := hide (K2a.out.below hb2); clear hb2 c0 c1 d0
    have c0 := K2b.out.cell 0; have c1 := K2b.out.cell 1; have d0 := K1b.out.cell 0
    cases hio : insOk ⟨o, n⟩ with
    | false =>
      have HF := hide (Hi.out hio)
      go_wp2
      go_ret3
      exact ⟨retTp HF.out, Hb2.out⟩
    | true =>
      have hob := insOk_bd hio
      dsimp only at hob
      by_cases o7 : o = 7
      · subst o7
        have hn0 := insOk_7 hio
        by_cases hlt : n < l.length
        · have HF := hide (Hy.out hsz hio (Or.inr hlt))
          have Hg := hide (show tkGood l ⟨7, n⟩ from fun _ => ⟨hn0, hlt⟩)
          go_wp2_with fail
          refine (impl_takesPuts _ ⟨l⟩ 7 n _ Hx2.out (by omega) Hg.out).mono ?_
          rintro e w3 ⟨rfl, hb3⟩
          have Hb3 := hide (Hb2.out.trans (hb3.mono Hb2.out.size))
          dsimp only
          clear hb3 c0 c1 d0
          go_wp2
          go_ret3
          exact ⟨retTp HF.out, Hb3.out⟩
        · have HF := hide (H7.out rfl (by first | exact hlt | omega))
          go_wp2
          go_ret3
          exact ⟨retTp HF.out, Hb2.out⟩
      · have HF := hide (Hy.out hsz hio (Or.inl o7))
        have Hg := hide (show tkGood l ⟨o, n⟩ from fun h => absurd h o7)
        have b7 : (o == 7) = false := by rw [beq_eq_false_iff_ne]; exact o7
        go_wp2_with fail
        refine (impl_takesPuts _ ⟨l⟩ o n _ Hx2.out hob Hg.out).mono ?_
        rintro e w3 ⟨rfl, hb3⟩
        have Hb3 := hide (Hb2.out.trans (hb3.mono Hb2.out.size))
        dsimp only
        clear hb3 c0 c1 d0
        go_wp2
        go_ret3
        exact ⟨retTp HF.out, Hb3.out⟩
end Go.Proofs.Ytgcbjphbeifbkaa
