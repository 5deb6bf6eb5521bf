
/- TakesPuts: what the Go text returns. No condition. -/
import Derived.Test.YtaebmliolpgmdaaGreatTp
set_option linter.unusedSimpArgs false
set_option linter.unusedVariables false
set_option maxRecDepth 100000
namespace Go.Proofs.YtaebmliolpgmdaaGreat
open Go.RowKit

def tkGood (l : List CodeM) (t : P2) : Prop := t.o = 7 → 0 ≤ t.n ∧ t.n < l.length
set_option maxHeartbeats 1600000 in
theorem spec_l5Takes (cs : List Value) (x : ImageM) (o n : Int) (w : World) (hr : RImage w 0 w.heap.size cs x) (ho : 1 ≤ o ∧ o ≤ 18) (hn : tkGood x.qCodes ⟨o, n⟩) :
    Calls Tryz.prog 44 #[.agg cs.toArray, .agg #[.int .i64 o, .int .i64 n]] w fun e w' => e = .returned (.tuple #[.int .i64 (takes x.qCodes ⟨o, n⟩), .int .i64 (puts ⟨o, n⟩)]) ∧ Below w.heap.size w w' := by
  obtain ⟨v0, rfl, h0⟩ := hr
  obtain ⟨l⟩ := x
  dsimp only at *
  have hl := h0.long
  obtain ⟨A, c, rfl⟩ := h0.form
  have hb := ((Below.refl w.heap.size w).alloc (Nat.le_refl _) (.cells #[.slice A l.length c] 31)).alloc (by simp) (.cells #[.int .i64 o, .int .i64 n] 84)
  have h0' := h0.here RCode_stable hb
  by_cases o7 : o = 7
  · subst o7
    obtain ⟨k, rfl⟩ := Int.eq_ofNat_of_zero_le (hn rfl).1
    have hk : k < l.length := by have := (hn rfl).2; dsimp only at this; omega
    obtain ⟨b, o, v2, v3, v4, rfl, hbB, e0, e1, e2, e3, e4, hx⟩ := RCode_at h0' hk
    have ht := takes_call hk
    have hp : puts ⟨7, (k : Int)⟩ = 1 := rfl
    rw [show ((k : Nat) : Int) = Int.ofNat k from rfl] at *
    simp only [Int.ofNat_eq_natCast] at *
    rw [ht, hp]
    generalize l[k] = m at *
    have Hb := hide hb; clear hb h0 h0' hx hn ht hp
    have q : ((k : Int)).toNat = k := by omega
    go_enter Tryz.func44, Tryz.ntmps44
    go_wp2
    go_ret2
    exact ⟨rfl, Hb.out⟩
  · have Hb := hide hb; clear hb h0 h0'
    rcases op_ways ho with rfl | rfl | rfl | rfl | rfl | rfl | rfl | rfl | rfl | rfl | rfl | rfl | rfl | rfl | rfl | rfl | rfl | rfl
    all_goals first | exact absurd rfl o7 | (go_enter Tryz.func44, Tryz.ntmps44; go_wp2; go_ret2; exact ⟨rfl, Hb.out⟩)

set_option maxHeartbeats 1600000 in
theorem impl_takesPuts (cs : List Value) (x : ImageM) (o n : Int) (w : World) (hr : RImage w 0 w.heap.size cs x) (ho : 1 ≤ o ∧ o ≤ 18) (hn : tkGood x.qCodes ⟨o, n⟩) :
    Calls Tryz.prog 94 #[.agg cs.toArray, .agg #[.int .i64 o, .int .i64 n]] w fun e w' => e = .returned (.tuple #[.int .i64 (takes x.qCodes ⟨o, n⟩), .int .i64 (puts ⟨o, n⟩)]) ∧ Below w.heap.size w w' := by
  obtain ⟨v0, rfl, h0⟩ := hr
  obtain ⟨l⟩ := x
  dsimp only at *
  have hl := h0.long
  obtain ⟨A, c, rfl⟩ := h0.form
  have hb := ((Below.refl w.heap.size w).alloc (Nat.le_refl _) (.cells #[.slice A l.length c] 31)).alloc (by simp) (.cells #[.int .i64 o, .int .i64 n] 84)
  have h0' := h0.here RCode_stable hb
  by_cases o7 : o = 7
  · subst o7
    obtain ⟨k, rfl⟩ := Int.eq_ofNat_of_zero_le (hn rfl).1
    have hk : k < l.length := by have := (hn rfl).2; dsimp only at this; omega
    obtain ⟨b, o, v2, v3, v4, rfl, hbB, e0, e1, e2, e3, e4, hx⟩ := RCode_at h0' hk
    have ht := takes_call hk
    have hp : puts ⟨7, (k : Int)⟩ = 1 := rfl
    rw [show ((k : Nat) : Int) = Int.ofNat k from rfl] at *
    simp only [Int.ofNat_eq_natCast] at *
    rw [ht, hp]
    generalize l[k] = m at *
    have Hb := hide hb; clear hb h0 h0' hx hn ht hp
    have q : ((k : Int)).toNat = k := by omega
    go_enter Tryz.func94, Tryz.ntmps94
    go_wp2
    go_ret2
    exact ⟨rfl, Hb.out⟩
  · have Hb := hide hb; clear hb h0 h0'
    rcases op_ways ho with rfl | rfl | rfl | rfl | rfl | rfl | rfl | rfl | rfl | rfl | rfl | rfl | rfl | rfl | rfl | rfl | rfl | rfl
    all_goals first | exact absurd rfl o7 | (go_enter Tryz.func94, Tryz.ntmps94; go_wp2; go_ret2; exact ⟨rfl, Hb.out⟩)

theorem tpF_yes {l : List CodeM} {t : P2} (h : sizedB l = true) (h2 : insOk t = true) (h3 : t.o ≠ 7 ∨ t.n < l.length) : tpF l t = (takes l t, puts t, true) := by
  unfold tpF tpOk; rw [h, h2, decide_eq_true h3]; rfl
theorem tpF_s {l : List CodeM} {t : P2} (h : sizedB l = false) : tpF l t = (0, 0, false) := by unfold tpF tpOk; rw [h]; rfl
theorem tpF_i {l : List CodeM} {t : P2} (h : insOk t = false) : tpF l t = (0, 0, false) := by unfold tpF tpOk; rw [h]; simp
theorem tpF_7 {l : List CodeM} {t : P2} (h : t.o = 7) (h2 : ¬ t.n < l.length) : tpF l t = (0, 0, false) := by unfold tpF tpOk; rw [decide_eq_false (by omega)]; simp
theorem insOk_7 {n : Int} (h : insOk ⟨7, n⟩ = true) : 0 ≤ n := by
  rw [insOk_n (by decide) (by decide) rfl] at h; exact (inB_iff.1 h).1
theorem retTp {p : Int × Int × Bool} {a b : Int} {c : Bool} (h : p = (a, b, c)) : Ending.returned (.tuple #[.int .i64 a, .int .i64 b, .bool c]) = .returned (.tuple #[.int .i64 p.1, .int .i64 p.2.1, .bool p.2.2]) := by rw [h]

end Go.Proofs.YtaebmliolpgmdaaGreat
