
/- isStmt, l3Stmt: what the Go text returns. No condition. -/
import Derived.Test.YtheddnjhkcpmnaaPg1
set_option linter.unusedSimpArgs false
set_option linter.unusedVariables false
set_option maxRecDepth 100000
namespace Go.Proofs.Ytheddnjhkcpmnaa
open Go.RowKit

def stmtImpN (vars : Int) (params : List Int) (k N : Int) (ex : List P2) (n3 n4 : Nat) : Bool :=
  (inB k 1 9 && (decide (k = 7 ∨ n4 = 0) && decide (k = 7 ∨ k = 8 ∨ n3 = 0))) &&
  (if k = 3 then decide (ex.length = 0) && (decide (N = -1) || (inB N 0 (params.length - 1) && decide (params.getD N.toNat 0 = 0)))
   else if k = 6 then decide (ex.length = 0) && decide (N = 0)
   else if k = 1 then inB N 0 (vars - 1) && decide (0 < highOf vars params ex)
   else decide (N = 0) && decide (0 < highOf vars params ex))
def stmtImp (vars : Int) (params : List Int) (s : StmtM) : Bool := stmtImpN vars params s.qKind s.qN s.qEx s.qThen.length s.qElse.length
def stmtOkN (vars : Int) (params : List Int) (k N : Int) (ex : List P2) (n3 n4 : Nat) : Bool :=
  if k = 1 then goodExpr ex vars params && (inB N 0 (vars - 1) && decide (n3 + n4 = 0))
  else if k = 2 ∨ k = 4 ∨ k = 5 ∨ k = 9 then goodExpr ex vars params && (decide (N = 0) && decide (n3 + n4 = 0))
  else if k = 3 then decide (ex.length = 0) && (inB N 0 (params.length - 1) && decide (n3 + n4 = 0))
  else if k = 6 then decide (ex.length = 0) && (decide (N = 0) && decide (n3 + n4 = 0))
  else if k = 7 then goodExpr ex vars params && decide (N = 0)
  else if k = 8 then goodExpr ex vars params && (decide (N = 0) && decide (n4 = 0))
  else false
theorem stmtOk_N (vars : Int) (params : List Int) (s : StmtM) : stmtOk vars params s = stmtOkN vars params s.qKind s.qN s.qEx s.qThen.length s.qElse.length := rfl
theorem kinds {k : Int} (h : inB k 1 9 = true) : k = 1 ∨ k = 2 ∨ k = 3 ∨ k = 4 ∨ k = 5 ∨ k = 6 ∨ k = 7 ∨ k = 8 ∨ k = 9 := by have := inB_iff.1 h; omega
/-- one that puts off no call: the two words agree -/
theorem stmt_eq {vars : Int} {params : List Int} (hv : 0 ≤ vars ∧ vars ≤ 6) (hp : parOk params = true) {k N : Int} {ex : List P2} {n3 n4 : Nat} (h3 : k ≠ 3) : stmtImpN vars params k N ex n3 n4 = stmtOkN vars params k N ex n3 n4 := by
  have hg : goodExpr ex vars params = decide (0 < highOf vars params ex) := by unfold goodExpr; rw [decide_eq_true hv, hp]; simp
  unfold stmtImpN stmtOkN
  rw [hg]
  cases hi : inB k 1 9 with
  | false =>
    have : ¬ (1 ≤ k ∧ k ≤ 9) := fun h => by rw [inB_yes h.1 h.2] at hi; cases hi
    simp [show ¬ k = 1 by omega, show ¬ k = 2 by omega, show ¬ k = 4 by omega, show ¬ k = 5 by omega, show ¬ k = 9 by omega, h3, show ¬ k = 6 by omega, show ¬ k = 7 by omega, show ¬ k = 8 by omega]
  | true =>
    generalize decide (0 < highOf vars params ex) = g
    have e : decide (n3 + n4 = 0) = (decide (n3 = 0) && decide (n4 = 0)) := by rw [Bool.eq_iff_iff]; simp
    rcases kinds hi with rfl | rfl | rfl | rfl | rfl | rfl | rfl | rfl | rfl
    all_goals first | exact absurd rfl h3 | skip
    all_goals
      simp only [e]
      simp
      try cases g <;> cases decide (n3 = 0) <;> cases decide (n4 = 0) <;> simp
/-- one that puts off a call -/
theorem stmt_eq3 {vars : Int} {params : List Int} {N : Int} {ex : List P2} {n3 n4 : Nat} (h : 0 ≤ N) : stmtImpN vars params 3 N ex n3 n4 = (stmtOkN vars params 3 N ex n3 n4 && decide (params.getD N.toNat 0 = 0)) := by
  have e : decide (n3 + n4 = 0) = (decide (n3 = 0) && decide (n4 = 0)) := by rw [Bool.eq_iff_iff]; simp
  unfold stmtImpN stmtOkN
  simp only [e]
  have h1 : ¬ N = -1 := by omega
  simp [h1, inB]
  cases decide (n3 = 0) <;> cases decide (n4 = 0) <;> cases decide (ex = []) <;> simp
theorem stmt_lone {vars : Int} {params : List Int} {N : Int} {ex : List P2} {n3 n4 : Nat} : (inB N 0 (params.length - 1) && stmtImpN vars params 3 (-1) ex n3 n4) = stmtOkN vars params 3 N ex n3 n4 := by
  have e : decide (n3 + n4 = 0) = (decide (n3 = 0) && decide (n4 = 0)) := by rw [Bool.eq_iff_iff]; simp
  unfold stmtImpN stmtOkN
  simp only [e]
  simp [inB]
  cases decide (n3 = 0) <;> cases decide (n4 = 0) <;> cases decide (ex = []) <;> cases decide (0 ≤ N ∧ N ≤ (params.length : Int) - 1) <;> simp

set_option maxHeartbeats 3200000 in
theorem impl_isStmt (a0 vars : Int) (x2 x3 : Value) (k N : Int) (ex : List P2) (A5 A6 A7 : Option Addr) (c5 c6 c7 n3 n4 : Nat) (params : List Int) (pv : Value) (w : World)
    (hex : Rd w w.heap.size (.slice A5 ex.length c5) ex.length (pcells ex)) (hp : Rd w w.heap.size pv params.length (icells .i64 params)) (hv : 0 ≤ vars) (hv2 : vars ≤ 6) (hok : parOk params = true) :
    Calls Try.prog 118 #[.agg #[.int .i64 a0, .int .i64 vars, x2, x3], .agg #[.int .i64 k, .int .i64 N, .slice A5 ex.length c5, .slice A6 n3 c6, .slice A7 n4 c7], pv] w fun e w' => e = .returned (.bool (stmtImpN vars params k N ex n3 n4)) ∧ Below w.heap.size w w' := by
  have hb0 := ((Below.refl w.heap.size w).alloc (Nat.le_refl _) (.cells #[.int .i64 a0, .int .i64 vars, x2, x3] 59)).alloc (by rw [World.size_alloc]; omega) (.cells #[.int .i64 k, .int .i64 N, .slice A5 ex.length c5, .slice A6 n3 c6, .slice A7 n4 c7] 103)
  have hhi := fun w' hr hp => impl_highOf (.slice A5 ex.length c5) ex vars pv params w' hr hp hv hv2 hok
  have hex0 := hex
  obtain ⟨Ap, cp, rfl, hn1, hn2, hpc⟩ := id hp
  have hpl := (parOk_iff.1 hok).1
  have hwk := fun w => impl_within k 1 9 w
  have hwn := fun w => impl_within N 0 (params.length - 1) w
  have hwv := fun w => impl_within N 0 (vars - 1) w
  have Hex := hide hex; have Hp := hide hp; have Hb0 := hide hb0; have Hhi := Lib.hid hhi
  clear hex hex0 hp hb0 hpc hn1 hn2 hhi
  cases hi : inB k 1 9
  case false =>
    rw [show stmtImpN vars params k N ex n3 n4 = false by unfold stmtImpN; rw [hi]; rfl]
    simp only [hi] at hwk
    have HWk := Lib.hid hwk; clear hwk hi hwn hwv
    go_enter Try.func118, Try.ntmps118
    go_wp2_with (go_at_call 79; refine (HWk.out _).mono ?_; rintro e w' ⟨rfl, rfl⟩)
    go_ret
    exact ⟨rfl, Hb0.out⟩
  simp only [hi] at hwk
  have HWk := Lib.hid hwk; clear hwk
  -- the last step, of whatever kind
  have hhc := fun W (hW : Below w.heap.size w W) => Hhi.out W (Hex.out.here hW) (Hp.out.here hW)
  have Hhc := Lib.hid hhc; clear hhc
  have hhpos : 0 < highOf vars params ex ∨ highOf vars params ex ≤ 0 := by omega
  by_cases k7 : k = 7
  · subst k7
    have e7 : stmtImpN vars params 7 N ex n3 n4 = (decide (N = 0) && decide (0 < highOf vars params ex)) := by unfold stmtImpN; rw [hi]; simp
    rw [e7]
    clear hi hwn hwv e7
    by_cases hN : N = 0
    · subst hN
      generalize highOf vars params ex = hh at *
      go_enter Try.func118, Try.ntmps118
      go_wp2_with (first
        | (go_at_call 79; refine (HWk.out _).mono ?_; rintro e w' ⟨rfl, rfl⟩)
        | (go_at_call 137; refine (Hhc.out _ Hb0.out).mono ?_; rintro e w' ⟨rfl, hb⟩))
      go_ret
      exact ⟨retB (by simp), Hb0.out.trans (hb.mono Hb0.out.size)⟩
    · have hN' : (N != 0) = true := by rw [bne_iff_ne]; exact hN
      rw [decide_eq_false hN]
      clear hN
      go_enter Try.func118, Try.ntmps118
      go_wp2_with (go_at_call 79; refine (HWk.out _).mono ?_; rintro e w' ⟨rfl, rfl⟩)
      go_ret
      exact ⟨rfl, Hb0.out⟩
  have b7 : (k != 7) = true := by rw [bne_iff_ne]; exact k7
  by_cases h4 : n4 = 0
  case neg =>
    rw [show stmtImpN vars params k N ex n3 n4 = false by unfold stmtImpN; rw [decide_eq_false (show ¬ (k = 7 ∨ n4 = 0) by omega)]; simp]
    have h4' : (0 : Int) < n4 := by omega
    clear h4 hi hwn hwv k7
    go_enter Try.func118, Try.ntmps118
    go_wp2_with (go_at_call 79; refine (HWk.out _).mono ?_; rintro e w' ⟨rfl, rfl⟩)
    go_ret
    exact ⟨rfl, Hb0.out⟩
  subst h4
  by_cases k8 : k = 8
  · subst k8
    have e7 : stmtImpN vars params 8 N ex n3 0 = (decide (N = 0) && decide (0 < highOf vars params ex)) := by unfold stmtImpN; rw [hi]; simp
    rw [e7]
    clear hi hwn hwv e7 k7
    by_cases hN : N = 0
    · subst hN
      generalize highOf vars params ex = hh at *
      go_enter Try.func118, Try.ntmps118
      go_wp2_with (first
        | (go_at_call 79; refine (HWk.out _).mono ?_; rintro e w' ⟨rfl, rfl⟩)
        | (go_at_call 137; refine (Hhc.out _ Hb0.out).mono ?_; rintro e w' ⟨rfl, hb⟩))
      go_ret
      exact ⟨retB (by simp), Hb0.out.trans (hb.mono Hb0.out.size)⟩
    · have hN' : (N != 0) = true := by rw [bne_iff_ne]; exact hN
      rw [decide_eq_false hN]
      clear hN
      go_enter Try.func118, Try.ntmps118
      go_wp2_with (go_at_call 79; refine (HWk.out _).mono ?_; rintro e w' ⟨rfl, rfl⟩)
      go_ret
      exact ⟨rfl, Hb0.out⟩
  have b8 : (k != 8) = true := by rw [bne_iff_ne]; exact k8
  by_cases h3 : n3 = 0
  case neg =>
    rw [show stmtImpN vars params k N ex n3 0 = false by unfold stmtImpN; rw [decide_eq_false (show ¬ (k = 7 ∨ k = 8 ∨ n3 = 0) by omega)]; simp]
    have h3' : (0 : Int) < n3 := by omega
    clear h3 hi hwn hwv k7 k8
    go_enter Try.func118, Try.ntmps118
    go_wp2_with (go_at_call 79; refine (HWk.out _).mono ?_; rintro e w' ⟨rfl, rfl⟩)
    go_ret
    exact ⟨rfl, Hb0.out⟩
  subst h3
  by_cases k3 : k = 3
  · subst k3
    have e7 : stmtImpN vars params 3 N ex 0 0 = (decide (ex.length = 0) && (decide (N = -1) || (inB N 0 (params.length - 1) && decide (params.getD N.toNat 0 = 0)))) := by unfold stmtImpN; rw [hi]; simp
    rw [e7]
    clear hi hwv e7 k7 k8
    by_cases he : ex.length = 0
    case neg =>
      rw [decide_eq_false he]
      have he' : ((ex.length : Int) == 0) = false := by rw [beq_eq_false_iff_ne]; omega
      have he2 : (ex.length == 0) = false := by rw [beq_eq_false_iff_ne]; omega
      clear he hwn
      generalize ex.length = el at *
      go_enter Try.func118, Try.ntmps118
      go_wp2_with (go_at_call 79; refine (HWk.out _).mono ?_; rintro e w' ⟨rfl, rfl⟩)
      go_ret
      exact ⟨retB (by simp), Hb0.out⟩
    rw [decide_eq_true he, he, Bool.true_and]
    rw [he] at Hb0
    have Hb0 := Hb0
    clear Hex Hhi Hhc he
    by_cases hN : N = -1
    · subst hN
      clear hwn
      go_enter Try.func118, Try.ntmps118
      go_wp2_with (go_at_call 79; refine (HWk.out _).mono ?_; rintro e w' ⟨rfl, rfl⟩)
      go_ret
      exact ⟨rfl, Hb0.out⟩
    have bN : (N == -1) = false := by rw [beq_eq_false_iff_ne]; exact hN
    rw [decide_eq_false hN, Bool.false_or]
    clear hN
    cases hin : inB N 0 (params.length - 1)
    · simp only [hin] at hwn
      have HWn := Lib.hid hwn; clear hwn hin
      go_enter Try.func118, Try.ntmps118
      go_wp2_with (go_at_call 79; first | ((with_reducible refine (HWk.out _).mono ?_); rintro e w' ⟨rfl, rfl⟩) | ((with_reducible refine (HWn.out _).mono ?_); rintro e w' ⟨rfl, rfl⟩))
      go_ret
      exact ⟨rfl, Hb0.out⟩
    · have hN2 := inB_iff.1 hin
      simp only [hin] at hwn
      have HWn := Lib.hid hwn; clear hwn hin
      obtain ⟨y, rfl⟩ := Int.eq_ofNat_of_zero_le hN2.1
      have hy : y < params.length := by have := hN2.2; omega
      obtain ⟨b, o, e1, hbB, s0⟩ := Hp.out.at_ (j := y) (by rw [icells_length]; exact hy)
      subst e1
      rw [icells_get _ _ hy] at s0
      have s1 := (Hb0.out.cell (p := ⟨b, o + y, none⟩) hbB).trans s0
      have hgd : params.getD ((y : Int)).toNat 0 = params[y] := by rw [Int.toNat_natCast]; simp [List.getD, List.getElem?_eq_getElem hy]
      rw [hgd]
      have hyI : (y : Int) < (params.length : Int) := by omega
      have hy0 : (0 : Int) ≤ (y : Int) := by omega
      clear hgd hN2 s0
      generalize params[y] = z at *
      go_enter Try.func118, Try.ntmps118
      go_wp2_with (go_at_call 79; first | ((with_reducible refine (HWk.out _).mono ?_); rintro e w' ⟨rfl, rfl⟩) | ((with_reducible refine (HWn.out _).mono ?_); rintro e w' ⟨rfl, rfl⟩))
      go_ret
      exact ⟨retB (by first | rfl | simp), Hb0.out⟩
  have b3 : (k == 3) = false := by rw [beq_eq_false_iff_ne]; exact k3
  by_cases k6 : k = 6
  · subst k6
    have e7 : stmtImpN vars params 6 N ex 0 0 = (decide (ex.length = 0) && decide (N = 0)) := by unfold stmtImpN; rw [hi]; simp
    rw [e7]
    clear hi hwv hwn e7 k7 k8 k3 Hex Hhi Hhc
    by_cases he : ex.length = 0
    case neg =>
      rw [decide_eq_false he]
      have he' : ((ex.length : Int) == 0) = false := by rw [beq_eq_false_iff_ne]; omega
      have he2 : (ex.length == 0) = false := by rw [beq_eq_false_iff_ne]; omega
      clear he
      generalize ex.length = el at *
      go_enter Try.func118, Try.ntmps118
      go_wp2_with (go_at_call 79; refine (HWk.out _).mono ?_; rintro e w' ⟨rfl, rfl⟩)
      go_ret
      exact ⟨retB (by simp), Hb0.out⟩
    rw [decide_eq_true he, he, Bool.true_and]
    rw [he] at Hb0
    clear he
    by_cases hN : N = 0
    · subst hN
      go_enter Try.func118, Try.ntmps118
      go_wp2_with (go_at_call 79; refine (HWk.out _).mono ?_; rintro e w' ⟨rfl, rfl⟩)
      go_ret
      exact ⟨rfl, Hb0.out⟩
    · have bN : (N == 0) = false := by rw [beq_eq_false_iff_ne]; exact hN
      rw [decide_eq_false hN]
      clear hN
      go_enter Try.func118, Try.ntmps118
      go_wp2_with (go_at_call 79; refine (HWk.out _).mono ?_; rintro e w' ⟨rfl, rfl⟩)
      go_ret
      exact ⟨rfl, Hb0.out⟩
  have b6 : (k == 6) = false := by rw [beq_eq_false_iff_ne]; exact k6
  by_cases k1 : k = 1
  · subst k1
    have e7 : stmtImpN vars params 1 N ex 0 0 = (inB N 0 (vars - 1) && decide (0 < highOf vars params ex)) := by unfold stmtImpN; rw [hi]; simp
    rw [e7]
    clear hi hwn e7 k7 k8 k3 k6
    cases hin : inB N 0 (vars - 1)
    · simp only [hin] at hwv
      have HWn := Lib.hid hwv; clear hwv hin
      go_enter Try.func118, Try.ntmps118
      go_wp2_with (go_at_call 79; first | ((with_reducible refine (HWk.out _).mono ?_); rintro e w' ⟨rfl, rfl⟩) | ((with_reducible refine (HWn.out _).mono ?_); rintro e w' ⟨rfl, rfl⟩))
      go_ret
      exact ⟨rfl, Hb0.out⟩
    · simp only [hin] at hwv
      have HWn := Lib.hid hwv; clear hwv hin
      generalize highOf vars params ex = hh at *
      go_enter Try.func118, Try.ntmps118
      go_wp2_with (first
        | (go_at_call 79; first | ((with_reducible refine (HWk.out _).mono ?_); rintro e w' ⟨rfl, rfl⟩) | ((with_reducible refine (HWn.out _).mono ?_); rintro e w' ⟨rfl, rfl⟩))
        | (go_at_call 137; refine (Hhc.out _ Hb0.out).mono ?_; rintro e w' ⟨rfl, hb⟩))
      go_ret
      exact ⟨retB (by simp), Hb0.out.trans (hb.mono Hb0.out.size)⟩
  have b1 : (k == 1) = false := by rw [beq_eq_false_iff_ne]; exact k1
  have e7 : stmtImpN vars params k N ex 0 0 = (decide (N = 0) && decide (0 < highOf vars params ex)) := by unfold stmtImpN; rw [hi, if_neg k3, if_neg k6, if_neg k1]; simp
  rw [e7]
  clear hi hwn hwv e7 k7 k8 k3 k6 k1
  by_cases hN : N = 0
  · subst hN
    generalize highOf vars params ex = hh at *
    go_enter Try.func118, Try.ntmps118
    go_wp2_with (first
      | (go_at_call 79; refine (HWk.out _).mono ?_; rintro e w' ⟨rfl, rfl⟩)
      | (go_at_call 137; refine (Hhc.out _ Hb0.out).mono ?_; rintro e w' ⟨rfl, hb⟩))
    go_ret
    exact ⟨retB (by simp), Hb0.out.trans (hb.mono Hb0.out.size)⟩
  · have hN' : (N != 0) = true := by rw [bne_iff_ne]; exact hN
    rw [decide_eq_false hN]
    clear hN
    go_enter Try.func118, Try.ntmps118
    go_wp2_with (go_at_call 79; refine (HWk.out _).mono ?_; rintro e w' ⟨rfl, rfl⟩)
    go_ret
    exact ⟨rfl, Hb0.out⟩
end Go.Proofs.Ytheddnjhkcpmnaa
