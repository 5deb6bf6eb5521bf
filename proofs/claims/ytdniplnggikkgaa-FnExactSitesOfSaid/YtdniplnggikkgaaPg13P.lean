
/- The word of a function that is asked alone; what the closure asks of a statement. No condition. -/
import Derived.Test.YtdniplnggikkgaaPg8
set_option linter.unusedSimpArgs false
set_option linter.unusedVariables false
set_option maxRecDepth 100000
namespace Go.Proofs.Ytdniplnggikkgaa
open Go.RowKit

def dig (n j : Nat) : Int := ((n / 3 ^ j % 3 : Nat) : Int)
def digs (n : Nat) : List Int := [dig n 0, dig n 1, dig n 2, dig n 3, dig n 4]
theorem digs_length (n : Nat) : (digs n).length = 5 := rfl
theorem digs_get (n j : Nat) (h : j < (digs n).length) : (digs n)[j] = dig n j := by
  rw [digs_length] at h
  rcases j with _ | _ | _ | _ | _ | j
  · rfl
  · rfl
  · rfl
  · rfl
  · rfl
  · omega
theorem digs_ok (n : Nat) : parOk (digs n) = true := by
  refine parOk_iff.2 ⟨Nat.le_refl _, fun x hx => ?_⟩
  obtain ⟨j, hj, rfl⟩ := List.getElem_of_mem hx
  rw [digs_get n j hj]
  unfold dig
  omega
theorem digs_step {n j : Nat} {xs : List Int} (hj : j < 5) (hl : xs.length = 5) (h : xs.take j = (digs n).take j) : (xs.set j (dig n j)).take (j + 1) = (digs n).take (j + 1) := by
  rw [List.take_succ_eq_append_getElem (show j < (xs.set j (dig n j)).length by rw [List.length_set, hl]; exact hj), List.take_succ_eq_append_getElem (show j < (digs n).length from hj), digs_get n j (show j < (digs n).length from hj), List.getElem_set_self, List.take_set_of_le (Nat.le_refl _), h]
theorem digs_all {n : Nat} {xs : List Int} (hl : xs.length = 5) (h : xs.take 5 = (digs n).take 5) : xs = digs n := by
  have h1 : xs.take 5 = xs := List.take_of_length_le (by omega)
  have h2 : (digs n).take 5 = digs n := List.take_of_length_le (by rw [digs_length]; exact Nat.le_refl _)
  rw [h1, h2] at h; exact h
def aloneB (f : FuncM) : Bool := (List.range 243).any fun n => funcB f (digs n)
theorem alone_yes {f : FuncM} {n : Nat} (hn : n < 243) (h : funcB f (digs n) = true) : aloneB f = true := by
  unfold aloneB; rw [List.any_eq_true]; exact ⟨n, List.mem_range.2 hn, h⟩
theorem alone_no {f : FuncM} (h : ∀ n, n < 243 → funcB f (digs n) = false) : aloneB f = false := by
  unfold aloneB; rw [List.any_eq_false]; exact fun n hn => by rw [h n (List.mem_range.1 hn)]; simp
def loneN (vars : Int) (params : List Int) (k N : Int) (ex : List P2) (n3 n4 : Nat) : Bool := if k = 3 then inB N 0 4 && stmtImpN vars params 3 (-1) ex n3 n4 else stmtImpN vars params k N ex n3 n4
theorem lone_ok {vars : Int} {params : List Int} (hv : 0 ≤ vars ∧ vars ≤ 6) (hp : parOk params = true) (h5 : params.length = 5) {k N : Int} {ex : List P2} {n3 n4 : Nat} : loneN vars params k N ex n3 n4 = stmtOkN vars params k N ex n3 n4 := by
  unfold loneN
  split
  · next h => subst h; rw [← stmt_lone, h5]; rfl
  · next h => exact stmt_eq hv hp h
set_option maxHeartbeats 1600000 in
theorem impl_isLoneFunc1 (a0 vars : Int) (x2 x3 : Value) (k N : Int) (ex : List P2) (A5 A6 A7 : Option Addr) (c5 c6 c7 n3 n4 : Nat) (params : List Int) (Ap : Option Addr) (cp : Nat) (w : World) (gf gp : Nat)
    (hex : Rd w w.heap.size (.slice A5 ex.length c5) ex.length (pcells ex)) (hp : Rd w w.heap.size (.slice Ap params.length cp) params.length (icells .i64 params)) (hv : 0 ≤ vars) (hv2 : vars ≤ 6) (hok : parOk params = true)
    (hf : Bk w gf 42 #[.int .i64 a0, .int .i64 vars, x2, x3]) (hpb : Bk w gp 33 #[.slice Ap params.length cp]) :
    Calls Try.prog 81 #[.agg #[.int .i64 k, .int .i64 N, .slice A5 ex.length c5, .slice A6 n3 c6, .slice A7 n4 c7], .pointer (some ⟨gf, 0, none⟩), .pointer (some ⟨gp, 0, none⟩)] w fun e w' => e = .returned (.bool (!loneN vars params k N ex n3 n4)) ∧ Below w.heap.size w w' := by
  have hgf := hf.lt; have hgp := hpb.lt
  have f0 := hf.cell 0; have f1 := hf.cell 1; have f2 := hf.cell 2; have f3 := hf.cell 3; have p0 := hpb.cell 0
  have hb0 := (Below.refl w.heap.size w).alloc (Nat.le_refl _) (.cells #[.int .i64 k, .int .i64 N, .slice A5 ex.length c5, .slice A6 n3 c6, .slice A7 n4 c7] 71)
  by_cases hk3 : k = 3
  · subst hk3
    have e : loneN vars params 3 N ex n3 n4 = (inB N 0 4 && stmtImpN vars params 3 (-1) ex n3 n4) := rfl
    rw [e]; clear e
    have hw := fun w => impl_within N 0 4 w
    cases hi : inB N 0 4
    · simp only [hi] at hw
      have HW := Lib.hid hw; have Hb0 := hide hb0; clear hw hi hb0 hf hpb hp hex
      go_enter Try.func81, Try.ntmps81
      go_wp2_with (go_at_call 60; refine (HW.out _).mono ?_; rintro e w2 ⟨rfl, rfl⟩)
      go_ret
      exact ⟨rfl, Hb0.out⟩
    · simp only [hi] at hw
      have hb1 := (Below.refl w.heap.size w).alloc (Nat.le_refl _) (.cells #[.int .i64 3, .int .i64 (-1), .slice A5 ex.length c5, .slice A6 n3 c6, .slice A7 n4 c7] 71)
      have hst := impl_isStmt a0 vars x2 x3 3 (-1) ex A5 A6 A7 c5 c6 c7 n3 n4 params (.slice Ap params.length cp) _ (hex.here hb1) (hp.here hb1) hv hv2 hok
      generalize stmtImpN vars params 3 (-1) ex n3 n4 = R at *
      have HW := Lib.hid hw; have Hb0 := hide hb0; have Hb1 := hide hb1; have Hst := hide hst; clear hw hi hb0 hb1 hf hpb hp hex hst hok
      go_enter Try.func81, Try.ntmps81
      go_wp2_with (first
        | (go_at_call 60; refine (HW.out _).mono ?_; rintro e w2 ⟨rfl, rfl⟩)
        | (go_at_call 78; refine (Hst.out).mono ?_; rintro e w3 ⟨rfl, hb3⟩))
      go_ret
      exact ⟨rfl, Hb1.out.trans (hb3.mono Hb1.out.size)⟩
  · have e : loneN vars params k N ex n3 n4 = stmtImpN vars params k N ex n3 n4 := by unfold loneN; rw [if_neg hk3]
    rw [e]; clear e
    have hst := impl_isStmt a0 vars x2 x3 k N ex A5 A6 A7 c5 c6 c7 n3 n4 params (.slice Ap params.length cp) _ (hex.here hb0) (hp.here hb0) hv hv2 hok
    generalize stmtImpN vars params k N ex n3 n4 = R at *
    have b3 : (k == 3) = false := by rw [beq_eq_false_iff_ne]; exact hk3
    have Hb0 := hide hb0; have Hst := hide hst; clear hb0 hf hpb hp hex hst hok hk3
    go_enter Try.func81, Try.ntmps81
    go_wp2_with (go_at_call 78; refine (Hst.out).mono ?_; rintro e w3 ⟨rfl, hb3⟩)
    go_ret
    exact ⟨rfl, Hb0.out.trans (hb3.mono Hb0.out.size)⟩
end Go.Proofs.Ytdniplnggikkgaa
