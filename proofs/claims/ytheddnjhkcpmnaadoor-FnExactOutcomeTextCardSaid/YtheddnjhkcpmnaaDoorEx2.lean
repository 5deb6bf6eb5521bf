
/- needs, areParams, highOf and the reference's: what the Go text returns. No condition. -/
import Derived.Test.YtheddnjhkcpmnaaDoorEx
import Derived.Test.YtheddnjhkcpmnaaDoorCfP
import Derived.Shelf.Lay
set_option linter.unusedSimpArgs false
set_option linter.unusedVariables false
set_option maxRecDepth 100000
namespace Go.Proofs.YtheddnjhkcpmnaaDoor
open Go.RowKit Go.Shelf

theorem Rd.nil {w : World} {B : Nat} : Rd w B (.slice none 0 0) 0 [] := ⟨none, 0, rfl, Nat.le_refl _, by unfold maxLen; omega, fun j u hu => by simp at hu⟩
theorem Rd.long {w : World} {B n : Nat} {v : Value} {cs : List Value} (h : Rd w B v n cs) : n ≤ 9223372036854775807 := by
  obtain ⟨A, c, e, g1, g2, hc⟩ := h
  unfold maxLen at g2; omega
theorem below_box {w : World} {o : Obj} {w' : World} (h : Below (w.alloc o).heap.size (w.alloc o) w') : Below w.heap.size w w' :=
  ((Below.refl _ _).alloc (Nat.le_refl _) _).trans (h.mono (by rw [World.size_alloc]; omega))

theorem need_call {params : List Int} {k : Nat} (h : k < params.length) : need params ⟨11, k⟩ = params[k] := by
  unfold need; rw [if_pos rfl]; simp [List.getD, List.getElem?_eq_getElem h]
theorem need_two {params : List Int} {o n : Int} (h1 : o ≠ 11) (h2 : 3 ≤ o ∧ o ≤ 8) : need params ⟨o, n⟩ = 2 := by
  unfold need; rw [if_neg h1, if_pos h2]
theorem need_zero {params : List Int} {o n : Int} (h1 : o ≠ 11) (h2 : ¬ (3 ≤ o ∧ o ≤ 8)) : need params ⟨o, n⟩ = 0 := by
  unfold need; rw [if_neg h1, if_neg h2]

theorem impl_isReckoned (o : Int) (w : World) : Calls Tryd.prog 58 #[.int .i64 o] w fun e w' => e = .returned (.bool (inB o 3 8)) ∧ w = w' := by
  go_enter Tryd.func58, Tryd.ntmps58
  go_wp2_with (go_at_call 30; refine (impl_within o _ _ _).mono ?_; rintro e w' ⟨rfl, rfl⟩)
  go_ret
  exact ⟨rfl, rfl⟩

def allIn (l : List Int) (lo hi : Int) : Bool := l.all fun n => inB n lo hi
theorem allIn_end {l : List Int} {lo hi : Int} : allIn (l.drop l.length) lo hi = true := by simp [allIn]
theorem allIn_yes {l : List Int} {lo hi : Int} {k : Nat} (hk : k < l.length) (h : inB l[k] lo hi = true) : allIn (l.drop k) lo hi = allIn (l.drop (k + 1)) lo hi := by
  unfold allIn; rw [List.drop_eq_getElem_cons hk, List.all_cons, h, Bool.true_and]
theorem allIn_no {l : List Int} {lo hi : Int} {k : Nat} (hk : k < l.length) (h : inB l[k] lo hi = false) : allIn (l.drop k) lo hi = false := by
  unfold allIn; rw [List.drop_eq_getElem_cons hk, List.all_cons, h, Bool.false_and]
set_option maxHeartbeats 800000 in
theorem spec_l1All (v : Value) (l : List Int) (lo hi : Int) (w : World) (B : Nat) (hr : Rd w B v l.length (icells .i64 l)) :
    Calls Tryd.prog 26 #[v, .int .i64 lo, .int .i64 hi] w fun e w' => e = .returned (.bool (allIn l lo hi)) ∧ w = w' := by
  have hl := hr.long
  obtain ⟨A, c, rfl, hn, hc, hcell⟩ := id hr
  have Hr := hide hr; clear hr hcell
  go_enter Tryd.func26, Tryd.ntmps26
  go_wp2
  go_loop [11] (fun i => ∃ k : Nat, k ≤ l.length ∧ i = .int .i64 k ∧ allIn (l.drop k) lo hi = allIn l lo hi) (fun i => l.length - (intOf i).toNat)
  case atStart => exact ⟨0, by omega, rfl, rfl⟩
  case round =>
    obtain ⟨k, hk, rfl, hal⟩ := hrel
    by_cases hlt : k < l.length
    · obtain ⟨b, o, rfl, hbB, hs⟩ := Hr.out.at_ (j := k) (by rw [icells_length]; exact hlt)
      rw [icells_get _ _ hlt] at hs
      have hin := fun w => spec_l1In l[k] lo hi w
      cases g : inB l[k] lo hi
      · have Hn := hide (hal.symm.trans (allIn_no hlt g))
        simp only [g] at hin
        have Hin := Lib.hid hin; clear hin g hal Hr
        go_wp2_with (go_at_call 25; refine (Hin.out _).mono ?_; rintro e w' ⟨rfl, rfl⟩)
        go_ret
        exact ⟨retB Hn.out.symm, rfl⟩
      · have Hy := hide ((allIn_yes hlt g).symm.trans hal)
        simp only [g] at hin
        have Hin := Lib.hid hin; clear hin g hal Hr
        go_wp2_with (go_at_call 25; refine (Hin.out _).mono ?_; rintro e w' ⟨rfl, rfl⟩)
        go_round
        case rel => exact ⟨k + 1, by omega, by go_num, Hy.out⟩
        case measure => simp [intOf]; omega
    · obtain rfl : k = l.length := by omega
      have Hy := hide (hal.symm.trans allIn_end); clear hal
      go_wp2
      go_ret
      exact ⟨retB Hy.out.symm, rfl⟩

theorem parOk_allIn {l : List Int} : parOk l = (decide (l.length ≤ 5) && allIn l 0 2) := rfl
/-- ContainsFunc over numbers that are read -/
theorem anyInt (v : Value) (l : List Int) (p : Int → Bool) (g : Nat) (eg : ∀ args w, (callFunc g args).run Tryd.prog w = .ok (.enter g args) w) (w : World) (hr : Rd w w.heap.size v l.length (icells .i64 l))
    (hp : ∀ n W, Calls Tryd.prog g #[.int .i64 n] W fun e w' => e = .returned (.bool (p n)) ∧ W = w') :
    Calls Tryd.prog 32 #[v, .func (.func g) #[] #[]] w fun e w' => e = .returned (.bool (l.any p)) ∧ Below w.heap.size w w' := by
  have hl := hr.long
  obtain ⟨A, c, rfl, hn, hc, hcell⟩ := id hr
  rw [← anyq_list (q := fun j => p (l.getD j 0)) (p := p) (l := l) (fun j hj => by simp [List.getD, List.getElem?_eq_getElem hj])]
  refine cfI A l.length c (fun j => .int .i64 (l.getD j 0)) _ g #[] eg w hl (fun j hj => ?_) (fun j hj W hW => (hp _ W).mono fun e w' ⟨h1, h2⟩ => ⟨h1, by rw [← h2]; exact Below.refl _ _⟩)
  obtain ⟨b, o, hA, hbB, hs⟩ := hr.at_ (j := j) (by rw [icells_length]; exact hj)
  rw [icells_get _ _ hj] at hs
  exact ⟨b, o, hA, hbB, by rw [hs]; simp [List.getD, List.getElem?_eq_getElem hj]⟩
theorem any_not {l : List Int} {lo hi : Int} : (l.any fun n => !inB n lo hi) = !allIn l lo hi := by
  unfold allIn; rw [List.all_eq_not_any_not]; simp
end Go.Proofs.YtheddnjhkcpmnaaDoor
