
/- needs, areParams, highOf and the reference's: what the Go text returns. No condition. -/
import Derived.Test.YtheddnjhkcpmnaaGreatDoorEx
import Derived.Test.YtheddnjhkcpmnaaGreatDoorCfP
import Derived.Shelf.Lay
set_option linter.unusedSimpArgs false
set_option linter.unusedVariables false
set_option maxRecDepth 100000
namespace Go.Proofs.YtheddnjhkcpmnaaGreatDoor
open Go.RowKit Go.Shelf

theorem Rd.nil {w : World} {B : Nat} : Rd w B (.slice none 0 0) 0 [] := ⟨none, 0, rfl, Nat.le_refl _, by unfold maxLen; omega, fun j u hu => by simp at hu⟩
theorem Rd.long {w : World} {B n : Nat} {v : Value} {cs : List Value} (h : Rd w B v n cs) : n ≤ 9223372036854775807 := by
  obtain ⟨A, c, e, g1, g2, hc⟩ := h
  unfold maxLen at g2; omega
theorem below_box {w : World} {o : Obj} {w' : World} (h : Below (w.alloc o).heap.size (w.alloc o) w') : Below w.heap.size w w' :=
  ((Below.refl _ _).alloc (Nat.le_refl _) _).trans (h.mono (by rw [World.size_alloc]; omega))

theorem need_call {params : List Int} {k : Nat} (h : k < params.length) : need params ⟨11, k⟩ = params[k] := by
  unfold need; rw [if_pos rfl]; simp [List.getD, List.getElem?_eq_getElem h]
theorem need_two {params : List Int} {o n : Int} (h1 : o ≠ 11) (h2 : 3 ≤ o ∧ o ≤ 8) : need params ⟨o, n⟩ = 2 := by
  unfold need; rw [if_neg h1, if_pos h2]
theorem need_zero {params : List Int} {o n : Int} (h1 : o ≠ 11) (h2 : ¬ (3 ≤ o ∧ o ≤ 8)) : need params ⟨o, n⟩ = 0 := by
  unfold need; rw [if_neg h1, if_neg h2]

theorem impl_isReckoned (o : Int) (w : World) : Calls Tryz.prog 63 #[.int .i64 o] w fun e w' => e = .returned (.bool (inB o 3 8)) ∧ w = w' := by
  go_enter Tryz.func63, Tryz.ntmps63
  go_wp2_with (go_at_call 22; refine (impl_within o _ _ _).mono ?_; rintro e w' ⟨rfl, rfl⟩)
  go_ret
  exact ⟨rfl, rfl⟩

set_option maxHeartbeats 800000 in
theorem impl_needs (o n : Int) (params : List Int) (v : Value) (w : World) (hr : Rd w w.heap.size v params.length (icells .i64 params)) (h : o = 11 → 0 ≤ n ∧ n ≤ params.length - 1) :
    Calls Tryz.prog 40 #[.agg #[.int .i64 o, .int .i64 n], v] w fun e w' => e = .returned (.int .i64 (need params ⟨o, n⟩)) ∧ Below w.heap.size w w' := by
  have hl := hr.long
  obtain ⟨A, c, rfl, hn, hc, hcell⟩ := id hr
  by_cases o1 : o = 11
  · subst o1
    obtain ⟨h1, h2⟩ := h rfl
    obtain ⟨k, rfl⟩ := Int.eq_ofNat_of_zero_le h1
    have hk : k < params.length := by omega
    obtain ⟨b, off, rfl, hbB, hs⟩ := hr.at_ (j := k) (by rw [icells_length]; exact hk)
    rw [icells_get _ _ hk] at hs
    rw [need_call hk]
    clear hcell hr h h1 h2
    go_enter Tryz.func40, Tryz.ntmps40
    go_wp2
    go_ret
    exact ⟨rfl, (Below.refl _ _).alloc (Nat.le_refl _) _⟩
  · have b1 : (o == 11) = false := by rw [beq_eq_false_iff_ne]; exact o1
    clear h hcell hr hn hc
    by_cases h : 3 ≤ o ∧ o ≤ 8
    · rw [need_two o1 h]
      have hin := fun w => impl_isReckoned o w
      rw [inB_yes h.1 h.2] at hin
      have Hin := Lib.hid hin; clear hin o1 h
      go_enter Tryz.func40, Tryz.ntmps40
      go_wp2_with (go_at_call 63; refine (Hin.out _).mono ?_; rintro e w' ⟨rfl, rfl⟩)
      go_ret
      exact ⟨rfl, (Below.refl _ _).alloc (Nat.le_refl _) _⟩
    · rw [need_zero o1 h]
      have hin := fun w => impl_isReckoned o w
      rw [inB_no (by omega)] at hin
      have Hin := Lib.hid hin; clear hin o1 h
      go_enter Tryz.func40, Tryz.ntmps40
      go_wp2_with (go_at_call 63; refine (Hin.out _).mono ?_; rintro e w' ⟨rfl, rfl⟩)
      go_ret
      exact ⟨rfl, (Below.refl _ _).alloc (Nat.le_refl _) _⟩
set_option maxHeartbeats 800000 in
theorem spec_l2Needs (o n : Int) (params : List Int) (v : Value) (w : World) (hr : Rd w w.heap.size v params.length (icells .i64 params)) (h : o = 11 → 0 ≤ n ∧ n ≤ params.length - 1) :
    Calls Tryz.prog 43 #[.agg #[.int .i64 o, .int .i64 n], v] w fun e w' => e = .returned (.int .i64 (need params ⟨o, n⟩)) ∧ Below w.heap.size w w' := by
  have hl := hr.long
  obtain ⟨A, c, rfl, hn, hc, hcell⟩ := id hr
  by_cases o1 : o = 11
  · subst o1
    obtain ⟨h1, h2⟩ := h rfl
    obtain ⟨k, rfl⟩ := Int.eq_ofNat_of_zero_le h1
    have hk : k < params.length := by omega
    obtain ⟨b, off, rfl, hbB, hs⟩ := hr.at_ (j := k) (by rw [icells_length]; exact hk)
    rw [icells_get _ _ hk] at hs
    rw [need_call hk]
    clear hcell hr h h1 h2
    go_enter Tryz.func43, Tryz.ntmps43
    go_wp2_with (go_at_call 28; refine (spec_l1In_no _ _ _ (by omega) _).mono ?_; rintro e w' ⟨rfl, rfl⟩)
    go_ret
    exact ⟨rfl, (Below.refl _ _).alloc (Nat.le_refl _) _⟩
  · have b1 : (o == 11) = false := by rw [beq_eq_false_iff_ne]; exact o1
    clear h hcell hr hn hc
    by_cases h : 3 ≤ o ∧ o ≤ 8
    · rw [need_two o1 h]
      obtain ⟨h1, h2⟩ := h
      clear o1
      go_enter Tryz.func43, Tryz.ntmps43
      go_wp2_with (go_at_call 28; refine (spec_l1In_yes _ _ _ h1 h2 _).mono ?_; rintro e w' ⟨rfl, rfl⟩)
      go_ret
      exact ⟨rfl, (Below.refl _ _).alloc (Nat.le_refl _) _⟩
    · rw [need_zero o1 h]
      have h' : o < 3 ∨ 8 < o := by omega
      clear o1 h
      go_enter Tryz.func43, Tryz.ntmps43
      go_wp2_with (go_at_call 28; refine (spec_l1In_no _ _ _ h' _).mono ?_; rintro e w' ⟨rfl, rfl⟩)
      go_ret
      exact ⟨rfl, (Below.refl _ _).alloc (Nat.le_refl _) _⟩

def allIn (l : List Int) (lo hi : Int) : Bool := l.all fun n => inB n lo hi
theorem allIn_end {l : List Int} {lo hi : Int} : allIn (l.drop l.length) lo hi = true := by simp [allIn]
theorem allIn_yes {l : List Int} {lo hi : Int} {k : Nat} (hk : k < l.length) (h : inB l[k] lo hi = true) : allIn (l.drop k) lo hi = allIn (l.drop (k + 1)) lo hi := by
  unfold allIn; rw [List.drop_eq_getElem_cons hk, List.all_cons, h, Bool.true_and]
theorem allIn_no {l : List Int} {lo hi : Int} {k : Nat} (hk : k < l.length) (h : inB l[k] lo hi = false) : allIn (l.drop k) lo hi = false := by
  unfold allIn; rw [List.drop_eq_getElem_cons hk, List.all_cons, h, Bool.false_and]
set_option maxHeartbeats 800000 in
theorem spec_l1All (v : Value) (l : List Int) (lo hi : Int) (w : World) (B : Nat) (hr : Rd w B v l.length (icells .i64 l)) :
    Calls Tryz.prog 64 #[v, .int .i64 lo, .int .i64 hi] w fun e w' => e = .returned (.bool (allIn l lo hi)) ∧ w = w' := by
  have hl := hr.long
  obtain ⟨A, c, rfl, hn, hc, hcell⟩ := id hr
  have Hr := hide hr; clear hr hcell
  go_enter Tryz.func64, Tryz.ntmps64
  go_wp2
  go_loop [11] (fun i => ∃ k : Nat, k ≤ l.length ∧ i = .int .i64 k ∧ allIn (l.drop k) lo hi = allIn l lo hi) (fun i => l.length - (intOf i).toNat)
  case atStart => exact ⟨0, by omega, rfl, rfl⟩
  case round =>
    obtain ⟨k, hk, rfl, hal⟩ := hrel
    by_cases hlt : k < l.length
    · obtain ⟨b, o, rfl, hbB, hs⟩ := Hr.out.at_ (j := k) (by rw [icells_length]; exact hlt)
      rw [icells_get _ _ hlt] at hs
      have hin := fun w => spec_l1In l[k] lo hi w
      cases g : inB l[k] lo hi
      · have Hn := hide (hal.symm.trans (allIn_no hlt g))
        simp only [g] at hin
        have Hin := Lib.hid hin; clear hin g hal Hr
        go_wp2_with (go_at_call 28; refine (Hin.out _).mono ?_; rintro e w' ⟨rfl, rfl⟩)
        go_ret
        exact ⟨retB Hn.out.symm, rfl⟩
      · have Hy := hide ((allIn_yes hlt g).symm.trans hal)
        simp only [g] at hin
        have Hin := Lib.hid hin; clear hin g hal Hr
        go_wp2_with (go_at_call 28; refine (Hin.out _).mono ?_; rintro e w' ⟨rfl, rfl⟩)
        go_round
        case rel => exact ⟨k + 1, by omega, by go_num, Hy.out⟩
        case measure => simp [intOf]; omega
    · obtain rfl : k = l.length := by omega
      have Hy := hide (hal.symm.trans allIn_end); clear hal
      go_wp2
      go_ret
      exact ⟨retB Hy.out.symm, rfl⟩

theorem parOk_allIn {l : List Int} : parOk l = (decide (l.length ≤ 5) && allIn l 0 2) := rfl
theorem spec_l2Params (v : Value) (l : List Int) (w : World) (B : Nat) (hr : Rd w B v l.length (icells .i64 l)) :
    Calls Tryz.prog 41 #[v] w fun e w' => e = .returned (.bool (parOk l)) ∧ w = w' := by
  have hl := hr.long
  obtain ⟨A, c, rfl, hn, hc, hcell⟩ := id hr
  have Hr := hide hr; clear hr hcell
  rw [parOk_allIn]
  by_cases g : l.length ≤ 5
  · rw [decide_eq_true g, Bool.true_and]
    go_enter Tryz.func41, Tryz.ntmps41
    go_wp2_with (go_at_call 64; refine (spec_l1All _ l _ _ _ _ Hr.out).mono ?_; rintro e w' ⟨rfl, rfl⟩)
    go_ret
    exact ⟨rfl, rfl⟩
  · rw [decide_eq_false g, Bool.false_and]
    go_enter Tryz.func41, Tryz.ntmps41
    go_wp2
    go_ret
    exact ⟨rfl, rfl⟩
theorem impl_areParams1 (n : Int) (w : World) : Calls Tryz.prog 60 #[.int .i64 n] w fun e w' => e = .returned (.bool (!inB n 0 2)) ∧ w = w' := by
  go_enter Tryz.func60, Tryz.ntmps60
  go_wp2_with (go_at_call 22; refine (impl_within n _ _ _).mono ?_; rintro e w' ⟨rfl, rfl⟩)
  go_ret
  exact ⟨rfl, rfl⟩
/-- ContainsFunc over numbers that are read -/
theorem anyInt (v : Value) (l : List Int) (p : Int → Bool) (g : Nat) (eg : ∀ args w, (callFunc g args).run Tryz.prog w = .ok (.enter g args) w) (w : World) (hr : Rd w w.heap.size v l.length (icells .i64 l))
    (hp : ∀ n W, Calls Tryz.prog g #[.int .i64 n] W fun e w' => e = .returned (.bool (p n)) ∧ W = w') :
    Calls Tryz.prog 59 #[v, .func (.func g) #[] #[]] w fun e w' => e = .returned (.bool (l.any p)) ∧ Below w.heap.size w w' := by
  have hl := hr.long
  obtain ⟨A, c, rfl, hn, hc, hcell⟩ := id hr
  rw [← anyq_list (q := fun j => p (l.getD j 0)) (p := p) (l := l) (fun j hj => by simp [List.getD, List.getElem?_eq_getElem hj])]
  refine cfI A l.length c (fun j => .int .i64 (l.getD j 0)) _ g #[] eg w hl (fun j hj => ?_) (fun j hj W hW => (hp _ W).mono fun e w' ⟨h1, h2⟩ => ⟨h1, by rw [← h2]; exact Below.refl _ _⟩)
  obtain ⟨b, o, hA, hbB, hs⟩ := hr.at_ (j := j) (by rw [icells_length]; exact hj)
  rw [icells_get _ _ hj] at hs
  exact ⟨b, o, hA, hbB, by rw [hs]; simp [List.getD, List.getElem?_eq_getElem hj]⟩
theorem any_not {l : List Int} {lo hi : Int} : (l.any fun n => !inB n lo hi) = !allIn l lo hi := by
  unfold allIn; rw [List.all_eq_not_any_not]; simp
theorem impl_areParams (v : Value) (l : List Int) (w : World) (hr : Rd w w.heap.size v l.length (icells .i64 l)) :
    Calls Tryz.prog 35 #[v] w fun e w' => e = .returned (.bool (parOk l)) ∧ Below w.heap.size w w' := by
  have hl := hr.long
  have hany := anyInt v l (fun n => !inB n 0 2) 60 (enters_of Tryz.func60 (by kernel_rfl) rfl) w hr (fun n W => impl_areParams1 n W)
  rw [any_not] at hany
  obtain ⟨A, c, rfl, hn, hc, hcell⟩ := id hr
  rw [parOk_allIn]
  by_cases g : l.length ≤ 5
  · rw [decide_eq_true g, Bool.true_and]
    generalize allIn l 0 2 = x at *
    have Hany := hide hany; clear hr hcell hany
    go_enter Tryz.func35, Tryz.ntmps35
    go_wp2_with (go_at_call 59; refine (Hany.out).mono ?_; rintro e w' ⟨rfl, hb⟩)
    go_ret
    exact ⟨retB (by simp), hb⟩
  · rw [decide_eq_false g, Bool.false_and]
    clear hr hcell hany
    go_enter Tryz.func35, Tryz.ntmps35
    go_wp2
    go_ret
    exact ⟨rfl, Below.refl _ _⟩
end Go.Proofs.YtheddnjhkcpmnaaGreatDoor
